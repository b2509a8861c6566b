/- The functions that the law reaches, each as a Lean function and with its contract, part 1. -/
import Derived.Test.YtcfcnnamjfgahaaDoorV1
import Derived.Test.YtcfcnnamjfgahaaDoorV2
import Derived.Test.YtcfcnnamjfgahaaDoorV3
import Derived.Tactics
import Derived.Tactics2
import Derived.Defers
import Derived.Recover
import Derived.Laws.Pointers
import Derived.WalkKit
import Derived.Test.YtcfcnnamjfgahaaDoorProg
open Go Go.VM
namespace Go.AK
set_option maxRecDepth 100000
set_option linter.unusedVariables false
set_option linter.unusedSimpArgs false
set_option linter.unusedSectionVars false
variable [Bor]
def ty : List (Nat × U) := [(1, .oth), (2, (.int .i64)), (3, (.int .i64)), (4, .bool), (5, (.int .u8)), (6, (.int .u8)), (7, (.pair (.int .i64) (.pair (.int .i64) (.pair .bool (.pair (.int .u8) .unit))))), (8, (.pair (.int .i64) (.pair (.int .i64) (.pair .bool (.pair (.int .u8) .unit))))), (9, .str), (10, .str), (11, .str), (12, (.int .u64)), (13, (.pair .str (.pair (.int .u64) .unit))), (14, (.pair .str (.pair (.int .u64) .unit))), (15, .oth), (16, .oth), (17, .oth), (18, (.pair .oth .unit)), (19, (.pair .oth .unit)), (20, .oth), (21, (.int .i32)), (22, (.sl false (.int .u8))), (23, (.pair (.sl false (.int .u8)) (.pair (.int .i64) .unit))), (24, (.pair (.sl false (.int .u8)) (.pair (.int .i64) .unit))), (25, .oth), (26, .oth), (27, (.pair (.sl false (.int .u8)) (.pair (.int .i64) .unit))), (28, .oth), (29, .oth), (30, .oth), (31, (.sl false (.pair (.int .i64) (.pair (.int .i64) .unit)))), (33, .oth), (34, .oth), (35, .oth), (36, .oth), (37, (.pair (.int .i64) (.pair (.int .i64) .unit))), (38, (.pair (.int .i64) (.pair (.int .i64) .unit))), (39, .oth), (40, (.pair (.int .i64) (.pair (.int .i64) .unit))), (41, .oth), (42, .oth), (43, (.sl false (.pair .str (.pair .str .unit)))), (44, .oth), (45, .oth), (46, (.sl false (.pair .str (.pair .str .unit)))), (47, .oth), (48, .oth), (49, .oth), (50, .oth), (51, .oth), (52, .oth), (53, .oth), (54, .oth), (55, .oth), (56, .unit), (57, .unit), (58, .oth), (59, .oth), (60, .oth), (61, (.int .u64)), (62, .oth), (63, .oth), (64, (.pair .str (.pair .str .unit))), (65, (.pair .str (.pair .str .unit))), (66, .oth), (67, .oth), (68, (.pair .str (.pair .str .unit))), (69, .oth), (70, .oth), (71, (.pair .oth (.pair (.sl false (.int .u8)) .unit))), (72, (.pair .oth (.pair (.sl false (.int .u8)) .unit))), (73, .oth), (74, .oth), (75, .oth), (77, .oth), (79, .oth), (80, .oth), (81, .oth), (82, .oth), (83, .oth), (84, .oth), (85, (.pair (.pair (.bs (.int .u8)) (.pair (.int .i64) .unit)) (.pair (.int .i64) (.pair .bool .unit)))), (86, (.pair (.pair (.bs (.int .u8)) (.pair (.int .i64) .unit)) (.pair (.int .i64) (.pair .bool .unit)))), (87, .oth), (88, (.int .u64)), (89, .oth), (90, .oth), (91, .oth), (93, .oth), (94, .oth), (95, (.pair (.sl false (.int .u8)) (.pair (.int .i64) .unit))), (96, (.pair (.sl false (.int .u8)) (.pair (.int .i64) .unit))), (97, .oth), (98, .oth), (99, (.sl false .str)), (100, (.sl false .bool)), (102, .oth), (103, .oth), (104, .oth), (105, .oth), (106, .oth), (107, .oth), (109, .oth), (110, (.ar 64 (.int .u8))), (111, .oth), (112, .oth), (113, .oth), (114, .oth), (115, .oth), (116, (.ar 24 (.int .u8))), (117, .oth), (119, .oth), (120, .oth), (121, (.ar 20 (.int .u64))), (122, (.int .u32)), (123, (.ar 65 (.int .u8))), (124, .oth), (125, .oth), (126, (.ar 32 (.int .u8))), (127, (.pair .oth (.pair .oth (.pair .oth (.pair .str .unit))))), (128, (.pair .oth (.pair .oth (.pair .oth (.pair .str .unit))))), (129, (.ar 0 .oth)), (132, (.int .u8)), (133, (.int .u8)), (134, .oth), (135, (.int .i32)), (136, (.int .i32)), (137, (.pair (.int .u64) (.pair (.int .u64) (.pair (.int .u32) (.pair (.int .u8) (.pair (.int .u8) (.pair (.int .u8) (.pair (.int .u8) (.pair .oth (.pair .oth (.pair (.int .i32) (.pair (.int .i32) .unit)))))))))))), (138, (.pair (.int .u64) (.pair (.int .u64) (.pair (.int .u32) (.pair (.int .u8) (.pair (.int .u8) (.pair (.int .u8) (.pair (.int .u8) (.pair .oth (.pair .oth (.pair (.int .i32) (.pair (.int .i32) .unit))))))))))))]
def gl : List (Nat × TV) := [(0, ⟨.ar 64 (.int .u8), ([0, 1, 56, 2, 57, 49, 28, 3, 61, 58, 42, 50, 38, 29, 17, 4, 62, 47, 59, 36, 45, 43, 51, 22, 53, 39, 33, 30, 24, 18, 12, 5, 63, 55, 48, 27, 60, 41, 37, 16, 46, 35, 44, 21, 52, 32, 23, 11, 54, 26, 40, 15, 34, 20, 31, 10, 25, 14, 19, 9, 13, 8, 7, 6] : List Int)⟩)]
theorem tabs : Tabs Go.Proofs.Tryd.prog ty gl := tabs_ofG (by kernel_rfl) (by kernel_rfl) (by kernel_rfl)
/-! loop.example/g00039/laws.szByteS -/
def laws_szByteS.T : List Ctr := []
def laws_szByteS.md : List (Nat × List Md) := []
noncomputable def laws_szByteS.F : Fun := ⟨(Go.Proofs.Tryd.f27.body).getD .skip, [.v (.sl false (.int .u8)), .v (.int .i64)], [(.tmp 4, (.int .i64))], [], 0, []⟩
inductive laws_szByteS.Pt where
  | p0 (a0 : List (Int)) (a1 : Int)
def laws_szByteS.lb : laws_szByteS.Pt → Nat
  | .p0 _ _ => 0
def laws_szByteS.st : laws_szByteS.Pt → St
  | .p0 a0 a1 => enter [.v (.sl false (.int .u8)) a0, .v (.int .i64) a1] 0
def laws_szByteS.step (n : Nat) (K : laws_szByteS.Pt → Option (Tup [(.int .i64)])) : laws_szByteS.Pt → Option (Tup [(.int .i64)])
  | .p0 a0 a1 => cond (decide ((IntKind.wrap .i64 (a1 - ((List.length a0) : Int))) < (0 : Int))) (some (-(1 : Int))) (some (IntKind.wrap .i64 (a1 - ((List.length a0) : Int))))
def laws_szByteS (n : Nat) (a0 : List (Int)) (a1 : Int) : Option (Tup [(.int .i64)]) := goRec laws_szByteS.step n (.p0 a0 a1)
def laws_szByteS.spec : Ctr := ⟨27, [.v (.sl false (.int .u8)), .v (.int .i64)], [(.int .i64)], [], none, fun n x => laws_szByteS n x.1 x.2.1⟩
theorem laws_szByteS.seg_eq : SegEq ty gl laws_szByteS.F laws_szByteS.md laws_szByteS.T laws_szByteS.spec laws_szByteS.lb laws_szByteS.st laws_szByteS.step := by
  intro n goto y; cases y <;> kernel_rfl
theorem laws_szByteS.text : Text Go.Proofs.Tryd.prog laws_szByteS.F laws_szByteS.spec := textOf Go.Proofs.Tryd.f27
theorem laws_szByteS.ok : CtrOK Go.Proofs.Tryd.prog gl laws_szByteS.spec :=
  ctr_okS tabs laws_szByteS.text laws_szByteS.seg_eq (fun n x => ⟨.p0 x.1 x.2.1, rfl, rfl, rfl⟩) (nilC)

/-! loop.example/g00039/laws.szBits -/
def laws_szBits.T : List Ctr := [laws_szByteS.spec]
def laws_szBits.md : List (Nat × List Md) := []
noncomputable def laws_szBits.F : Fun := ⟨(Go.Proofs.Tryd.f7.body).getD .skip, [.v (.pair (.sl false (.int .u8)) (.pair (.int .i64) .unit)), .v (.int .i64)], [(.tmp 4, (.int .i64))], [], 0, []⟩
inductive laws_szBits.Pt where
  | p0 (a0 : (List (Int)) × ((Int) × (Unit))) (a1 : Int)
def laws_szBits.lb : laws_szBits.Pt → Nat
  | .p0 _ _ => 0
def laws_szBits.st : laws_szBits.Pt → St
  | .p0 a0 a1 => enter [.v (.pair (.sl false (.int .u8)) (.pair (.int .i64) .unit)) a0, .v (.int .i64) a1] 0
def laws_szBits.step (n : Nat) (K : laws_szBits.Pt → Option (Tup [(.int .i64)])) : laws_szBits.Pt → Option (Tup [(.int .i64)])
  | .p0 a0 a1 => (laws_szByteS n a0.1 a1).bind fun (r5 : Int) => cond (decide (r5 < (0 : Int))) (some (-(1 : Int))) (some r5)
def laws_szBits (n : Nat) (a0 : (List (Int)) × ((Int) × (Unit))) (a1 : Int) : Option (Tup [(.int .i64)]) := goRec laws_szBits.step n (.p0 a0 a1)
def laws_szBits.spec : Ctr := ⟨7, [.v (.pair (.sl false (.int .u8)) (.pair (.int .i64) .unit)), .v (.int .i64)], [(.int .i64)], [], none, fun n x => laws_szBits n x.1 x.2.1⟩
theorem laws_szBits.seg_eq : SegEq ty gl laws_szBits.F laws_szBits.md laws_szBits.T laws_szBits.spec laws_szBits.lb laws_szBits.st laws_szBits.step := by
  intro n goto y; cases y <;> kernel_rfl
theorem laws_szBits.text : Text Go.Proofs.Tryd.prog laws_szBits.F laws_szBits.spec := textOf Go.Proofs.Tryd.f7
theorem laws_szBits.ok : CtrOK Go.Proofs.Tryd.prog gl laws_szBits.spec :=
  ctr_okS tabs laws_szBits.text laws_szBits.seg_eq (fun n x => ⟨.p0 x.1 x.2.1, rfl, rfl, rfl⟩) (consC laws_szByteS.ok (nilC))

/-! loop.example/g00039/laws.toByteS -/
def laws_toByteS.T : List Ctr := []
def laws_toByteS.md : List (Nat × List Md) := []
noncomputable def laws_toByteS.F : Fun := ⟨(Go.Proofs.Tryd.f28.body).getD .skip, [.v (.sl false (.int .u8))], [(.tmp 2, (.sl false (.int .u8)))], [], 0, [(9, ⟨[0, 3, 4], [(3, (.int .u8))], [], false⟩)]⟩
inductive laws_toByteS.Pt where
  | p0 (a0 : List (Int))
  | p9 (y1 : List (Int)) (y2 : Int) (y3 : List (Int))
def laws_toByteS.lb : laws_toByteS.Pt → Nat
  | .p0 _ => 0
  | .p9 _ _ _ => 9
def laws_toByteS.st : laws_toByteS.Pt → St
  | .p0 a0 => enter [.v (.sl false (.int .u8)) a0] 0
  | .p9 y1 y2 y3 => ⟨[(0, .im (.sl false (.int .u8)) y1), (3, .hs 0 [] none 0), (4, .im (.int .i64) y2)], [(0, .arr false (.int .u8) y3 0)], 1⟩
def laws_toByteS.step (n : Nat) (K : laws_toByteS.Pt → Option (Tup [(.sl false (.int .u8))])) : laws_toByteS.Pt → Option (Tup [(.sl false (.int .u8))])
  | .p0 a0 => cond (inC ((List.length a0) : Int) ((List.length a0) : Int) 1000000000) (K (.p9 a0 (0 : Int) (List.replicate (Int.toNat ((List.length a0) : Int)) (default : Int)))) (none)
  | .p9 y1 y2 y3 => cond (decide (y2 < ((List.length y1) : Int))) (cond (inB y2 (List.length y1)) (cond (inB y2 (List.length y3)) (K (.p9 y1 (IntKind.wrap .i64 (y2 + (1 : Int))) (List.set y3 (0 + (Int.toNat y2)) (List.getD y1 (Int.toNat y2) default)))) (none)) (none)) (some y3)
def laws_toByteS (n : Nat) (a0 : List (Int)) : Option (Tup [(.sl false (.int .u8))]) := goRec laws_toByteS.step n (.p0 a0)
def laws_toByteS.spec : Ctr := ⟨28, [.v (.sl false (.int .u8))], [(.sl false (.int .u8))], [], none, fun n x => laws_toByteS n x.1⟩
theorem laws_toByteS.seg_eq : SegEq ty gl laws_toByteS.F laws_toByteS.md laws_toByteS.T laws_toByteS.spec laws_toByteS.lb laws_toByteS.st laws_toByteS.step := by
  intro n goto y; cases y <;> kernel_rfl
theorem laws_toByteS.text : Text Go.Proofs.Tryd.prog laws_toByteS.F laws_toByteS.spec := textOf Go.Proofs.Tryd.f28
theorem laws_toByteS.ok : CtrOK Go.Proofs.Tryd.prog gl laws_toByteS.spec :=
  ctr_okS tabs laws_toByteS.text laws_toByteS.seg_eq (fun n x => ⟨.p0 x.1, rfl, rfl, rfl⟩) (nilC)

/-! loop.example/g00039/laws.toBits -/
def laws_toBits.T : List Ctr := [laws_toByteS.spec]
def laws_toBits.md : List (Nat × List Md) := []
noncomputable def laws_toBits.F : Fun := ⟨(Go.Proofs.Tryd.f9.body).getD .skip, [.v (.pair (.sl false (.int .u8)) (.pair (.int .i64) .unit))], [(.cell 2 27, (.pair (.sl false (.int .u8)) (.pair (.int .i64) .unit)))], [], 0, []⟩
inductive laws_toBits.Pt where
  | p0 (a0 : (List (Int)) × ((Int) × (Unit)))
def laws_toBits.lb : laws_toBits.Pt → Nat
  | .p0 _ => 0
def laws_toBits.st : laws_toBits.Pt → St
  | .p0 a0 => enter [.v (.pair (.sl false (.int .u8)) (.pair (.int .i64) .unit)) a0] 0
def laws_toBits.step (n : Nat) (K : laws_toBits.Pt → Option (Tup [(.pair (.sl false (.int .u8)) (.pair (.int .i64) .unit))])) : laws_toBits.Pt → Option (Tup [(.pair (.sl false (.int .u8)) (.pair (.int .i64) .unit))])
  | .p0 a0 => (laws_toByteS n a0.1).bind fun r4 => some (r4, a0.2)
def laws_toBits (n : Nat) (a0 : (List (Int)) × ((Int) × (Unit))) : Option (Tup [(.pair (.sl false (.int .u8)) (.pair (.int .i64) .unit))]) := goRec laws_toBits.step n (.p0 a0)
def laws_toBits.spec : Ctr := ⟨9, [.v (.pair (.sl false (.int .u8)) (.pair (.int .i64) .unit))], [(.pair (.sl false (.int .u8)) (.pair (.int .i64) .unit))], [], none, fun n x => laws_toBits n x.1⟩
theorem laws_toBits.seg_eq : SegEq ty gl laws_toBits.F laws_toBits.md laws_toBits.T laws_toBits.spec laws_toBits.lb laws_toBits.st laws_toBits.step := by
  intro n goto y; cases y <;> kernel_rfl
theorem laws_toBits.text : Text Go.Proofs.Tryd.prog laws_toBits.F laws_toBits.spec := textOf Go.Proofs.Tryd.f9
theorem laws_toBits.ok : CtrOK Go.Proofs.Tryd.prog gl laws_toBits.spec :=
  ctr_okS tabs laws_toBits.text laws_toBits.seg_eq (fun n x => ⟨.p0 x.1, rfl, rfl, rfl⟩) (consC laws_toByteS.ok (nilC))

/-! loop.example/g00039/laws.toSample -/
def laws_toSample.T : List Ctr := []
def laws_toSample.md : List (Nat × List Md) := []
noncomputable def laws_toSample.F : Fun := ⟨(Go.Proofs.Tryd.f19.body).getD .skip, [.v (.pair (.int .i64) (.pair (.int .i64) .unit))], [(.cell 2 40, (.pair (.int .i64) (.pair (.int .i64) .unit)))], [], 0, []⟩
inductive laws_toSample.Pt where
  | p0 (a0 : (Int) × ((Int) × (Unit)))
def laws_toSample.lb : laws_toSample.Pt → Nat
  | .p0 _ => 0
def laws_toSample.st : laws_toSample.Pt → St
  | .p0 a0 => enter [.v (.pair (.int .i64) (.pair (.int .i64) .unit)) a0] 0
def laws_toSample.step (n : Nat) (K : laws_toSample.Pt → Option (Tup [(.pair (.int .i64) (.pair (.int .i64) .unit))])) : laws_toSample.Pt → Option (Tup [(.pair (.int .i64) (.pair (.int .i64) .unit))])
  | .p0 a0 => some a0
def laws_toSample (n : Nat) (a0 : (Int) × ((Int) × (Unit))) : Option (Tup [(.pair (.int .i64) (.pair (.int .i64) .unit))]) := goRec laws_toSample.step n (.p0 a0)
def laws_toSample.spec : Ctr := ⟨19, [.v (.pair (.int .i64) (.pair (.int .i64) .unit))], [(.pair (.int .i64) (.pair (.int .i64) .unit))], [], none, fun n x => laws_toSample n x.1⟩
theorem laws_toSample.seg_eq : SegEq ty gl laws_toSample.F laws_toSample.md laws_toSample.T laws_toSample.spec laws_toSample.lb laws_toSample.st laws_toSample.step := by
  intro n goto y; cases y <;> kernel_rfl
theorem laws_toSample.text : Text Go.Proofs.Tryd.prog laws_toSample.F laws_toSample.spec := textOf Go.Proofs.Tryd.f19
theorem laws_toSample.ok : CtrOK Go.Proofs.Tryd.prog gl laws_toSample.spec :=
  ctr_okS tabs laws_toSample.text laws_toSample.seg_eq (fun n x => ⟨.p0 x.1, rfl, rfl, rfl⟩) (nilC)

/-! loop.example/g00039/spec.l1Bit -/
def spec_l1Bit.T : List Ctr := []
def spec_l1Bit.md : List (Nat × List Md) := []
noncomputable def spec_l1Bit.F : Fun := ⟨(Go.Proofs.Tryd.f62.body).getD .skip, [.v (.pair (.sl false (.int .u8)) (.pair (.int .i64) .unit)), .v (.int .i64)], [(.tmp 4, (.int .i64))], [], 0, []⟩
inductive spec_l1Bit.Pt where
  | p0 (a0 : (List (Int)) × ((Int) × (Unit))) (a1 : Int)
def spec_l1Bit.lb : spec_l1Bit.Pt → Nat
  | .p0 _ _ => 0
def spec_l1Bit.st : spec_l1Bit.Pt → St
  | .p0 a0 a1 => enter [.v (.pair (.sl false (.int .u8)) (.pair (.int .i64) .unit)) a0, .v (.int .i64) a1] 0
def spec_l1Bit.step (n : Nat) (K : spec_l1Bit.Pt → Option (Tup [(.int .i64)])) : spec_l1Bit.Pt → Option (Tup [(.int .i64)])
  | .p0 a0 a1 => cond (inB (IntKind.wrap .i64 (Int.tdiv a1 (8 : Int))) (List.length a0.1)) (cond (decide (0 ≤ (IntKind.wrap .u64 (IntKind.wrap .i64 ((7 : Int) - (Int.tmod a1 (8 : Int))))))) (some (band .i64 (IntKind.wrap .i64 (shr .u8 (List.getD a0.1 (Int.toNat (IntKind.wrap .i64 (Int.tdiv a1 (8 : Int)))) default) (IntKind.wrap .u64 (IntKind.wrap .i64 ((7 : Int) - (Int.tmod a1 (8 : Int))))))) (1 : Int))) (none)) (none)
def spec_l1Bit (n : Nat) (a0 : (List (Int)) × ((Int) × (Unit))) (a1 : Int) : Option (Tup [(.int .i64)]) := goRec spec_l1Bit.step n (.p0 a0 a1)
def spec_l1Bit.spec : Ctr := ⟨62, [.v (.pair (.sl false (.int .u8)) (.pair (.int .i64) .unit)), .v (.int .i64)], [(.int .i64)], [], none, fun n x => spec_l1Bit n x.1 x.2.1⟩
theorem spec_l1Bit.seg_eq : SegEq ty gl spec_l1Bit.F spec_l1Bit.md spec_l1Bit.T spec_l1Bit.spec spec_l1Bit.lb spec_l1Bit.st spec_l1Bit.step := by
  intro n goto y; cases y <;> kernel_rfl
theorem spec_l1Bit.text : Text Go.Proofs.Tryd.prog spec_l1Bit.F spec_l1Bit.spec := textOf Go.Proofs.Tryd.f62
theorem spec_l1Bit.ok : CtrOK Go.Proofs.Tryd.prog gl spec_l1Bit.spec :=
  ctr_okS tabs spec_l1Bit.text spec_l1Bit.seg_eq (fun n x => ⟨.p0 x.1 x.2.1, rfl, rfl, rfl⟩) (nilC)

/-! loop.example/g00039/spec.GoodBits -/
def spec_GoodBits.T : List Ctr := [spec_l1Bit.spec]
def spec_GoodBits.md : List (Nat × List Md) := []
noncomputable def spec_GoodBits.F : Fun := ⟨(Go.Proofs.Tryd.f30.body).getD .skip, [.v (.pair (.sl false (.int .u8)) (.pair (.int .i64) .unit))], [(.tmp 2, .bool)], [], 0, [(4, ⟨[1, 21], [], [(1, 0, (.int .u8))], false⟩), (15, ⟨[1, 3], [], [(1, 0, (.int .u8))], false⟩)]⟩
inductive spec_GoodBits.Pt where
  | p0 (a0 : (List (Int)) × ((Int) × (Unit)))
  | p4 (y1 : Bool) (y2 : List (Int)) (y3 : Int)
  | p15 (y1 : Int) (y2 : List (Int)) (y3 : Int)
def spec_GoodBits.lb : spec_GoodBits.Pt → Nat
  | .p0 _ => 0
  | .p4 _ _ _ => 4
  | .p15 _ _ _ => 15
def spec_GoodBits.st : spec_GoodBits.Pt → St
  | .p0 a0 => enter [.v (.pair (.sl false (.int .u8)) (.pair (.int .i64) .unit)) a0] 0
  | .p4 y1 y2 y3 => ⟨[(1, .po 0 0), (21, .im .bool y1)], [(0, .obj [.im (.sl false (.int .u8)) y2, .im (.int .i64) y3])], 1⟩
  | .p15 y1 y2 y3 => ⟨[(1, .po 0 0), (3, .im (.int .i64) y1)], [(0, .obj [.im (.sl false (.int .u8)) y2, .im (.int .i64) y3])], 1⟩
def spec_GoodBits.step (n : Nat) (K : spec_GoodBits.Pt → Option (Tup [.bool])) : spec_GoodBits.Pt → Option (Tup [.bool])
  | .p0 a0 => cond (decide (a0.2.1 < (0 : Int))) (K (.p4 true a0.1 a0.2.1)) (cond (decide ((80000 : Int) < a0.2.1)) (K (.p4 true a0.1 a0.2.1)) (K (.p4 (!(decide (((List.length a0.1) : Int) = (IntKind.wrap .i64 (Int.tdiv (IntKind.wrap .i64 (a0.2.1 + (7 : Int))) (8 : Int)))))) a0.1 a0.2.1)))
  | .p4 y1 y2 y3 => cond y1 (some false) (K (.p15 y3 y2 y3))
  | .p15 y1 y2 y3 => cond (decide (y1 < (IntKind.wrap .i64 ((8 : Int) * ((List.length y2) : Int))))) ((spec_l1Bit n (y2, (y3, ())) y1).bind fun (r6 : Int) => cond (!(decide (r6 = (0 : Int)))) (some false) (K (.p15 (IntKind.wrap .i64 (y1 + (1 : Int))) y2 y3))) (some true)
def spec_GoodBits (n : Nat) (a0 : (List (Int)) × ((Int) × (Unit))) : Option (Tup [.bool]) := goRec spec_GoodBits.step n (.p0 a0)
def spec_GoodBits.spec : Ctr := ⟨30, [.v (.pair (.sl false (.int .u8)) (.pair (.int .i64) .unit))], [.bool], [], none, fun n x => spec_GoodBits n x.1⟩
theorem spec_GoodBits.seg_eq : SegEq ty gl spec_GoodBits.F spec_GoodBits.md spec_GoodBits.T spec_GoodBits.spec spec_GoodBits.lb spec_GoodBits.st spec_GoodBits.step := by
  intro n goto y; cases y <;> kernel_rfl
theorem spec_GoodBits.text : Text Go.Proofs.Tryd.prog spec_GoodBits.F spec_GoodBits.spec := textOf Go.Proofs.Tryd.f30
theorem spec_GoodBits.ok : CtrOK Go.Proofs.Tryd.prog gl spec_GoodBits.spec :=
  ctr_okS tabs spec_GoodBits.text spec_GoodBits.seg_eq (fun n x => ⟨.p0 x.1, rfl, rfl, rfl⟩) (consC spec_l1Bit.ok (nilC))

/-! loop.example/g00039/spec.l1Take -/
def spec_l1Take.T : List Ctr := [spec_l1Bit.spec]
def spec_l1Take.md : List (Nat × List Md) := []
noncomputable def spec_l1Take.F : Fun := ⟨(Go.Proofs.Tryd.f89.body).getD .skip, [.v (.pair (.sl false (.int .u8)) (.pair (.int .i64) .unit)), .v (.int .i64), .v (.int .i64)], [(.tmp 6, (.int .i64)), (.tmp 7, .bool)], [], 0, [(4, ⟨[1, 2, 3, 33], [], [(3, 0, (.int .u8))], false⟩), (17, ⟨[1, 2, 3, 8, 9], [], [(3, 0, (.int .u8))], false⟩)]⟩
inductive spec_l1Take.Pt where
  | p0 (a0 : (List (Int)) × ((Int) × (Unit))) (a1 : Int) (a2 : Int)
  | p4 (y1 : Int) (y2 : Int) (y3 : Bool) (y4 : List (Int)) (y5 : Int)
  | p17 (y1 : Int) (y2 : Int) (y3 : Int) (y4 : Int) (y5 : List (Int)) (y6 : Int)
def spec_l1Take.lb : spec_l1Take.Pt → Nat
  | .p0 _ _ _ => 0
  | .p4 _ _ _ _ _ => 4
  | .p17 _ _ _ _ _ _ => 17
def spec_l1Take.st : spec_l1Take.Pt → St
  | .p0 a0 a1 a2 => enter [.v (.pair (.sl false (.int .u8)) (.pair (.int .i64) .unit)) a0, .v (.int .i64) a1, .v (.int .i64) a2] 0
  | .p4 y1 y2 y3 y4 y5 => ⟨[(1, .im (.int .i64) y1), (2, .im (.int .i64) y2), (3, .po 0 0), (33, .im .bool y3)], [(0, .obj [.im (.sl false (.int .u8)) y4, .im (.int .i64) y5])], 1⟩
  | .p17 y1 y2 y3 y4 y5 y6 => ⟨[(1, .im (.int .i64) y1), (2, .im (.int .i64) y2), (3, .po 0 0), (8, .im (.int .u64) y3), (9, .im (.int .i64) y4)], [(0, .obj [.im (.sl false (.int .u8)) y5, .im (.int .i64) y6])], 1⟩
def spec_l1Take.step (n : Nat) (K : spec_l1Take.Pt → Option (Tup [(.int .i64), .bool])) : spec_l1Take.Pt → Option (Tup [(.int .i64), .bool])
  | .p0 a0 a1 a2 => cond (decide (a1 < (0 : Int))) (K (.p4 a1 a2 true a0.1 a0.2.1)) (cond (decide (a2 < (0 : Int))) (K (.p4 a1 a2 true a0.1 a0.2.1)) (cond (decide ((64 : Int) < a2)) (K (.p4 a1 a2 true a0.1 a0.2.1)) (cond (decide (a0.2.1 < a1)) (K (.p4 a1 a2 true a0.1 a0.2.1)) (K (.p4 a1 a2 (decide ((IntKind.wrap .i64 (a0.2.1 - a1)) < a2)) a0.1 a0.2.1)))))
  | .p4 y1 y2 y3 y4 y5 => cond y3 (some ((0 : Int), false)) (K (.p17 y1 y2 (0 : Int) (0 : Int) y4 y5))
  | .p17 y1 y2 y3 y4 y5 y6 => cond (decide (y4 < y2)) ((spec_l1Bit n (y5, (y6, ())) (IntKind.wrap .i64 (y1 + y4))).bind fun (r9 : Int) => K (.p17 y1 y2 (bor .u64 (shl .u64 y3 (1 : Int)) (IntKind.wrap .u64 r9)) (IntKind.wrap .i64 (y4 + (1 : Int))) y5 y6)) (some ((IntKind.wrap .i64 y3), true))
def spec_l1Take (n : Nat) (a0 : (List (Int)) × ((Int) × (Unit))) (a1 : Int) (a2 : Int) : Option (Tup [(.int .i64), .bool]) := goRec spec_l1Take.step n (.p0 a0 a1 a2)
def spec_l1Take.spec : Ctr := ⟨89, [.v (.pair (.sl false (.int .u8)) (.pair (.int .i64) .unit)), .v (.int .i64), .v (.int .i64)], [(.int .i64), .bool], [], none, fun n x => spec_l1Take n x.1 x.2.1 x.2.2.1⟩
theorem spec_l1Take.seg_eq : SegEq ty gl spec_l1Take.F spec_l1Take.md spec_l1Take.T spec_l1Take.spec spec_l1Take.lb spec_l1Take.st spec_l1Take.step := by
  intro n goto y; cases y <;> kernel_rfl
theorem spec_l1Take.text : Text Go.Proofs.Tryd.prog spec_l1Take.F spec_l1Take.spec := textOf Go.Proofs.Tryd.f89
theorem spec_l1Take.ok : CtrOK Go.Proofs.Tryd.prog gl spec_l1Take.spec :=
  ctr_okS tabs spec_l1Take.text spec_l1Take.seg_eq (fun n x => ⟨.p0 x.1 x.2.1 x.2.2.1, rfl, rfl, rfl⟩) (consC spec_l1Bit.ok (nilC))

/-! (*loop.example/g00039/spec.l6R).take -/
def spec_l6R__take.T : List Ctr := [spec_l1Take.spec]
def spec_l6R__take.md : List (Nat × List Md) := []
noncomputable def spec_l6R__take.F : Fun := ⟨(Go.Proofs.Tryd.f63.body).getD .skip, [.p (.pair (.pair (.bs (.int .u8)) (.pair (.int .i64) .unit)) (.pair (.int .i64) (.pair .bool .unit))), .v (.int .i64)], [(.tmp 4, (.int .i64))], [some (.pair (.pair (.bs (.int .u8)) (.pair (.int .i64) .unit)) (.pair (.int .i64) (.pair .bool .unit)))], 1, []⟩
inductive spec_l6R__take.Pt where
  | p0 (a0 : ((List (Int)) × ((Int) × (Unit))) × ((Int) × ((Bool) × (Unit)))) (a1 : Int)
def spec_l6R__take.lb : spec_l6R__take.Pt → Nat
  | .p0 _ _ => 0
def spec_l6R__take.st : spec_l6R__take.Pt → St
  | .p0 a0 a1 => enter [.p (.pair (.pair (.bs (.int .u8)) (.pair (.int .i64) .unit)) (.pair (.int .i64) (.pair .bool .unit))) a0, .v (.int .i64) a1] 1
def spec_l6R__take.step (n : Nat) (K : spec_l6R__take.Pt → Option (Tup [(.int .i64), (.pair (.pair (.bs (.int .u8)) (.pair (.int .i64) .unit)) (.pair (.int .i64) (.pair .bool .unit)))])) : spec_l6R__take.Pt → Option (Tup [(.int .i64), (.pair (.pair (.bs (.int .u8)) (.pair (.int .i64) .unit)) (.pair (.int .i64) (.pair .bool .unit)))])
  | .p0 a0 a1 => (spec_l1Take n (a0.1.1, a0.1.2) a0.2.1 a1).bind fun r5 => cond a0.2.2.1 (some (r5.1, ((a0.1.1, a0.1.2), ((IntKind.wrap .i64 (a0.2.1 + a1)), (r5.2, ()))))) (some (r5.1, ((a0.1.1, a0.1.2), ((IntKind.wrap .i64 (a0.2.1 + a1)), (false, ())))))
def spec_l6R__take (n : Nat) (a0 : ((List (Int)) × ((Int) × (Unit))) × ((Int) × ((Bool) × (Unit)))) (a1 : Int) : Option (Tup [(.int .i64), (.pair (.pair (.bs (.int .u8)) (.pair (.int .i64) .unit)) (.pair (.int .i64) (.pair .bool .unit)))]) := goRec spec_l6R__take.step n (.p0 a0 a1)
def spec_l6R__take.spec : Ctr := ⟨63, [.p (.pair (.pair (.bs (.int .u8)) (.pair (.int .i64) .unit)) (.pair (.int .i64) (.pair .bool .unit))), .v (.int .i64)], [(.int .i64)], [(.pair (.pair (.bs (.int .u8)) (.pair (.int .i64) .unit)) (.pair (.int .i64) (.pair .bool .unit)))], none, fun n x => spec_l6R__take n x.1 x.2.1⟩
theorem spec_l6R__take.seg_eq : SegEq ty gl spec_l6R__take.F spec_l6R__take.md spec_l6R__take.T spec_l6R__take.spec spec_l6R__take.lb spec_l6R__take.st spec_l6R__take.step := by
  intro n goto y; cases y <;> kernel_rfl
theorem spec_l6R__take.text : Text Go.Proofs.Tryd.prog spec_l6R__take.F spec_l6R__take.spec := textOf Go.Proofs.Tryd.f63
theorem spec_l6R__take.ok : CtrOK Go.Proofs.Tryd.prog gl spec_l6R__take.spec :=
  ctr_okS tabs spec_l6R__take.text spec_l6R__take.seg_eq (fun n x => ⟨.p0 x.1 x.2.1, rfl, rfl, rfl⟩) (consC spec_l1Take.ok (nilC))

/-! (*loop.example/g00039/spec.l6R).ones -/
def spec_l6R__ones.T : List Ctr := [spec_l6R__take.spec]
def spec_l6R__ones.md : List (Nat × List Md) := [(63, [.p (.pair (.pair (.bs (.int .u8)) (.pair (.int .i64) .unit)) (.pair (.int .i64) (.pair .bool .unit))), .v])]
noncomputable def spec_l6R__ones.F : Fun := ⟨(Go.Proofs.Tryd.f65.body).getD .skip, [.p (.pair (.pair (.bs (.int .u8)) (.pair (.int .i64) .unit)) (.pair (.int .i64) (.pair .bool .unit))), .v (.int .i64)], [(.tmp 4, (.int .i64))], [some (.pair (.pair (.bs (.int .u8)) (.pair (.int .i64) .unit)) (.pair (.int .i64) (.pair .bool .unit)))], 1, [(7, ⟨[0, 1, 5], [], [], false⟩)]⟩
inductive spec_l6R__ones.Pt where
  | p0 (a0 : ((List (Int)) × ((Int) × (Unit))) × ((Int) × ((Bool) × (Unit)))) (a1 : Int)
  | p7 (y1 : Int) (y2 : Int) (y3 : List (Int)) (y4 : Int) (y5 : Int) (y6 : Bool)
def spec_l6R__ones.lb : spec_l6R__ones.Pt → Nat
  | .p0 _ _ => 0
  | .p7 _ _ _ _ _ _ => 7
def spec_l6R__ones.st : spec_l6R__ones.Pt → St
  | .p0 a0 a1 => enter [.p (.pair (.pair (.bs (.int .u8)) (.pair (.int .i64) .unit)) (.pair (.int .i64) (.pair .bool .unit))) a0, .v (.int .i64) a1] 1
  | .p7 y1 y2 y3 y4 y5 y6 => ⟨[(0, .po 0 0), (1, .im (.int .i64) y1), (5, .im (.int .i64) y2)], [(0, .obj [.im (.bs (.int .u8)) y3, .im (.int .i64) y4, .im (.int .i64) y5, .im .bool y6])], 1⟩
def spec_l6R__ones.step (n : Nat) (K : spec_l6R__ones.Pt → Option (Tup [(.int .i64), (.pair (.pair (.bs (.int .u8)) (.pair (.int .i64) .unit)) (.pair (.int .i64) (.pair .bool .unit)))])) : spec_l6R__ones.Pt → Option (Tup [(.int .i64), (.pair (.pair (.bs (.int .u8)) (.pair (.int .i64) .unit)) (.pair (.int .i64) (.pair .bool .unit)))])
  | .p0 a0 a1 => K (.p7 a1 (0 : Int) a0.1.1 a0.1.2.1 a0.2.1 a0.2.2.1)
  | .p7 y1 y2 y3 y4 y5 y6 => cond (decide (y2 < y1)) ((spec_l6R__take n ((y3, (y4, ())), (y5, (y6, ()))) (1 : Int)).bind fun r9 => cond (decide (r9.1 = (1 : Int))) (K (.p7 y1 (IntKind.wrap .i64 (y2 + (1 : Int))) r9.2.1.1 r9.2.1.2.1 r9.2.2.1 r9.2.2.2.1)) (some (y2, ((r9.2.1.1, r9.2.1.2), r9.2.2)))) (some (y2, ((y3, (y4, ())), (y5, (y6, ())))))
def spec_l6R__ones (n : Nat) (a0 : ((List (Int)) × ((Int) × (Unit))) × ((Int) × ((Bool) × (Unit)))) (a1 : Int) : Option (Tup [(.int .i64), (.pair (.pair (.bs (.int .u8)) (.pair (.int .i64) .unit)) (.pair (.int .i64) (.pair .bool .unit)))]) := goRec spec_l6R__ones.step n (.p0 a0 a1)
def spec_l6R__ones.spec : Ctr := ⟨65, [.p (.pair (.pair (.bs (.int .u8)) (.pair (.int .i64) .unit)) (.pair (.int .i64) (.pair .bool .unit))), .v (.int .i64)], [(.int .i64)], [(.pair (.pair (.bs (.int .u8)) (.pair (.int .i64) .unit)) (.pair (.int .i64) (.pair .bool .unit)))], none, fun n x => spec_l6R__ones n x.1 x.2.1⟩
theorem spec_l6R__ones.seg_eq : SegEq ty gl spec_l6R__ones.F spec_l6R__ones.md spec_l6R__ones.T spec_l6R__ones.spec spec_l6R__ones.lb spec_l6R__ones.st spec_l6R__ones.step := by
  intro n goto y; cases y <;> kernel_rfl
theorem spec_l6R__ones.text : Text Go.Proofs.Tryd.prog spec_l6R__ones.F spec_l6R__ones.spec := textOf Go.Proofs.Tryd.f65
theorem spec_l6R__ones.ok : CtrOK Go.Proofs.Tryd.prog gl spec_l6R__ones.spec :=
  ctr_okS tabs spec_l6R__ones.text spec_l6R__ones.seg_eq (fun n x => ⟨.p0 x.1 x.2.1, rfl, rfl, rfl⟩) (consC spec_l6R__take.ok (nilC))

/-! (*loop.example/g00039/spec.l6R).bend -/
def spec_l6R__bend.T : List Ctr := [spec_l6R__take.spec, spec_l6R__ones.spec]
def spec_l6R__bend.md : List (Nat × List Md) := [(65, [.p (.pair (.pair (.bs (.int .u8)) (.pair (.int .i64) .unit)) (.pair (.int .i64) (.pair .bool .unit))), .v]), (63, [.p (.pair (.pair (.bs (.int .u8)) (.pair (.int .i64) .unit)) (.pair (.int .i64) (.pair .bool .unit))), .v])]
noncomputable def spec_l6R__bend.F : Fun := ⟨(Go.Proofs.Tryd.f64.body).getD .skip, [.p (.pair (.pair (.bs (.int .u8)) (.pair (.int .i64) .unit)) (.pair (.int .i64) (.pair .bool .unit)))], [(.tmp 2, (.int .i64))], [some (.pair (.pair (.bs (.int .u8)) (.pair (.int .i64) .unit)) (.pair (.int .i64) (.pair .bool .unit)))], 1, []⟩
inductive spec_l6R__bend.Pt where
  | p0 (a0 : ((List (Int)) × ((Int) × (Unit))) × ((Int) × ((Bool) × (Unit))))
def spec_l6R__bend.lb : spec_l6R__bend.Pt → Nat
  | .p0 _ => 0
def spec_l6R__bend.st : spec_l6R__bend.Pt → St
  | .p0 a0 => enter [.p (.pair (.pair (.bs (.int .u8)) (.pair (.int .i64) .unit)) (.pair (.int .i64) (.pair .bool .unit))) a0] 1
def spec_l6R__bend.step (n : Nat) (K : spec_l6R__bend.Pt → Option (Tup [(.int .i64), (.pair (.pair (.bs (.int .u8)) (.pair (.int .i64) .unit)) (.pair (.int .i64) (.pair .bool .unit)))])) : spec_l6R__bend.Pt → Option (Tup [(.int .i64), (.pair (.pair (.bs (.int .u8)) (.pair (.int .i64) .unit)) (.pair (.int .i64) (.pair .bool .unit)))])
  | .p0 a0 => (spec_l6R__ones n ((a0.1.1, a0.1.2), a0.2) (4 : Int)).bind fun r4 => cond (decide (r4.1 = (0 : Int))) (some ((0 : Int), ((r4.2.1.1, r4.2.1.2), r4.2.2))) (cond (decide (r4.1 = (1 : Int))) ((spec_l6R__take n ((r4.2.1.1, r4.2.1.2), r4.2.2) (7 : Int)).bind fun r5 => some ((IntKind.wrap .i64 (r5.1 - (63 : Int))), ((r5.2.1.1, r5.2.1.2), r5.2.2))) (cond (decide (r4.1 = (2 : Int))) ((spec_l6R__take n ((r4.2.1.1, r4.2.1.2), r4.2.2) (9 : Int)).bind fun r5 => some ((IntKind.wrap .i64 (r5.1 - (255 : Int))), ((r5.2.1.1, r5.2.1.2), r5.2.2))) (cond (decide (r4.1 = (3 : Int))) ((spec_l6R__take n ((r4.2.1.1, r4.2.1.2), r4.2.2) (12 : Int)).bind fun r5 => some ((IntKind.wrap .i64 (r5.1 - (2047 : Int))), ((r5.2.1.1, r5.2.1.2), r5.2.2))) ((spec_l6R__take n ((r4.2.1.1, r4.2.1.2), r4.2.2) (64 : Int)).bind fun r5 => some (r5.1, ((r5.2.1.1, r5.2.1.2), r5.2.2))))))
def spec_l6R__bend (n : Nat) (a0 : ((List (Int)) × ((Int) × (Unit))) × ((Int) × ((Bool) × (Unit)))) : Option (Tup [(.int .i64), (.pair (.pair (.bs (.int .u8)) (.pair (.int .i64) .unit)) (.pair (.int .i64) (.pair .bool .unit)))]) := goRec spec_l6R__bend.step n (.p0 a0)
def spec_l6R__bend.spec : Ctr := ⟨64, [.p (.pair (.pair (.bs (.int .u8)) (.pair (.int .i64) .unit)) (.pair (.int .i64) (.pair .bool .unit)))], [(.int .i64)], [(.pair (.pair (.bs (.int .u8)) (.pair (.int .i64) .unit)) (.pair (.int .i64) (.pair .bool .unit)))], none, fun n x => spec_l6R__bend n x.1⟩
theorem spec_l6R__bend.seg_eq : SegEq ty gl spec_l6R__bend.F spec_l6R__bend.md spec_l6R__bend.T spec_l6R__bend.spec spec_l6R__bend.lb spec_l6R__bend.st spec_l6R__bend.step := by
  intro n goto y; cases y <;> kernel_rfl
theorem spec_l6R__bend.text : Text Go.Proofs.Tryd.prog spec_l6R__bend.F spec_l6R__bend.spec := textOf Go.Proofs.Tryd.f64
theorem spec_l6R__bend.ok : CtrOK Go.Proofs.Tryd.prog gl spec_l6R__bend.spec :=
  ctr_okS tabs spec_l6R__bend.text spec_l6R__bend.seg_eq (fun n x => ⟨.p0 x.1, rfl, rfl, rfl⟩) (consC spec_l6R__take.ok (consC spec_l6R__ones.ok (nilC)))

/-! loop.example/g00039/spec.l6Unpack -/
def spec_l6Unpack.T : List Ctr := [spec_l6R__take.spec, spec_l6R__ones.spec, spec_l6R__bend.spec]
def spec_l6Unpack.md : List (Nat × List Md) := [(63, [.p (.pair (.pair (.bs (.int .u8)) (.pair (.int .i64) .unit)) (.pair (.int .i64) (.pair .bool .unit))), .v]), (64, [.p (.pair (.pair (.bs (.int .u8)) (.pair (.int .i64) .unit)) (.pair (.int .i64) (.pair .bool .unit)))]), (65, [.p (.pair (.pair (.bs (.int .u8)) (.pair (.int .i64) .unit)) (.pair (.int .i64) (.pair .bool .unit))), .v])]
noncomputable def spec_l6Unpack.F : Fun := ⟨(Go.Proofs.Tryd.f31.body).getD .skip, [.v (.pair (.bs (.int .u8)) (.pair (.int .i64) .unit))], [(.tmp 2, (.sl false (.pair (.int .i64) (.pair (.int .i64) .unit)))), (.tmp 3, .bool)], [], 0, [(19, ⟨[1, 4, 5, 6, 7, 8, 9, 10], [(6, (.pair (.int .i64) (.pair (.int .i64) .unit)))], [(1, 0, (.int .u8))], false⟩), (21, ⟨[1, 4, 5, 6, 7, 8, 9, 10, 28], [(6, (.pair (.int .i64) (.pair (.int .i64) .unit)))], [(1, 0, (.int .u8))], false⟩), (47, ⟨[1, 4, 5, 6, 7, 8, 9, 10, 12, 13], [(6, (.pair (.int .i64) (.pair (.int .i64) .unit)))], [(1, 0, (.int .u8))], false⟩)]⟩
inductive spec_l6Unpack.Pt where
  | p0 (a0 : (List (Int)) × ((Int) × (Unit)))
  | p19 (y1 : Int) (y2 : Int) (y3 : Int) (y4 : Int) (y5 : Int) (y6 : List (Int)) (y7 : Int) (y8 : List (Int)) (y9 : Int) (y10 : Int) (y11 : Bool) (y12 : List ((Int) × ((Int) × (Unit))))
  | p21 (y1 : Int) (y2 : Int) (y3 : Int) (y4 : Int) (y5 : Int) (y6 : Bool) (y7 : List (Int)) (y8 : Int) (y9 : List (Int)) (y10 : Int) (y11 : Int) (y12 : Bool) (y13 : List ((Int) × ((Int) × (Unit))))
  | p47 (y1 : Int) (y2 : Int) (y3 : Int) (y4 : Int) (y5 : Int) (y6 : Int) (y7 : List (Int)) (y8 : Int) (y9 : List (Int)) (y10 : Int) (y11 : Int) (y12 : Bool) (y13 : List ((Int) × ((Int) × (Unit)))) (y14 : Int) (y15 : Int)
def spec_l6Unpack.lb : spec_l6Unpack.Pt → Nat
  | .p0 _ => 0
  | .p19 _ _ _ _ _ _ _ _ _ _ _ _ => 19
  | .p21 _ _ _ _ _ _ _ _ _ _ _ _ _ => 21
  | .p47 _ _ _ _ _ _ _ _ _ _ _ _ _ _ _ => 47
def spec_l6Unpack.st : spec_l6Unpack.Pt → St
  | .p0 a0 => enter [.v (.pair (.bs (.int .u8)) (.pair (.int .i64) .unit)) a0] 0
  | .p19 y1 y2 y3 y4 y5 y6 y7 y8 y9 y10 y11 y12 => ⟨[(1, .po 0 0), (4, .po 1 0), (5, .im (.int .i64) y1), (6, .hs 2 [] none 0), (7, .im (.int .i64) y2), (8, .im (.int .i64) y3), (9, .im (.int .i64) y4), (10, .im (.int .i64) y5)], [(0, .obj [.im (.bs (.int .u8)) y6, .im (.int .i64) y7]), (1, .obj [.im (.bs (.int .u8)) y8, .im (.int .i64) y9, .im (.int .i64) y10, .im .bool y11]), (2, .arr true (.pair (.int .i64) (.pair (.int .i64) .unit)) y12 0)], 3⟩
  | .p21 y1 y2 y3 y4 y5 y6 y7 y8 y9 y10 y11 y12 y13 => ⟨[(1, .po 0 0), (4, .po 1 0), (5, .im (.int .i64) y1), (6, .hs 2 [] none 0), (7, .im (.int .i64) y2), (8, .im (.int .i64) y3), (9, .im (.int .i64) y4), (10, .im (.int .i64) y5), (28, .im .bool y6)], [(0, .obj [.im (.bs (.int .u8)) y7, .im (.int .i64) y8]), (1, .obj [.im (.bs (.int .u8)) y9, .im (.int .i64) y10, .im (.int .i64) y11, .im .bool y12]), (2, .arr true (.pair (.int .i64) (.pair (.int .i64) .unit)) y13 0)], 3⟩
  | .p47 y1 y2 y3 y4 y5 y6 y7 y8 y9 y10 y11 y12 y13 y14 y15 => ⟨[(1, .po 0 0), (4, .po 1 0), (5, .im (.int .i64) y1), (6, .hs 2 [] none 0), (7, .im (.int .i64) y2), (8, .im (.int .i64) y3), (9, .im (.int .i64) y4), (10, .im (.int .i64) y5), (12, .po 3 0), (13, .im (.int .i64) y6)], [(0, .obj [.im (.bs (.int .u8)) y7, .im (.int .i64) y8]), (1, .obj [.im (.bs (.int .u8)) y9, .im (.int .i64) y10, .im (.int .i64) y11, .im .bool y12]), (2, .arr true (.pair (.int .i64) (.pair (.int .i64) .unit)) y13 0), (3, .obj [.im (.int .i64) y14, .im (.int .i64) y15])], 4⟩
def spec_l6Unpack.step (n : Nat) (K : spec_l6Unpack.Pt → Option (Tup [(.sl false (.pair (.int .i64) (.pair (.int .i64) .unit))), .bool])) : spec_l6Unpack.Pt → Option (Tup [(.sl false (.pair (.int .i64) (.pair (.int .i64) .unit))), .bool])
  | .p0 a0 => (spec_l6R__take n ((a0.1, a0.2), ((default : Int), (true, ()))) (8 : Int)).bind fun r4 => K (.p19 r4.1 (-(1 : Int)) (0 : Int) (0 : Int) (0 : Int) a0.1 a0.2.1 r4.2.1.1 r4.2.1.2.1 r4.2.2.1 r4.2.2.2.1 ([] : List ((Int) × ((Int) × (Unit)))))
  | .p19 y1 y2 y3 y4 y5 y6 y7 y8 y9 y10 y11 y12 => cond (decide (y5 < y1)) (K (.p21 y1 y2 y3 y4 y5 y11 y6 y7 y8 y9 y10 y11 y12)) (K (.p21 y1 y2 y3 y4 y5 false y6 y7 y8 y9 y10 y11 y12))
  | .p21 y1 y2 y3 y4 y5 y6 y7 y8 y9 y10 y11 y12 y13 => cond y6 (cond (decide (y5 = (0 : Int))) ((spec_l6R__take n ((y9, (y10, ())), (y11, (y12, ()))) (40 : Int)).bind fun r16 => (spec_l6R__take n ((r16.2.1.1, r16.2.1.2), r16.2.2) (64 : Int)).bind fun r17 => cond (room ((List.length y13) + (List.length [(r16.1, (r17.1, ()))]))) (K (.p19 y1 y2 y3 y4 (IntKind.wrap .i64 (y5 + (1 : Int))) y7 y8 r17.2.1.1 r17.2.1.2.1 r17.2.2.1 r17.2.2.2.1 (y13 ++ [(r16.1, (r17.1, ()))]))) (none)) ((spec_l6R__bend n ((y9, (y10, ())), (y11, (y12, ())))).bind fun r16 => cond (inB (IntKind.wrap .i64 (y5 - (1 : Int))) (List.length y13)) ((spec_l6R__ones n ((r16.2.1.1, r16.2.1.2), r16.2.2) (2 : Int)).bind fun r17 => cond (decide (r17.1 = (1 : Int))) (cond (decide (y2 < (0 : Int))) (some (([] : List ((Int) × ((Int) × (Unit)))), false)) ((spec_l6R__take n ((r17.2.1.1, r17.2.1.2), r17.2.2) (IntKind.wrap .i64 ((IntKind.wrap .i64 ((64 : Int) - y2)) - y3))).bind fun r18 => cond (decide (0 ≤ (IntKind.wrap .u64 y3))) (K (.p47 y1 y2 y3 (IntKind.wrap .i64 (y4 + r16.1)) y5 (shl .i64 r18.1 (IntKind.wrap .u64 y3)) y7 y8 r18.2.1.1 r18.2.1.2.1 r18.2.2.1 r18.2.2.2.1 y13 (IntKind.wrap .i64 ((List.getD y13 (0 + (Int.toNat (IntKind.wrap .i64 (y5 - (1 : Int))))) default).1 + (IntKind.wrap .i64 (y4 + r16.1)))) (default : Int))) (none))) (cond (decide (r17.1 = (2 : Int))) ((spec_l6R__take n ((r17.2.1.1, r17.2.1.2), r17.2.2) (6 : Int)).bind fun r18 => (spec_l6R__take n ((r18.2.1.1, r18.2.1.2), r18.2.2) (6 : Int)).bind fun r19 => cond (decide ((IntKind.wrap .i64 ((IntKind.wrap .i64 ((64 : Int) - r18.1)) - (IntKind.wrap .i64 (r19.1 + (1 : Int))))) < (0 : Int))) (some (([] : List ((Int) × ((Int) × (Unit)))), false)) ((spec_l6R__take n ((r19.2.1.1, r19.2.1.2), r19.2.2) (IntKind.wrap .i64 (r19.1 + (1 : Int)))).bind fun r20 => cond (decide (0 ≤ (IntKind.wrap .u64 (IntKind.wrap .i64 ((IntKind.wrap .i64 ((64 : Int) - r18.1)) - (IntKind.wrap .i64 (r19.1 + (1 : Int)))))))) (K (.p47 y1 r18.1 (IntKind.wrap .i64 ((IntKind.wrap .i64 ((64 : Int) - r18.1)) - (IntKind.wrap .i64 (r19.1 + (1 : Int))))) (IntKind.wrap .i64 (y4 + r16.1)) y5 (shl .i64 r20.1 (IntKind.wrap .u64 (IntKind.wrap .i64 ((IntKind.wrap .i64 ((64 : Int) - r18.1)) - (IntKind.wrap .i64 (r19.1 + (1 : Int))))))) y7 y8 r20.2.1.1 r20.2.1.2.1 r20.2.2.1 r20.2.2.2.1 y13 (IntKind.wrap .i64 ((List.getD y13 (0 + (Int.toNat (IntKind.wrap .i64 (y5 - (1 : Int))))) default).1 + (IntKind.wrap .i64 (y4 + r16.1)))) (default : Int))) (none))) (K (.p47 y1 y2 y3 (IntKind.wrap .i64 (y4 + r16.1)) y5 (0 : Int) y7 y8 r17.2.1.1 r17.2.1.2.1 r17.2.2.1 r17.2.2.2.1 y13 (IntKind.wrap .i64 ((List.getD y13 (0 + (Int.toNat (IntKind.wrap .i64 (y5 - (1 : Int))))) default).1 + (IntKind.wrap .i64 (y4 + r16.1)))) (default : Int))))) (none))) (cond y12 (some (y13, (decide (y11 = y8)))) (some (y13, false)))
  | .p47 y1 y2 y3 y4 y5 y6 y7 y8 y9 y10 y11 y12 y13 y14 y15 => cond (inB (IntKind.wrap .i64 (y5 - (1 : Int))) (List.length y13)) (cond (room ((List.length y13) + (List.length [(y14, ((bxor .i64 (List.getD y13 (0 + (Int.toNat (IntKind.wrap .i64 (y5 - (1 : Int))))) default).2.1 y6), ()))]))) (K (.p19 y1 y2 y3 y4 (IntKind.wrap .i64 (y5 + (1 : Int))) y7 y8 y9 y10 y11 y12 (y13 ++ [(y14, ((bxor .i64 (List.getD y13 (0 + (Int.toNat (IntKind.wrap .i64 (y5 - (1 : Int))))) default).2.1 y6), ()))]))) (none)) (none)
def spec_l6Unpack (n : Nat) (a0 : (List (Int)) × ((Int) × (Unit))) : Option (Tup [(.sl false (.pair (.int .i64) (.pair (.int .i64) .unit))), .bool]) := goRec spec_l6Unpack.step n (.p0 a0)
def spec_l6Unpack.spec : Ctr := ⟨31, [.v (.pair (.bs (.int .u8)) (.pair (.int .i64) .unit))], [(.sl false (.pair (.int .i64) (.pair (.int .i64) .unit))), .bool], [], none, fun n x => spec_l6Unpack n x.1⟩
theorem spec_l6Unpack.seg_eq : SegEq ty gl spec_l6Unpack.F spec_l6Unpack.md spec_l6Unpack.T spec_l6Unpack.spec spec_l6Unpack.lb spec_l6Unpack.st spec_l6Unpack.step := by
  intro n goto y; cases y <;> kernel_rfl
theorem spec_l6Unpack.text : Text Go.Proofs.Tryd.prog spec_l6Unpack.F spec_l6Unpack.spec := textOf Go.Proofs.Tryd.f31
theorem spec_l6Unpack.ok : CtrOK Go.Proofs.Tryd.prog gl spec_l6Unpack.spec :=
  ctr_okS tabs spec_l6Unpack.text spec_l6Unpack.seg_eq (fun n x => ⟨.p0 x.1, rfl, rfl, rfl⟩) (consC spec_l6R__take.ok (consC spec_l6R__ones.ok (consC spec_l6R__bend.ok (nilC))))

/-! loop.example/g00039/spec.l3Time -/
def spec_l3Time.T : List Ctr := []
def spec_l3Time.md : List (Nat × List Md) := []
noncomputable def spec_l3Time.F : Fun := ⟨(Go.Proofs.Tryd.f66.body).getD .skip, [.v (.int .i64)], [(.tmp 2, .bool)], [], 0, []⟩
inductive spec_l3Time.Pt where
  | p0 (a0 : Int)
def spec_l3Time.lb : spec_l3Time.Pt → Nat
  | .p0 _ => 0
def spec_l3Time.st : spec_l3Time.Pt → St
  | .p0 a0 => enter [.v (.int .i64) a0] 0
def spec_l3Time.step (n : Nat) (K : spec_l3Time.Pt → Option (Tup [.bool])) : spec_l3Time.Pt → Option (Tup [.bool])
  | .p0 a0 => cond (decide ((0 : Int) ≤ a0)) (some (decide (a0 ≤ (1000000000000 : Int)))) (some false)
def spec_l3Time (n : Nat) (a0 : Int) : Option (Tup [.bool]) := goRec spec_l3Time.step n (.p0 a0)
def spec_l3Time.spec : Ctr := ⟨66, [.v (.int .i64)], [.bool], [], none, fun n x => spec_l3Time n x.1⟩
theorem spec_l3Time.seg_eq : SegEq ty gl spec_l3Time.F spec_l3Time.md spec_l3Time.T spec_l3Time.spec spec_l3Time.lb spec_l3Time.st spec_l3Time.step := by
  intro n goto y; cases y <;> kernel_rfl
theorem spec_l3Time.text : Text Go.Proofs.Tryd.prog spec_l3Time.F spec_l3Time.spec := textOf Go.Proofs.Tryd.f66
theorem spec_l3Time.ok : CtrOK Go.Proofs.Tryd.prog gl spec_l3Time.spec :=
  ctr_okS tabs spec_l3Time.text spec_l3Time.seg_eq (fun n x => ⟨.p0 x.1, rfl, rfl, rfl⟩) (nilC)

/-! loop.example/g00039/spec.GoodSamples -/
def spec_GoodSamples.T : List Ctr := [spec_l3Time.spec]
def spec_GoodSamples.md : List (Nat × List Md) := []
noncomputable def spec_GoodSamples.F : Fun := ⟨(Go.Proofs.Tryd.f32.body).getD .skip, [.v (.sl false (.pair (.int .i64) (.pair (.int .i64) .unit)))], [(.tmp 2, .bool)], [], 0, [(7, ⟨[0, 5, 6, 7], [(5, (.pair (.int .i64) (.pair (.int .i64) .unit)))], [], false⟩), (18, ⟨[0, 5, 6, 7, 30], [(5, (.pair (.int .i64) (.pair (.int .i64) .unit)))], [], false⟩)]⟩
inductive spec_GoodSamples.Pt where
  | p0 (a0 : List ((Int) × ((Int) × (Unit))))
  | p7 (y1 : List ((Int) × ((Int) × (Unit)))) (y2 : List ((Int) × ((Int) × (Unit)))) (y3 : Int) (y4 : Int)
  | p18 (y1 : List ((Int) × ((Int) × (Unit)))) (y2 : List ((Int) × ((Int) × (Unit)))) (y3 : Int) (y4 : Int) (y5 : Bool)
def spec_GoodSamples.lb : spec_GoodSamples.Pt → Nat
  | .p0 _ => 0
  | .p7 _ _ _ _ => 7
  | .p18 _ _ _ _ _ => 18
def spec_GoodSamples.st : spec_GoodSamples.Pt → St
  | .p0 a0 => enter [.v (.sl false (.pair (.int .i64) (.pair (.int .i64) .unit))) a0] 0
  | .p7 y1 y2 y3 y4 => ⟨[(0, .im (.sl false (.pair (.int .i64) (.pair (.int .i64) .unit))) y1), (5, .im (.sl false (.pair (.int .i64) (.pair (.int .i64) .unit))) y2), (6, .im (.int .i64) y3), (7, .im (.int .i64) y4)], [], 0⟩
  | .p18 y1 y2 y3 y4 y5 => ⟨[(0, .im (.sl false (.pair (.int .i64) (.pair (.int .i64) .unit))) y1), (5, .im (.sl false (.pair (.int .i64) (.pair (.int .i64) .unit))) y2), (6, .im (.int .i64) y3), (7, .im (.int .i64) y4), (30, .im .bool y5)], [], 0⟩
def spec_GoodSamples.step (n : Nat) (K : spec_GoodSamples.Pt → Option (Tup [.bool])) : spec_GoodSamples.Pt → Option (Tup [.bool])
  | .p0 a0 => K (.p7 a0 a0 ((List.length a0) : Int) (0 : Int))
  | .p7 y1 y2 y3 y4 => cond (decide (y4 < y3)) (cond (inB y4 (List.length y2)) ((spec_l3Time n (List.getD y2 (Int.toNat y4) default).1).bind fun r7 => cond (!r7) (K (.p18 y1 y2 y3 y4 true)) (cond (decide ((0 : Int) < y4)) (cond (inB (IntKind.wrap .i64 (y4 - (1 : Int))) (List.length y1)) (K (.p18 y1 y2 y3 y4 (decide ((List.getD y2 (Int.toNat y4) default).1 ≤ (List.getD y1 (Int.toNat (IntKind.wrap .i64 (y4 - (1 : Int)))) default).1)))) (none)) (K (.p18 y1 y2 y3 y4 false)))) (none)) (some (decide (((List.length y1) : Int) ≤ (2000 : Int))))
  | .p18 y1 y2 y3 y4 y5 => cond y5 (some false) (K (.p7 y1 y2 y3 (IntKind.wrap .i64 (y4 + (1 : Int)))))
def spec_GoodSamples (n : Nat) (a0 : List ((Int) × ((Int) × (Unit)))) : Option (Tup [.bool]) := goRec spec_GoodSamples.step n (.p0 a0)
def spec_GoodSamples.spec : Ctr := ⟨32, [.v (.sl false (.pair (.int .i64) (.pair (.int .i64) .unit)))], [.bool], [], none, fun n x => spec_GoodSamples n x.1⟩
theorem spec_GoodSamples.seg_eq : SegEq ty gl spec_GoodSamples.F spec_GoodSamples.md spec_GoodSamples.T spec_GoodSamples.spec spec_GoodSamples.lb spec_GoodSamples.st spec_GoodSamples.step := by
  intro n goto y; cases y <;> kernel_rfl
theorem spec_GoodSamples.text : Text Go.Proofs.Tryd.prog spec_GoodSamples.F spec_GoodSamples.spec := textOf Go.Proofs.Tryd.f32
theorem spec_GoodSamples.ok : CtrOK Go.Proofs.Tryd.prog gl spec_GoodSamples.spec :=
  ctr_okS tabs spec_GoodSamples.text spec_GoodSamples.seg_eq (fun n x => ⟨.p0 x.1, rfl, rfl, rfl⟩) (consC spec_l3Time.ok (nilC))

/-! loop.example/g00039/spec.l1Put -/
def spec_l1Put.T : List Ctr := []
def spec_l1Put.md : List (Nat × List Md) := []
noncomputable def spec_l1Put.F : Fun := ⟨(Go.Proofs.Tryd.f90.body).getD .skip, [.g (.pair (.sl false (.int .u8)) (.pair (.int .i64) .unit)), .v (.int .i64)], [(.cell 4 27, (.pair (.sl false (.int .u8)) (.pair (.int .i64) .unit)))], [], 0, [(3, ⟨[1, 2, 4], [], [(2, 0, (.int .u8)), (4, 0, (.int .u8))], false⟩)]⟩
inductive spec_l1Put.Pt where
  | p0 (a0 : (List (Int)) × ((Int) × (Unit))) (a1 : Int)
  | p3 (y1 : Int) (y2 : Int) (y3 : Int) (y4 : List (Int)) (y5 : List (Int))
def spec_l1Put.lb : spec_l1Put.Pt → Nat
  | .p0 _ _ => 0
  | .p3 _ _ _ _ _ => 3
def spec_l1Put.st : spec_l1Put.Pt → St
  | .p0 a0 a1 => enter [.g (.pair (.sl false (.int .u8)) (.pair (.int .i64) .unit)) a0, .v (.int .i64) a1] 0
  | .p3 y1 y2 y3 y4 y5 => ⟨[(1, .im (.int .i64) y1), (2, .po 0 0), (4, .po 1 0)], [(0, .obj [.hs 2 [] none 0, .im (.int .i64) y2]), (1, .obj [.hs 3 [] none 0, .im (.int .i64) y3]), (2, .arr false (.int .u8) y4 0), (3, .arr true (.int .u8) y5 0)], 4⟩
def spec_l1Put.step (n : Nat) (K : spec_l1Put.Pt → Option (Tup [(.pair (.sl false (.int .u8)) (.pair (.int .i64) .unit))])) : spec_l1Put.Pt → Option (Tup [(.pair (.sl false (.int .u8)) (.pair (.int .i64) .unit))])
  | .p0 a0 a1 => cond (decide ((Int.tmod a0.2.1 (8 : Int)) = (0 : Int))) (cond (room ((List.length a0.1) + (List.length [(0 : Int)]))) (K (.p3 a1 a0.2.1 (default : Int) (a0.1 ++ [(0 : Int)]) ([] : List (Int)))) (none)) (K (.p3 a1 a0.2.1 (default : Int) a0.1 ([] : List (Int))))
  | .p3 y1 y2 y3 y4 y5 => cond (decide (y1 = (1 : Int))) (cond (inB (IntKind.wrap .i64 (Int.tdiv y2 (8 : Int))) (List.length y4)) (cond (decide (0 ≤ (IntKind.wrap .u64 (Int.tmod y2 (8 : Int))))) (cond (inB (IntKind.wrap .i64 (Int.tdiv y2 (8 : Int))) (List.length y4)) (some ((List.set y4 (0 + (Int.toNat (IntKind.wrap .i64 (Int.tdiv y2 (8 : Int))))) (bor .u8 (List.getD y4 (0 + (Int.toNat (IntKind.wrap .i64 (Int.tdiv y2 (8 : Int))))) default) (shr .u8 (128 : Int) (IntKind.wrap .u64 (Int.tmod y2 (8 : Int)))))), ((IntKind.wrap .i64 (y2 + (1 : Int))), ()))) (none)) (none)) (none)) (some (y4, ((IntKind.wrap .i64 (y2 + (1 : Int))), ())))
def spec_l1Put (n : Nat) (a0 : (List (Int)) × ((Int) × (Unit))) (a1 : Int) : Option (Tup [(.pair (.sl false (.int .u8)) (.pair (.int .i64) .unit))]) := goRec spec_l1Put.step n (.p0 a0 a1)
def spec_l1Put.spec : Ctr := ⟨90, [.g (.pair (.sl false (.int .u8)) (.pair (.int .i64) .unit)), .v (.int .i64)], [(.pair (.sl false (.int .u8)) (.pair (.int .i64) .unit))], [], none, fun n x => spec_l1Put n x.1 x.2.1⟩
theorem spec_l1Put.seg_eq : SegEq ty gl spec_l1Put.F spec_l1Put.md spec_l1Put.T spec_l1Put.spec spec_l1Put.lb spec_l1Put.st spec_l1Put.step := by
  intro n goto y; cases y <;> kernel_rfl
theorem spec_l1Put.text : Text Go.Proofs.Tryd.prog spec_l1Put.F spec_l1Put.spec := textOf Go.Proofs.Tryd.f90
theorem spec_l1Put.ok : CtrOK Go.Proofs.Tryd.prog gl spec_l1Put.spec :=
  ctr_okS tabs spec_l1Put.text spec_l1Put.seg_eq (fun n x => ⟨.p0 x.1 x.2.1, rfl, rfl, rfl⟩) (nilC)

/-! loop.example/g00039/spec.l1Add -/
def spec_l1Add.T : List Ctr := [spec_l1Put.spec]
def spec_l1Add.md : List (Nat × List Md) := [(90, [.g (.pair (.sl false (.int .u8)) (.pair (.int .i64) .unit)), .v])]
noncomputable def spec_l1Add.F : Fun := ⟨(Go.Proofs.Tryd.f68.body).getD .skip, [.g (.pair (.sl false (.int .u8)) (.pair (.int .i64) .unit)), .v (.int .i64), .v (.int .i64)], [(.cell 6 27, (.pair (.sl false (.int .u8)) (.pair (.int .i64) .unit)))], [], 0, [(7, ⟨[1, 3, 6, 7], [], [(3, 0, (.int .u8)), (6, 0, (.int .u8))], false⟩)]⟩
inductive spec_l1Add.Pt where
  | p0 (a0 : (List (Int)) × ((Int) × (Unit))) (a1 : Int) (a2 : Int)
  | p7 (y1 : Int) (y2 : Int) (y3 : Int) (y4 : Int) (y5 : List (Int)) (y6 : List (Int))
def spec_l1Add.lb : spec_l1Add.Pt → Nat
  | .p0 _ _ _ => 0
  | .p7 _ _ _ _ _ _ => 7
def spec_l1Add.st : spec_l1Add.Pt → St
  | .p0 a0 a1 a2 => enter [.g (.pair (.sl false (.int .u8)) (.pair (.int .i64) .unit)) a0, .v (.int .i64) a1, .v (.int .i64) a2] 0
  | .p7 y1 y2 y3 y4 y5 y6 => ⟨[(1, .im (.int .i64) y1), (3, .po 0 0), (6, .po 1 0), (7, .im (.int .i64) y2)], [(0, .obj [.hs 2 [] none 0, .im (.int .i64) y3]), (1, .obj [.hs 3 [] none 0, .im (.int .i64) y4]), (2, .arr false (.int .u8) y5 0), (3, .arr true (.int .u8) y6 0)], 4⟩
def spec_l1Add.step (n : Nat) (K : spec_l1Add.Pt → Option (Tup [(.pair (.sl false (.int .u8)) (.pair (.int .i64) .unit))])) : spec_l1Add.Pt → Option (Tup [(.pair (.sl false (.int .u8)) (.pair (.int .i64) .unit))])
  | .p0 a0 a1 a2 => K (.p7 a1 (IntKind.wrap .i64 (a2 - (1 : Int))) a0.2.1 (default : Int) a0.1 ([] : List (Int)))
  | .p7 y1 y2 y3 y4 y5 y6 => cond (decide ((0 : Int) ≤ y2)) (cond (decide (0 ≤ (IntKind.wrap .u64 y2))) ((spec_l1Put n (y5, (y3, ())) (IntKind.wrap .i64 (band .u64 (shr .u64 (IntKind.wrap .u64 y1) (IntKind.wrap .u64 y2)) (1 : Int)))).bind fun r9 => K (.p7 y1 (IntKind.wrap .i64 (y2 - (1 : Int))) r9.2.1 y4 r9.1 y6)) (none)) (some (y5, (y3, ())))
def spec_l1Add (n : Nat) (a0 : (List (Int)) × ((Int) × (Unit))) (a1 : Int) (a2 : Int) : Option (Tup [(.pair (.sl false (.int .u8)) (.pair (.int .i64) .unit))]) := goRec spec_l1Add.step n (.p0 a0 a1 a2)
def spec_l1Add.spec : Ctr := ⟨68, [.g (.pair (.sl false (.int .u8)) (.pair (.int .i64) .unit)), .v (.int .i64), .v (.int .i64)], [(.pair (.sl false (.int .u8)) (.pair (.int .i64) .unit))], [], none, fun n x => spec_l1Add n x.1 x.2.1 x.2.2.1⟩
theorem spec_l1Add.seg_eq : SegEq ty gl spec_l1Add.F spec_l1Add.md spec_l1Add.T spec_l1Add.spec spec_l1Add.lb spec_l1Add.st spec_l1Add.step := by
  intro n goto y; cases y <;> kernel_rfl
theorem spec_l1Add.text : Text Go.Proofs.Tryd.prog spec_l1Add.F spec_l1Add.spec := textOf Go.Proofs.Tryd.f68
theorem spec_l1Add.ok : CtrOK Go.Proofs.Tryd.prog gl spec_l1Add.spec :=
  ctr_okS tabs spec_l1Add.text spec_l1Add.seg_eq (fun n x => ⟨.p0 x.1 x.2.1 x.2.2.1, rfl, rfl, rfl⟩) (consC spec_l1Put.ok (nilC))

/-! loop.example/g00039/spec.l6PutBend -/
def spec_l6PutBend.T : List Ctr := [spec_l1Add.spec]
def spec_l6PutBend.md : List (Nat × List Md) := [(68, [.g (.pair (.sl false (.int .u8)) (.pair (.int .i64) .unit)), .v, .v])]
noncomputable def spec_l6PutBend.F : Fun := ⟨(Go.Proofs.Tryd.f69.body).getD .skip, [.g (.pair (.sl false (.int .u8)) (.pair (.int .i64) .unit)), .v (.int .i64)], [(.cell 4 27, (.pair (.sl false (.int .u8)) (.pair (.int .i64) .unit)))], [], 0, [(11, ⟨[1, 2, 4, 10], [], [(2, 0, (.int .u8)), (4, 0, (.int .u8))], false⟩), (17, ⟨[1, 2, 4, 22], [], [(2, 0, (.int .u8)), (4, 0, (.int .u8))], false⟩), (23, ⟨[1, 2, 4, 34], [], [(2, 0, (.int .u8)), (4, 0, (.int .u8))], false⟩)]⟩
inductive spec_l6PutBend.Pt where
  | p0 (a0 : (List (Int)) × ((Int) × (Unit))) (a1 : Int)
  | p11 (y1 : Int) (y2 : Bool) (y3 : Int) (y4 : Int) (y5 : List (Int)) (y6 : List (Int))
  | p17 (y1 : Int) (y2 : Bool) (y3 : Int) (y4 : Int) (y5 : List (Int)) (y6 : List (Int))
  | p23 (y1 : Int) (y2 : Bool) (y3 : Int) (y4 : Int) (y5 : List (Int)) (y6 : List (Int))
def spec_l6PutBend.lb : spec_l6PutBend.Pt → Nat
  | .p0 _ _ => 0
  | .p11 _ _ _ _ _ _ => 11
  | .p17 _ _ _ _ _ _ => 17
  | .p23 _ _ _ _ _ _ => 23
def spec_l6PutBend.st : spec_l6PutBend.Pt → St
  | .p0 a0 a1 => enter [.g (.pair (.sl false (.int .u8)) (.pair (.int .i64) .unit)) a0, .v (.int .i64) a1] 0
  | .p11 y1 y2 y3 y4 y5 y6 => ⟨[(1, .im (.int .i64) y1), (2, .po 0 0), (4, .po 1 0), (10, .im .bool y2)], [(0, .obj [.hs 2 [] none 0, .im (.int .i64) y3]), (1, .obj [.hs 3 [] none 0, .im (.int .i64) y4]), (2, .arr false (.int .u8) y5 0), (3, .arr true (.int .u8) y6 0)], 4⟩
  | .p17 y1 y2 y3 y4 y5 y6 => ⟨[(1, .im (.int .i64) y1), (2, .po 0 0), (4, .po 1 0), (22, .im .bool y2)], [(0, .obj [.hs 2 [] none 0, .im (.int .i64) y3]), (1, .obj [.hs 3 [] none 0, .im (.int .i64) y4]), (2, .arr false (.int .u8) y5 0), (3, .arr true (.int .u8) y6 0)], 4⟩
  | .p23 y1 y2 y3 y4 y5 y6 => ⟨[(1, .im (.int .i64) y1), (2, .po 0 0), (4, .po 1 0), (34, .im .bool y2)], [(0, .obj [.hs 2 [] none 0, .im (.int .i64) y3]), (1, .obj [.hs 3 [] none 0, .im (.int .i64) y4]), (2, .arr false (.int .u8) y5 0), (3, .arr true (.int .u8) y6 0)], 4⟩
def spec_l6PutBend.step (n : Nat) (K : spec_l6PutBend.Pt → Option (Tup [(.pair (.sl false (.int .u8)) (.pair (.int .i64) .unit))])) : spec_l6PutBend.Pt → Option (Tup [(.pair (.sl false (.int .u8)) (.pair (.int .i64) .unit))])
  | .p0 a0 a1 => cond (decide (a1 = (0 : Int))) ((spec_l1Add n (a0.1, a0.2) (0 : Int) (1 : Int)).bind fun r5 => some (r5.1, r5.2)) (cond (decide ((-(63 : Int)) ≤ a1)) (K (.p11 a1 (decide (a1 ≤ (64 : Int))) a0.2.1 (default : Int) a0.1 ([] : List (Int)))) (K (.p11 a1 false a0.2.1 (default : Int) a0.1 ([] : List (Int)))))
  | .p11 y1 y2 y3 y4 y5 y6 => cond y2 ((spec_l1Add n (y5, (y3, ())) (2 : Int) (2 : Int)).bind fun r9 => (spec_l1Add n (r9.1, r9.2) (IntKind.wrap .i64 (y1 + (63 : Int))) (7 : Int)).bind fun r10 => some (r10.1, r10.2)) (cond (decide ((-(255 : Int)) ≤ y1)) (K (.p17 y1 (decide (y1 ≤ (256 : Int))) y3 y4 y5 y6)) (K (.p17 y1 false y3 y4 y5 y6)))
  | .p17 y1 y2 y3 y4 y5 y6 => cond y2 ((spec_l1Add n (y5, (y3, ())) (6 : Int) (3 : Int)).bind fun r9 => (spec_l1Add n (r9.1, r9.2) (IntKind.wrap .i64 (y1 + (255 : Int))) (9 : Int)).bind fun r10 => some (r10.1, r10.2)) (cond (decide ((-(2047 : Int)) ≤ y1)) (K (.p23 y1 (decide (y1 ≤ (2048 : Int))) y3 y4 y5 y6)) (K (.p23 y1 false y3 y4 y5 y6)))
  | .p23 y1 y2 y3 y4 y5 y6 => cond y2 ((spec_l1Add n (y5, (y3, ())) (14 : Int) (4 : Int)).bind fun r9 => (spec_l1Add n (r9.1, r9.2) (IntKind.wrap .i64 (y1 + (2047 : Int))) (12 : Int)).bind fun r10 => some (r10.1, r10.2)) ((spec_l1Add n (y5, (y3, ())) (15 : Int) (4 : Int)).bind fun r9 => (spec_l1Add n (r9.1, r9.2) y1 (64 : Int)).bind fun r10 => some (r10.1, r10.2))
def spec_l6PutBend (n : Nat) (a0 : (List (Int)) × ((Int) × (Unit))) (a1 : Int) : Option (Tup [(.pair (.sl false (.int .u8)) (.pair (.int .i64) .unit))]) := goRec spec_l6PutBend.step n (.p0 a0 a1)
def spec_l6PutBend.spec : Ctr := ⟨69, [.g (.pair (.sl false (.int .u8)) (.pair (.int .i64) .unit)), .v (.int .i64)], [(.pair (.sl false (.int .u8)) (.pair (.int .i64) .unit))], [], none, fun n x => spec_l6PutBend n x.1 x.2.1⟩
theorem spec_l6PutBend.seg_eq : SegEq ty gl spec_l6PutBend.F spec_l6PutBend.md spec_l6PutBend.T spec_l6PutBend.spec spec_l6PutBend.lb spec_l6PutBend.st spec_l6PutBend.step := by
  intro n goto y; cases y <;> kernel_rfl
theorem spec_l6PutBend.text : Text Go.Proofs.Tryd.prog spec_l6PutBend.F spec_l6PutBend.spec := textOf Go.Proofs.Tryd.f69
theorem spec_l6PutBend.ok : CtrOK Go.Proofs.Tryd.prog gl spec_l6PutBend.spec :=
  ctr_okS tabs spec_l6PutBend.text spec_l6PutBend.seg_eq (fun n x => ⟨.p0 x.1 x.2.1, rfl, rfl, rfl⟩) (consC spec_l1Add.ok (nilC))

/-! loop.example/g00039/spec.l6Zeros -/
def spec_l6Zeros.T : List Ctr := []
def spec_l6Zeros.md : List (Nat × List Md) := []
noncomputable def spec_l6Zeros.F : Fun := ⟨(Go.Proofs.Tryd.f70.body).getD .skip, [.v (.int .u64)], [(.tmp 2, (.int .i64)), (.tmp 3, (.int .i64))], [], 0, [(7, ⟨[0, 4], [], [], false⟩), (20, ⟨[0, 4, 5], [], [], false⟩)]⟩
inductive spec_l6Zeros.Pt where
  | p0 (a0 : Int)
  | p7 (y1 : Int) (y2 : Int)
  | p20 (y1 : Int) (y2 : Int) (y3 : Int)
def spec_l6Zeros.lb : spec_l6Zeros.Pt → Nat
  | .p0 _ => 0
  | .p7 _ _ => 7
  | .p20 _ _ _ => 20
def spec_l6Zeros.st : spec_l6Zeros.Pt → St
  | .p0 a0 => enter [.v (.int .u64) a0] 0
  | .p7 y1 y2 => ⟨[(0, .im (.int .u64) y1), (4, .im (.int .i64) y2)], [], 0⟩
  | .p20 y1 y2 y3 => ⟨[(0, .im (.int .u64) y1), (4, .im (.int .i64) y2), (5, .im (.int .i64) y3)], [], 0⟩
def spec_l6Zeros.step (n : Nat) (K : spec_l6Zeros.Pt → Option (Tup [(.int .i64), (.int .i64)])) : spec_l6Zeros.Pt → Option (Tup [(.int .i64), (.int .i64)])
  | .p0 a0 => K (.p7 a0 (0 : Int))
  | .p7 y1 y2 => cond (decide (y2 < (64 : Int))) (cond (decide (0 ≤ (IntKind.wrap .u64 (IntKind.wrap .i64 ((63 : Int) - y2))))) (cond (decide ((band .u64 (shr .u64 y1 (IntKind.wrap .u64 (IntKind.wrap .i64 ((63 : Int) - y2)))) (1 : Int)) = (0 : Int))) (K (.p7 y1 (IntKind.wrap .i64 (y2 + (1 : Int))))) (K (.p20 y1 y2 (0 : Int)))) (none)) (K (.p20 y1 y2 (0 : Int)))
  | .p20 y1 y2 y3 => cond (decide (y3 < (64 : Int))) (cond (decide (0 ≤ (IntKind.wrap .u64 y3))) (cond (decide ((band .u64 (shr .u64 y1 (IntKind.wrap .u64 y3)) (1 : Int)) = (0 : Int))) (K (.p20 y1 y2 (IntKind.wrap .i64 (y3 + (1 : Int))))) (some (y2, y3))) (none)) (some (y2, y3))
def spec_l6Zeros (n : Nat) (a0 : Int) : Option (Tup [(.int .i64), (.int .i64)]) := goRec spec_l6Zeros.step n (.p0 a0)
def spec_l6Zeros.spec : Ctr := ⟨70, [.v (.int .u64)], [(.int .i64), (.int .i64)], [], none, fun n x => spec_l6Zeros n x.1⟩
theorem spec_l6Zeros.seg_eq : SegEq ty gl spec_l6Zeros.F spec_l6Zeros.md spec_l6Zeros.T spec_l6Zeros.spec spec_l6Zeros.lb spec_l6Zeros.st spec_l6Zeros.step := by
  intro n goto y; cases y <;> kernel_rfl
theorem spec_l6Zeros.text : Text Go.Proofs.Tryd.prog spec_l6Zeros.F spec_l6Zeros.spec := textOf Go.Proofs.Tryd.f70
theorem spec_l6Zeros.ok : CtrOK Go.Proofs.Tryd.prog gl spec_l6Zeros.spec :=
  ctr_okS tabs spec_l6Zeros.text spec_l6Zeros.seg_eq (fun n x => ⟨.p0 x.1, rfl, rfl, rfl⟩) (nilC)

/-! loop.example/g00039/spec.l6Pack -/
def spec_l6Pack.T : List Ctr := [spec_l1Add.spec, spec_l6PutBend.spec, spec_l6Zeros.spec]
def spec_l6Pack.md : List (Nat × List Md) := [(68, [.g (.pair (.sl false (.int .u8)) (.pair (.int .i64) .unit)), .v, .v]), (69, [.g (.pair (.sl false (.int .u8)) (.pair (.int .i64) .unit)), .v])]
noncomputable def spec_l6Pack.F : Fun := ⟨(Go.Proofs.Tryd.f34.body).getD .skip, [.v (.sl false (.pair (.int .i64) (.pair (.int .i64) .unit)))], [(.cell 2 27, (.pair (.sl false (.int .u8)) (.pair (.int .i64) .unit)))], [], 0, [(15, ⟨[0, 2, 3, 4, 5, 6, 19, 20, 21], [(19, (.pair (.int .i64) (.pair (.int .i64) .unit)))], [(2, 0, (.int .u8)), (3, 0, (.int .u8))], false⟩), (38, ⟨[0, 2, 3, 4, 5, 7, 8, 9, 10, 19, 20, 21], [(19, (.pair (.int .i64) (.pair (.int .i64) .unit)))], [(2, 0, (.int .u8)), (3, 0, (.int .u8))], false⟩), (61, ⟨[0, 2, 3, 4, 5, 6, 11, 12, 13, 19, 20, 21, 85], [(19, (.pair (.int .i64) (.pair (.int .i64) .unit)))], [(2, 0, (.int .u8)), (3, 0, (.int .u8))], false⟩)]⟩
inductive spec_l6Pack.Pt where
  | p0 (a0 : List ((Int) × ((Int) × (Unit))))
  | p15 (y1 : List ((Int) × ((Int) × (Unit)))) (y2 : Int) (y3 : Int) (y4 : Int) (y5 : List ((Int) × ((Int) × (Unit)))) (y6 : Int) (y7 : Int) (y8 : Int) (y9 : Int) (y10 : List (Int)) (y11 : List (Int))
  | p38 (y1 : List ((Int) × ((Int) × (Unit)))) (y2 : Int) (y3 : Int) (y4 : Int) (y5 : Int) (y6 : Int) (y7 : List ((Int) × ((Int) × (Unit)))) (y8 : Int) (y9 : Int) (y10 : Int) (y11 : Int) (y12 : Int) (y13 : Int) (y14 : List (Int)) (y15 : List (Int))
  | p61 (y1 : List ((Int) × ((Int) × (Unit)))) (y2 : Int) (y3 : Int) (y4 : Int) (y5 : Int) (y6 : Int) (y7 : Int) (y8 : List ((Int) × ((Int) × (Unit)))) (y9 : Int) (y10 : Int) (y11 : Bool) (y12 : Int) (y13 : Int) (y14 : List (Int)) (y15 : List (Int))
def spec_l6Pack.lb : spec_l6Pack.Pt → Nat
  | .p0 _ => 0
  | .p15 _ _ _ _ _ _ _ _ _ _ _ => 15
  | .p38 _ _ _ _ _ _ _ _ _ _ _ _ _ _ _ => 38
  | .p61 _ _ _ _ _ _ _ _ _ _ _ _ _ _ _ => 61
def spec_l6Pack.st : spec_l6Pack.Pt → St
  | .p0 a0 => enter [.v (.sl false (.pair (.int .i64) (.pair (.int .i64) .unit))) a0] 0
  | .p15 y1 y2 y3 y4 y5 y6 y7 y8 y9 y10 y11 => ⟨[(0, .im (.sl false (.pair (.int .i64) (.pair (.int .i64) .unit))) y1), (2, .po 0 0), (3, .po 1 0), (4, .im (.int .i64) y2), (5, .im (.int .i64) y3), (6, .im (.int .i64) y4), (19, .im (.sl false (.pair (.int .i64) (.pair (.int .i64) .unit))) y5), (20, .im (.int .i64) y6), (21, .im (.int .i64) y7)], [(0, .obj [.hs 2 [] none 0, .im (.int .i64) y8]), (1, .obj [.hs 3 [] none 0, .im (.int .i64) y9]), (2, .arr true (.int .u8) y10 0), (3, .arr false (.int .u8) y11 0)], 4⟩
  | .p38 y1 y2 y3 y4 y5 y6 y7 y8 y9 y10 y11 y12 y13 y14 y15 => ⟨[(0, .im (.sl false (.pair (.int .i64) (.pair (.int .i64) .unit))) y1), (2, .po 0 0), (3, .po 1 0), (4, .im (.int .i64) y2), (5, .im (.int .i64) y3), (7, .im (.int .i64) y4), (8, .po 2 0), (9, .im (.int .i64) y5), (10, .im (.int .i64) y6), (19, .im (.sl false (.pair (.int .i64) (.pair (.int .i64) .unit))) y7), (20, .im (.int .i64) y8), (21, .im (.int .i64) y9)], [(0, .obj [.hs 3 [] none 0, .im (.int .i64) y10]), (1, .obj [.hs 4 [] none 0, .im (.int .i64) y11]), (2, .obj [.im (.int .i64) y12, .im (.int .i64) y13]), (3, .arr true (.int .u8) y14 0), (4, .arr false (.int .u8) y15 0)], 5⟩
  | .p61 y1 y2 y3 y4 y5 y6 y7 y8 y9 y10 y11 y12 y13 y14 y15 => ⟨[(0, .im (.sl false (.pair (.int .i64) (.pair (.int .i64) .unit))) y1), (2, .po 0 0), (3, .po 1 0), (4, .im (.int .i64) y2), (5, .im (.int .i64) y3), (6, .im (.int .i64) y4), (11, .im (.int .u64) y5), (12, .im (.int .i64) y6), (13, .im (.int .i64) y7), (19, .im (.sl false (.pair (.int .i64) (.pair (.int .i64) .unit))) y8), (20, .im (.int .i64) y9), (21, .im (.int .i64) y10), (85, .im .bool y11)], [(0, .obj [.hs 2 [] none 0, .im (.int .i64) y12]), (1, .obj [.hs 3 [] none 0, .im (.int .i64) y13]), (2, .arr true (.int .u8) y14 0), (3, .arr false (.int .u8) y15 0)], 4⟩
def spec_l6Pack.step (n : Nat) (K : spec_l6Pack.Pt → Option (Tup [(.pair (.sl false (.int .u8)) (.pair (.int .i64) .unit))])) : spec_l6Pack.Pt → Option (Tup [(.pair (.sl false (.int .u8)) (.pair (.int .i64) .unit))])
  | .p0 a0 => (spec_l1Add n (([] : List (Int)), (default : (Int) × (Unit))) ((List.length a0) : Int) (8 : Int)).bind fun r4 => K (.p15 a0 (-(1 : Int)) (0 : Int) (0 : Int) a0 ((List.length a0) : Int) (0 : Int) (default : Int) r4.2.1 ([] : List (Int)) r4.1)
  | .p15 y1 y2 y3 y4 y5 y6 y7 y8 y9 y10 y11 => cond (decide (y7 < y6)) (cond (inB y7 (List.length y5)) (cond (decide (y7 = (0 : Int))) ((spec_l1Add n (y11, (y9, ())) (List.getD y5 (Int.toNat y7) default).1 (40 : Int)).bind fun r14 => (spec_l1Add n (r14.1, r14.2) (List.getD y5 (Int.toNat y7) default).2.1 (64 : Int)).bind fun r15 => K (.p15 y1 y2 y3 y4 y5 y6 (IntKind.wrap .i64 (y7 + (1 : Int))) y8 r15.2.1 y10 r15.1)) (cond (inB (IntKind.wrap .i64 (y7 - (1 : Int))) (List.length y1)) (cond (decide (y7 = (1 : Int))) (K (.p38 y1 y2 y3 y7 (IntKind.wrap .i64 ((List.getD y5 (Int.toNat y7) default).1 - (List.getD y1 (Int.toNat (IntKind.wrap .i64 (y7 - (1 : Int)))) default).1)) (IntKind.wrap .i64 ((List.getD y5 (Int.toNat y7) default).1 - (List.getD y1 (Int.toNat (IntKind.wrap .i64 (y7 - (1 : Int)))) default).1)) y5 y6 y7 y8 y9 (List.getD y5 (Int.toNat y7) default).1 (List.getD y5 (Int.toNat y7) default).2.1 y10 y11)) (K (.p38 y1 y2 y3 y7 (IntKind.wrap .i64 ((List.getD y5 (Int.toNat y7) default).1 - (List.getD y1 (Int.toNat (IntKind.wrap .i64 (y7 - (1 : Int)))) default).1)) (IntKind.wrap .i64 ((IntKind.wrap .i64 ((List.getD y5 (Int.toNat y7) default).1 - (List.getD y1 (Int.toNat (IntKind.wrap .i64 (y7 - (1 : Int)))) default).1)) - y4)) y5 y6 y7 y8 y9 (List.getD y5 (Int.toNat y7) default).1 (List.getD y5 (Int.toNat y7) default).2.1 y10 y11))) (none))) (none)) (some (y11, (y9, ())))
  | .p38 y1 y2 y3 y4 y5 y6 y7 y8 y9 y10 y11 y12 y13 y14 y15 => (spec_l6PutBend n (y15, (y11, ())) y6).bind fun r18 => cond (inB (IntKind.wrap .i64 (y4 - (1 : Int))) (List.length y1)) (cond (decide ((bxor .u64 (IntKind.wrap .u64 y13) (IntKind.wrap .u64 (List.getD y1 (Int.toNat (IntKind.wrap .i64 (y4 - (1 : Int)))) default).2.1)) = (0 : Int))) ((spec_l1Add n (r18.1, r18.2) (0 : Int) (1 : Int)).bind fun r19 => K (.p15 y1 y2 y3 y5 y7 y8 (IntKind.wrap .i64 (y9 + (1 : Int))) y10 r19.2.1 y14 r19.1)) ((spec_l6Zeros n (bxor .u64 (IntKind.wrap .u64 y13) (IntKind.wrap .u64 (List.getD y1 (Int.toNat (IntKind.wrap .i64 (y4 - (1 : Int)))) default).2.1))).bind fun r19 => cond (decide ((0 : Int) ≤ y2)) (cond (decide (y2 ≤ r19.1)) (K (.p61 y1 y2 y3 y5 (bxor .u64 (IntKind.wrap .u64 y13) (IntKind.wrap .u64 (List.getD y1 (Int.toNat (IntKind.wrap .i64 (y4 - (1 : Int)))) default).2.1)) r19.1 r19.2 y7 y8 y9 (decide (y3 ≤ r19.2)) y10 r18.2.1 y14 r18.1)) (K (.p61 y1 y2 y3 y5 (bxor .u64 (IntKind.wrap .u64 y13) (IntKind.wrap .u64 (List.getD y1 (Int.toNat (IntKind.wrap .i64 (y4 - (1 : Int)))) default).2.1)) r19.1 r19.2 y7 y8 y9 false y10 r18.2.1 y14 r18.1))) (K (.p61 y1 y2 y3 y5 (bxor .u64 (IntKind.wrap .u64 y13) (IntKind.wrap .u64 (List.getD y1 (Int.toNat (IntKind.wrap .i64 (y4 - (1 : Int)))) default).2.1)) r19.1 r19.2 y7 y8 y9 false y10 r18.2.1 y14 r18.1)))) (none)
  | .p61 y1 y2 y3 y4 y5 y6 y7 y8 y9 y10 y11 y12 y13 y14 y15 => cond y11 ((spec_l1Add n (y15, (y13, ())) (2 : Int) (2 : Int)).bind fun r18 => cond (decide (0 ≤ (IntKind.wrap .u64 y3))) ((spec_l1Add n (r18.1, r18.2) (IntKind.wrap .i64 (shr .u64 y5 (IntKind.wrap .u64 y3))) (IntKind.wrap .i64 ((IntKind.wrap .i64 ((64 : Int) - y2)) - y3))).bind fun r19 => K (.p15 y1 y2 y3 y4 y8 y9 (IntKind.wrap .i64 (y10 + (1 : Int))) y12 r19.2.1 y14 r19.1)) (none)) ((spec_l1Add n (y15, (y13, ())) (3 : Int) (2 : Int)).bind fun r18 => (spec_l1Add n (r18.1, r18.2) y6 (6 : Int)).bind fun r19 => (spec_l1Add n (r19.1, r19.2) (IntKind.wrap .i64 ((IntKind.wrap .i64 ((IntKind.wrap .i64 ((64 : Int) - y6)) - y7)) - (1 : Int))) (6 : Int)).bind fun r20 => cond (decide (0 ≤ (IntKind.wrap .u64 y7))) ((spec_l1Add n (r20.1, r20.2) (IntKind.wrap .i64 (shr .u64 y5 (IntKind.wrap .u64 y7))) (IntKind.wrap .i64 ((IntKind.wrap .i64 ((64 : Int) - y6)) - y7))).bind fun r21 => K (.p15 y1 y6 y7 y4 y8 y9 (IntKind.wrap .i64 (y10 + (1 : Int))) y12 r21.2.1 y14 r21.1)) (none))
def spec_l6Pack (n : Nat) (a0 : List ((Int) × ((Int) × (Unit)))) : Option (Tup [(.pair (.sl false (.int .u8)) (.pair (.int .i64) .unit))]) := goRec spec_l6Pack.step n (.p0 a0)
def spec_l6Pack.spec : Ctr := ⟨34, [.v (.sl false (.pair (.int .i64) (.pair (.int .i64) .unit)))], [(.pair (.sl false (.int .u8)) (.pair (.int .i64) .unit))], [], none, fun n x => spec_l6Pack n x.1⟩
theorem spec_l6Pack.seg_eq : SegEq ty gl spec_l6Pack.F spec_l6Pack.md spec_l6Pack.T spec_l6Pack.spec spec_l6Pack.lb spec_l6Pack.st spec_l6Pack.step := by
  intro n goto y; cases y <;> kernel_rfl
theorem spec_l6Pack.text : Text Go.Proofs.Tryd.prog spec_l6Pack.F spec_l6Pack.spec := textOf Go.Proofs.Tryd.f34
theorem spec_l6Pack.ok : CtrOK Go.Proofs.Tryd.prog gl spec_l6Pack.spec :=
  ctr_okS tabs spec_l6Pack.text spec_l6Pack.seg_eq (fun n x => ⟨.p0 x.1, rfl, rfl, rfl⟩) (consC spec_l1Add.ok (consC spec_l6PutBend.ok (consC spec_l6Zeros.ok (nilC))))

/-! loop.example/g00039/spec.l3SameBytes -/
def spec_l3SameBytes.T : List Ctr := []
def spec_l3SameBytes.md : List (Nat × List Md) := []
noncomputable def spec_l3SameBytes.F : Fun := ⟨(Go.Proofs.Tryd.f67.body).getD .skip, [.v (.sl false (.int .u8)), .v (.sl false (.int .u8))], [(.tmp 4, .bool)], [], 0, []⟩
inductive spec_l3SameBytes.Pt where
  | p0 (a0 : List (Int)) (a1 : List (Int))
def spec_l3SameBytes.lb : spec_l3SameBytes.Pt → Nat
  | .p0 _ _ => 0
def spec_l3SameBytes.st : spec_l3SameBytes.Pt → St
  | .p0 a0 a1 => enter [.v (.sl false (.int .u8)) a0, .v (.sl false (.int .u8)) a1] 0
def spec_l3SameBytes.step (n : Nat) (K : spec_l3SameBytes.Pt → Option (Tup [.bool])) : spec_l3SameBytes.Pt → Option (Tup [.bool])
  | .p0 a0 a1 => some (seq (ofOcts a0) (ofOcts a1))
def spec_l3SameBytes (n : Nat) (a0 : List (Int)) (a1 : List (Int)) : Option (Tup [.bool]) := goRec spec_l3SameBytes.step n (.p0 a0 a1)
def spec_l3SameBytes.spec : Ctr := ⟨67, [.v (.sl false (.int .u8)), .v (.sl false (.int .u8))], [.bool], [], none, fun n x => spec_l3SameBytes n x.1 x.2.1⟩
theorem spec_l3SameBytes.seg_eq : SegEq ty gl spec_l3SameBytes.F spec_l3SameBytes.md spec_l3SameBytes.T spec_l3SameBytes.spec spec_l3SameBytes.lb spec_l3SameBytes.st spec_l3SameBytes.step := by
  intro n goto y; cases y <;> kernel_rfl
theorem spec_l3SameBytes.text : Text Go.Proofs.Tryd.prog spec_l3SameBytes.F spec_l3SameBytes.spec := textOf Go.Proofs.Tryd.f67
theorem spec_l3SameBytes.ok : CtrOK Go.Proofs.Tryd.prog gl spec_l3SameBytes.spec :=
  ctr_okS tabs spec_l3SameBytes.text spec_l3SameBytes.seg_eq (fun n x => ⟨.p0 x.1 x.2.1, rfl, rfl, rfl⟩) (nilC)

/-! loop.example/g00039/spec.l6SameBits -/
def spec_l6SameBits.T : List Ctr := [spec_l3SameBytes.spec]
def spec_l6SameBits.md : List (Nat × List Md) := []
noncomputable def spec_l6SameBits.F : Fun := ⟨(Go.Proofs.Tryd.f33.body).getD .skip, [.v (.pair (.sl false (.int .u8)) (.pair (.int .i64) .unit)), .v (.pair (.sl false (.int .u8)) (.pair (.int .i64) .unit))], [(.tmp 4, .bool)], [], 0, []⟩
inductive spec_l6SameBits.Pt where
  | p0 (a0 : (List (Int)) × ((Int) × (Unit))) (a1 : (List (Int)) × ((Int) × (Unit)))
def spec_l6SameBits.lb : spec_l6SameBits.Pt → Nat
  | .p0 _ _ => 0
def spec_l6SameBits.st : spec_l6SameBits.Pt → St
  | .p0 a0 a1 => enter [.v (.pair (.sl false (.int .u8)) (.pair (.int .i64) .unit)) a0, .v (.pair (.sl false (.int .u8)) (.pair (.int .i64) .unit)) a1] 0
def spec_l6SameBits.step (n : Nat) (K : spec_l6SameBits.Pt → Option (Tup [.bool])) : spec_l6SameBits.Pt → Option (Tup [.bool])
  | .p0 a0 a1 => cond (decide (a0.2.1 = a1.2.1)) ((spec_l3SameBytes n a0.1 a1.1).bind fun r5 => some r5) (some false)
def spec_l6SameBits (n : Nat) (a0 : (List (Int)) × ((Int) × (Unit))) (a1 : (List (Int)) × ((Int) × (Unit))) : Option (Tup [.bool]) := goRec spec_l6SameBits.step n (.p0 a0 a1)
def spec_l6SameBits.spec : Ctr := ⟨33, [.v (.pair (.sl false (.int .u8)) (.pair (.int .i64) .unit)), .v (.pair (.sl false (.int .u8)) (.pair (.int .i64) .unit))], [.bool], [], none, fun n x => spec_l6SameBits n x.1 x.2.1⟩
theorem spec_l6SameBits.seg_eq : SegEq ty gl spec_l6SameBits.F spec_l6SameBits.md spec_l6SameBits.T spec_l6SameBits.spec spec_l6SameBits.lb spec_l6SameBits.st spec_l6SameBits.step := by
  intro n goto y; cases y <;> kernel_rfl
theorem spec_l6SameBits.text : Text Go.Proofs.Tryd.prog spec_l6SameBits.F spec_l6SameBits.spec := textOf Go.Proofs.Tryd.f33
theorem spec_l6SameBits.ok : CtrOK Go.Proofs.Tryd.prog gl spec_l6SameBits.spec :=
  ctr_okS tabs spec_l6SameBits.text spec_l6SameBits.seg_eq (fun n x => ⟨.p0 x.1 x.2.1, rfl, rfl, rfl⟩) (consC spec_l3SameBytes.ok (nilC))

/-! loop.example/g00039/spec.UnpackChunk -/
def spec_UnpackChunk.T : List Ctr := [spec_GoodBits.spec, spec_l6Unpack.spec, spec_GoodSamples.spec, spec_l6Pack.spec, spec_l6SameBits.spec]
def spec_UnpackChunk.md : List (Nat × List Md) := [(31, [.b (.pair (.bs (.int .u8)) (.pair (.int .i64) .unit))])]
noncomputable def spec_UnpackChunk.F : Fun := ⟨(Go.Proofs.Tryd.f12.body).getD .skip, [.v (.pair (.sl false (.int .u8)) (.pair (.int .i64) .unit))], [(.tmp 2, (.sl false (.pair (.int .i64) (.pair (.int .i64) .unit)))), (.tmp 3, .bool)], [], 0, [(14, ⟨[4, 32], [(4, (.pair (.int .i64) (.pair (.int .i64) .unit)))], [], false⟩)]⟩
inductive spec_UnpackChunk.Pt where
  | p0 (a0 : (List (Int)) × ((Int) × (Unit)))
  | p14 (y1 : Bool) (y2 : List ((Int) × ((Int) × (Unit))))
def spec_UnpackChunk.lb : spec_UnpackChunk.Pt → Nat
  | .p0 _ => 0
  | .p14 _ _ => 14
def spec_UnpackChunk.st : spec_UnpackChunk.Pt → St
  | .p0 a0 => enter [.v (.pair (.sl false (.int .u8)) (.pair (.int .i64) .unit)) a0] 0
  | .p14 y1 y2 => ⟨[(4, .hs 0 [] none 0), (32, .im .bool y1)], [(0, .arr false (.pair (.int .i64) (.pair (.int .i64) .unit)) y2 0)], 1⟩
def spec_UnpackChunk.step (n : Nat) (K : spec_UnpackChunk.Pt → Option (Tup [(.sl false (.pair (.int .i64) (.pair (.int .i64) .unit))), .bool])) : spec_UnpackChunk.Pt → Option (Tup [(.sl false (.pair (.int .i64) (.pair (.int .i64) .unit))), .bool])
  | .p0 a0 => (spec_GoodBits n (a0.1, a0.2)).bind fun r4 => cond (!r4) (some (([] : List ((Int) × ((Int) × (Unit)))), false)) ((spec_l6Unpack n (a0.1, a0.2)).bind fun r5 => cond (!r5.2) (K (.p14 true r5.1)) ((spec_GoodSamples n r5.1).bind fun r6 => cond (!r6) (K (.p14 true r5.1)) (cond (decide ((120 : Int) < ((List.length r5.1) : Int))) (K (.p14 true r5.1)) ((spec_l6Pack n r5.1).bind fun r7 => (spec_l6SameBits n (r7.1, r7.2) (a0.1, a0.2)).bind fun r8 => K (.p14 (!r8) r5.1)))))
  | .p14 y1 y2 => cond y1 (some (([] : List ((Int) × ((Int) × (Unit)))), false)) (some (y2, true))
def spec_UnpackChunk (n : Nat) (a0 : (List (Int)) × ((Int) × (Unit))) : Option (Tup [(.sl false (.pair (.int .i64) (.pair (.int .i64) .unit))), .bool]) := goRec spec_UnpackChunk.step n (.p0 a0)
def spec_UnpackChunk.spec : Ctr := ⟨12, [.v (.pair (.sl false (.int .u8)) (.pair (.int .i64) .unit))], [(.sl false (.pair (.int .i64) (.pair (.int .i64) .unit))), .bool], [], none, fun n x => spec_UnpackChunk n x.1⟩
theorem spec_UnpackChunk.seg_eq : SegEq ty gl spec_UnpackChunk.F spec_UnpackChunk.md spec_UnpackChunk.T spec_UnpackChunk.spec spec_UnpackChunk.lb spec_UnpackChunk.st spec_UnpackChunk.step := by
  intro n goto y; cases y <;> kernel_rfl
theorem spec_UnpackChunk.text : Text Go.Proofs.Tryd.prog spec_UnpackChunk.F spec_UnpackChunk.spec := textOf Go.Proofs.Tryd.f12
theorem spec_UnpackChunk.ok : CtrOK Go.Proofs.Tryd.prog gl spec_UnpackChunk.spec :=
  ctr_okS tabs spec_UnpackChunk.text spec_UnpackChunk.seg_eq (fun n x => ⟨.p0 x.1, rfl, rfl, rfl⟩) (consC spec_GoodBits.ok (consC spec_l6Unpack.ok (consC spec_GoodSamples.ok (consC spec_l6Pack.ok (consC spec_l6SameBits.ok (nilC))))))

/-! loop.example/g00039/spec.PackChunk -/
def spec_PackChunk.T : List Ctr := [spec_GoodSamples.spec, spec_l6Pack.spec]
def spec_PackChunk.md : List (Nat × List Md) := []
noncomputable def spec_PackChunk.F : Fun := ⟨(Go.Proofs.Tryd.f45.body).getD .skip, [.v (.sl false (.pair (.int .i64) (.pair (.int .i64) .unit)))], [(.cell 2 27, (.pair (.sl false (.int .u8)) (.pair (.int .i64) .unit)))], [], 0, []⟩
inductive spec_PackChunk.Pt where
  | p0 (a0 : List ((Int) × ((Int) × (Unit))))
def spec_PackChunk.lb : spec_PackChunk.Pt → Nat
  | .p0 _ => 0
def spec_PackChunk.st : spec_PackChunk.Pt → St
  | .p0 a0 => enter [.v (.sl false (.pair (.int .i64) (.pair (.int .i64) .unit))) a0] 0
def spec_PackChunk.step (n : Nat) (K : spec_PackChunk.Pt → Option (Tup [(.pair (.sl false (.int .u8)) (.pair (.int .i64) .unit))])) : spec_PackChunk.Pt → Option (Tup [(.pair (.sl false (.int .u8)) (.pair (.int .i64) .unit))])
  | .p0 a0 => (spec_GoodSamples n a0).bind fun r4 => cond (!r4) (some (([] : List (Int)), (default : (Int) × (Unit)))) (cond (decide ((120 : Int) < ((List.length a0) : Int))) (some (([] : List (Int)), (default : (Int) × (Unit)))) ((spec_l6Pack n a0).bind fun r5 => some (r5.1, r5.2)))
def spec_PackChunk (n : Nat) (a0 : List ((Int) × ((Int) × (Unit)))) : Option (Tup [(.pair (.sl false (.int .u8)) (.pair (.int .i64) .unit))]) := goRec spec_PackChunk.step n (.p0 a0)
def spec_PackChunk.spec : Ctr := ⟨45, [.v (.sl false (.pair (.int .i64) (.pair (.int .i64) .unit)))], [(.pair (.sl false (.int .u8)) (.pair (.int .i64) .unit))], [], none, fun n x => spec_PackChunk n x.1⟩
theorem spec_PackChunk.seg_eq : SegEq ty gl spec_PackChunk.F spec_PackChunk.md spec_PackChunk.T spec_PackChunk.spec spec_PackChunk.lb spec_PackChunk.st spec_PackChunk.step := by
  intro n goto y; cases y <;> kernel_rfl
theorem spec_PackChunk.text : Text Go.Proofs.Tryd.prog spec_PackChunk.F spec_PackChunk.spec := textOf Go.Proofs.Tryd.f45
theorem spec_PackChunk.ok : CtrOK Go.Proofs.Tryd.prog gl spec_PackChunk.spec :=
  ctr_okS tabs spec_PackChunk.text spec_PackChunk.seg_eq (fun n x => ⟨.p0 x.1, rfl, rfl, rfl⟩) (consC spec_GoodSamples.ok (consC spec_l6Pack.ok (nilC)))

/-! loop.example/g00039/spec.AppendChunk -/
def spec_AppendChunk.T : List Ctr := [spec_UnpackChunk.spec, spec_PackChunk.spec]
def spec_AppendChunk.md : List (Nat × List Md) := []
noncomputable def spec_AppendChunk.F : Fun := ⟨(Go.Proofs.Tryd.f18.body).getD .skip, [.v (.pair (.sl false (.int .u8)) (.pair (.int .i64) .unit)), .v (.pair (.int .i64) (.pair (.int .i64) .unit))], [(.cell 4 27, (.pair (.sl false (.int .u8)) (.pair (.int .i64) .unit)))], [], 0, []⟩
inductive spec_AppendChunk.Pt where
  | p0 (a0 : (List (Int)) × ((Int) × (Unit))) (a1 : (Int) × ((Int) × (Unit)))
def spec_AppendChunk.lb : spec_AppendChunk.Pt → Nat
  | .p0 _ _ => 0
def spec_AppendChunk.st : spec_AppendChunk.Pt → St
  | .p0 a0 a1 => enter [.v (.pair (.sl false (.int .u8)) (.pair (.int .i64) .unit)) a0, .v (.pair (.int .i64) (.pair (.int .i64) .unit)) a1] 0
def spec_AppendChunk.step (n : Nat) (K : spec_AppendChunk.Pt → Option (Tup [(.pair (.sl false (.int .u8)) (.pair (.int .i64) .unit))])) : spec_AppendChunk.Pt → Option (Tup [(.pair (.sl false (.int .u8)) (.pair (.int .i64) .unit))])
  | .p0 a0 a1 => (spec_UnpackChunk n (a0.1, a0.2)).bind fun r5 => cond (!r5.2) (some (([] : List (Int)), (default : (Int) × (Unit)))) (cond (room ((List.length r5.1) + (List.length [a1]))) ((spec_PackChunk n (r5.1 ++ [a1])).bind fun r6 => some (r6.1, r6.2)) (none))
def spec_AppendChunk (n : Nat) (a0 : (List (Int)) × ((Int) × (Unit))) (a1 : (Int) × ((Int) × (Unit))) : Option (Tup [(.pair (.sl false (.int .u8)) (.pair (.int .i64) .unit))]) := goRec spec_AppendChunk.step n (.p0 a0 a1)
def spec_AppendChunk.spec : Ctr := ⟨18, [.v (.pair (.sl false (.int .u8)) (.pair (.int .i64) .unit)), .v (.pair (.int .i64) (.pair (.int .i64) .unit))], [(.pair (.sl false (.int .u8)) (.pair (.int .i64) .unit))], [], none, fun n x => spec_AppendChunk n x.1 x.2.1⟩
theorem spec_AppendChunk.seg_eq : SegEq ty gl spec_AppendChunk.F spec_AppendChunk.md spec_AppendChunk.T spec_AppendChunk.spec spec_AppendChunk.lb spec_AppendChunk.st spec_AppendChunk.step := by
  intro n goto y; cases y <;> kernel_rfl
theorem spec_AppendChunk.text : Text Go.Proofs.Tryd.prog spec_AppendChunk.F spec_AppendChunk.spec := textOf Go.Proofs.Tryd.f18
theorem spec_AppendChunk.ok : CtrOK Go.Proofs.Tryd.prog gl spec_AppendChunk.spec :=
  ctr_okS tabs spec_AppendChunk.text spec_AppendChunk.seg_eq (fun n x => ⟨.p0 x.1 x.2.1, rfl, rfl, rfl⟩) (consC spec_UnpackChunk.ok (consC spec_PackChunk.ok (nilC)))

/-! loop.example/g00039/impl.GoodBits -/
def impl_GoodBits.T : List Ctr := []
def impl_GoodBits.md : List (Nat × List Md) := []
noncomputable def impl_GoodBits.F : Fun := ⟨(Go.Proofs.Tryd.f35.body).getD .skip, [.v (.pair (.sl false (.int .u8)) (.pair (.int .i64) .unit))], [(.tmp 2, .bool)], [], 0, [(4, ⟨[1, 20], [], [(1, 0, (.int .u8))], false⟩)]⟩
inductive impl_GoodBits.Pt where
  | p0 (a0 : (List (Int)) × ((Int) × (Unit)))
  | p4 (y1 : Bool) (y2 : List (Int)) (y3 : Int)
def impl_GoodBits.lb : impl_GoodBits.Pt → Nat
  | .p0 _ => 0
  | .p4 _ _ _ => 4
def impl_GoodBits.st : impl_GoodBits.Pt → St
  | .p0 a0 => enter [.v (.pair (.sl false (.int .u8)) (.pair (.int .i64) .unit)) a0] 0
  | .p4 y1 y2 y3 => ⟨[(1, .po 0 0), (20, .im .bool y1)], [(0, .obj [.im (.sl false (.int .u8)) y2, .im (.int .i64) y3])], 1⟩
def impl_GoodBits.step (n : Nat) (K : impl_GoodBits.Pt → Option (Tup [.bool])) : impl_GoodBits.Pt → Option (Tup [.bool])
  | .p0 a0 => cond (decide (a0.2.1 < (0 : Int))) (K (.p4 true a0.1 a0.2.1)) (cond (decide ((80000 : Int) < a0.2.1)) (K (.p4 true a0.1 a0.2.1)) (K (.p4 (!(decide (((List.length a0.1) : Int) = (IntKind.wrap .i64 (Int.tdiv (IntKind.wrap .i64 (a0.2.1 + (7 : Int))) (8 : Int)))))) a0.1 a0.2.1)))
  | .p4 y1 y2 y3 => cond y1 (some false) (cond (decide ((Int.tmod y3 (8 : Int)) = (0 : Int))) (some true) (cond (inB (IntKind.wrap .i64 (((List.length y2) : Int) - (1 : Int))) (List.length y2)) (cond (decide (0 ≤ (Int.tmod y3 (8 : Int)))) (some (decide ((shl .u8 (List.getD y2 (Int.toNat (IntKind.wrap .i64 (((List.length y2) : Int) - (1 : Int)))) default) (Int.tmod y3 (8 : Int))) = (0 : Int)))) (none)) (none)))
def impl_GoodBits (n : Nat) (a0 : (List (Int)) × ((Int) × (Unit))) : Option (Tup [.bool]) := goRec impl_GoodBits.step n (.p0 a0)
def impl_GoodBits.spec : Ctr := ⟨35, [.v (.pair (.sl false (.int .u8)) (.pair (.int .i64) .unit))], [.bool], [], none, fun n x => impl_GoodBits n x.1⟩
theorem impl_GoodBits.seg_eq : SegEq ty gl impl_GoodBits.F impl_GoodBits.md impl_GoodBits.T impl_GoodBits.spec impl_GoodBits.lb impl_GoodBits.st impl_GoodBits.step := by
  intro n goto y; cases y <;> kernel_rfl
theorem impl_GoodBits.text : Text Go.Proofs.Tryd.prog impl_GoodBits.F impl_GoodBits.spec := textOf Go.Proofs.Tryd.f35
theorem impl_GoodBits.ok : CtrOK Go.Proofs.Tryd.prog gl impl_GoodBits.spec :=
  ctr_okS tabs impl_GoodBits.text impl_GoodBits.seg_eq (fun n x => ⟨.p0 x.1, rfl, rfl, rfl⟩) (nilC)

/-! loop.example/g00039/impl.isTime -/
def impl_isTime.T : List Ctr := []
def impl_isTime.md : List (Nat × List Md) := []
noncomputable def impl_isTime.F : Fun := ⟨(Go.Proofs.Tryd.f72.body).getD .skip, [.v (.int .i64)], [(.tmp 2, .bool)], [], 0, []⟩
inductive impl_isTime.Pt where
  | p0 (a0 : Int)
def impl_isTime.lb : impl_isTime.Pt → Nat
  | .p0 _ => 0
def impl_isTime.st : impl_isTime.Pt → St
  | .p0 a0 => enter [.v (.int .i64) a0] 0
def impl_isTime.step (n : Nat) (K : impl_isTime.Pt → Option (Tup [.bool])) : impl_isTime.Pt → Option (Tup [.bool])
  | .p0 a0 => cond (decide ((0 : Int) ≤ a0)) (some (decide (a0 ≤ (1000000000000 : Int)))) (some false)
def impl_isTime (n : Nat) (a0 : Int) : Option (Tup [.bool]) := goRec impl_isTime.step n (.p0 a0)
def impl_isTime.spec : Ctr := ⟨72, [.v (.int .i64)], [.bool], [], none, fun n x => impl_isTime n x.1⟩
theorem impl_isTime.seg_eq : SegEq ty gl impl_isTime.F impl_isTime.md impl_isTime.T impl_isTime.spec impl_isTime.lb impl_isTime.st impl_isTime.step := by
  intro n goto y; cases y <;> kernel_rfl
theorem impl_isTime.text : Text Go.Proofs.Tryd.prog impl_isTime.F impl_isTime.spec := textOf Go.Proofs.Tryd.f72
theorem impl_isTime.ok : CtrOK Go.Proofs.Tryd.prog gl impl_isTime.spec :=
  ctr_okS tabs impl_isTime.text impl_isTime.seg_eq (fun n x => ⟨.p0 x.1, rfl, rfl, rfl⟩) (nilC)

/-! loop.example/g00039/impl.GoodSamples -/
def impl_GoodSamples.T : List Ctr := [impl_isTime.spec]
def impl_GoodSamples.md : List (Nat × List Md) := []
noncomputable def impl_GoodSamples.F : Fun := ⟨(Go.Proofs.Tryd.f40.body).getD .skip, [.v (.sl false (.pair (.int .i64) (.pair (.int .i64) .unit)))], [(.tmp 2, .bool)], [], 0, [(15, ⟨[0, 8, 9, 10], [(8, (.pair (.int .i64) (.pair (.int .i64) .unit)))], [], false⟩), (26, ⟨[0, 8, 9, 10, 33], [(8, (.pair (.int .i64) (.pair (.int .i64) .unit)))], [], false⟩)]⟩
inductive impl_GoodSamples.Pt where
  | p0 (a0 : List ((Int) × ((Int) × (Unit))))
  | p15 (y1 : List ((Int) × ((Int) × (Unit)))) (y2 : List ((Int) × ((Int) × (Unit)))) (y3 : Int) (y4 : Int)
  | p26 (y1 : List ((Int) × ((Int) × (Unit)))) (y2 : List ((Int) × ((Int) × (Unit)))) (y3 : Int) (y4 : Int) (y5 : Bool)
def impl_GoodSamples.lb : impl_GoodSamples.Pt → Nat
  | .p0 _ => 0
  | .p15 _ _ _ _ => 15
  | .p26 _ _ _ _ _ => 26
def impl_GoodSamples.st : impl_GoodSamples.Pt → St
  | .p0 a0 => enter [.v (.sl false (.pair (.int .i64) (.pair (.int .i64) .unit))) a0] 0
  | .p15 y1 y2 y3 y4 => ⟨[(0, .im (.sl false (.pair (.int .i64) (.pair (.int .i64) .unit))) y1), (8, .im (.sl false (.pair (.int .i64) (.pair (.int .i64) .unit))) y2), (9, .im (.int .i64) y3), (10, .im (.int .i64) y4)], [], 0⟩
  | .p26 y1 y2 y3 y4 y5 => ⟨[(0, .im (.sl false (.pair (.int .i64) (.pair (.int .i64) .unit))) y1), (8, .im (.sl false (.pair (.int .i64) (.pair (.int .i64) .unit))) y2), (9, .im (.int .i64) y3), (10, .im (.int .i64) y4), (33, .im .bool y5)], [], 0⟩
def impl_GoodSamples.step (n : Nat) (K : impl_GoodSamples.Pt → Option (Tup [.bool])) : impl_GoodSamples.Pt → Option (Tup [.bool])
  | .p0 a0 => cond (decide ((2000 : Int) < ((List.length a0) : Int))) (some false) (K (.p15 a0 a0 ((List.length a0) : Int) (0 : Int)))
  | .p15 y1 y2 y3 y4 => cond (decide (y4 < y3)) (cond (inB y4 (List.length y2)) ((impl_isTime n (List.getD y2 (Int.toNat y4) default).1).bind fun r7 => cond (!r7) (K (.p26 y1 y2 y3 y4 true)) (cond (decide ((0 : Int) < y4)) (cond (inB (IntKind.wrap .i64 (y4 - (1 : Int))) (List.length y1)) (K (.p26 y1 y2 y3 y4 (decide ((List.getD y2 (Int.toNat y4) default).1 ≤ (List.getD y1 (Int.toNat (IntKind.wrap .i64 (y4 - (1 : Int)))) default).1)))) (none)) (K (.p26 y1 y2 y3 y4 false)))) (none)) (some true)
  | .p26 y1 y2 y3 y4 y5 => cond y5 (some false) (K (.p15 y1 y2 y3 (IntKind.wrap .i64 (y4 + (1 : Int)))))
def impl_GoodSamples (n : Nat) (a0 : List ((Int) × ((Int) × (Unit)))) : Option (Tup [.bool]) := goRec impl_GoodSamples.step n (.p0 a0)
def impl_GoodSamples.spec : Ctr := ⟨40, [.v (.sl false (.pair (.int .i64) (.pair (.int .i64) .unit)))], [.bool], [], none, fun n x => impl_GoodSamples n x.1⟩
theorem impl_GoodSamples.seg_eq : SegEq ty gl impl_GoodSamples.F impl_GoodSamples.md impl_GoodSamples.T impl_GoodSamples.spec impl_GoodSamples.lb impl_GoodSamples.st impl_GoodSamples.step := by
  intro n goto y; cases y <;> kernel_rfl
theorem impl_GoodSamples.text : Text Go.Proofs.Tryd.prog impl_GoodSamples.F impl_GoodSamples.spec := textOf Go.Proofs.Tryd.f40
theorem impl_GoodSamples.ok : CtrOK Go.Proofs.Tryd.prog gl impl_GoodSamples.spec :=
  ctr_okS tabs impl_GoodSamples.text impl_GoodSamples.seg_eq (fun n x => ⟨.p0 x.1, rfl, rfl, rfl⟩) (consC impl_isTime.ok (nilC))

/-! (*loop.example/g00039/impl.bitWriter).put -/
def impl_bitWriter__put.T : List Ctr := []
def impl_bitWriter__put.md : List (Nat × List Md) := []
noncomputable def impl_bitWriter__put.F : Fun := ⟨(Go.Proofs.Tryd.f73.body).getD .skip, [.p (.pair (.sl false (.int .u8)) (.pair (.int .i64) .unit)), .v (.int .i64), .v (.int .i64)], [], [some (.pair (.sl false (.int .u8)) (.pair (.int .i64) .unit))], 1, [(4, ⟨[0, 1, 6], [], [], false⟩), (13, ⟨[0, 1, 6], [], [], false⟩)]⟩
inductive impl_bitWriter__put.Pt where
  | p0 (a0 : (List (Int)) × ((Int) × (Unit))) (a1 : Int) (a2 : Int)
  | p4 (y1 : Int) (y2 : Int) (y3 : Int) (y4 : List (Int))
  | p13 (y1 : Int) (y2 : Int) (y3 : Int) (y4 : List (Int))
def impl_bitWriter__put.lb : impl_bitWriter__put.Pt → Nat
  | .p0 _ _ _ => 0
  | .p4 _ _ _ _ => 4
  | .p13 _ _ _ _ => 13
def impl_bitWriter__put.st : impl_bitWriter__put.Pt → St
  | .p0 a0 a1 a2 => enter [.p (.pair (.sl false (.int .u8)) (.pair (.int .i64) .unit)) a0, .v (.int .i64) a1, .v (.int .i64) a2] 1
  | .p4 y1 y2 y3 y4 => ⟨[(0, .po 0 0), (1, .im (.int .i64) y1), (6, .im (.int .i64) y2)], [(0, .obj [.hs 1 [] none 0, .im (.int .i64) y3]), (1, .arr false (.int .u8) y4 0)], 2⟩
  | .p13 y1 y2 y3 y4 => ⟨[(0, .po 0 0), (1, .im (.int .i64) y1), (6, .im (.int .i64) y2)], [(0, .obj [.hs 1 [] none 0, .im (.int .i64) y3]), (1, .arr false (.int .u8) y4 0)], 2⟩
def impl_bitWriter__put.step (n : Nat) (K : impl_bitWriter__put.Pt → Option (Tup [(.pair (.sl false (.int .u8)) (.pair (.int .i64) .unit))])) : impl_bitWriter__put.Pt → Option (Tup [(.pair (.sl false (.int .u8)) (.pair (.int .i64) .unit))])
  | .p0 a0 a1 a2 => K (.p4 a1 (IntKind.wrap .i64 (a2 - (1 : Int))) a0.2.1 a0.1)
  | .p4 y1 y2 y3 y4 => cond (decide ((0 : Int) ≤ y2)) (cond (decide ((Int.tmod y3 (8 : Int)) = (0 : Int))) (cond (room ((List.length y4) + (List.length [(0 : Int)]))) (K (.p13 y1 y2 y3 (y4 ++ [(0 : Int)]))) (none)) (K (.p13 y1 y2 y3 y4))) (some (y4, (y3, ())))
  | .p13 y1 y2 y3 y4 => cond (decide (0 ≤ y2)) (cond (decide ((band .u64 (shr .u64 (IntKind.wrap .u64 y1) y2) (1 : Int)) = (1 : Int))) (cond (inB (IntKind.wrap .i64 (Int.tdiv y3 (8 : Int))) (List.length y4)) (cond (decide (0 ≤ (Int.tmod y3 (8 : Int)))) (cond (inB (IntKind.wrap .i64 (Int.tdiv y3 (8 : Int))) (List.length y4)) (K (.p4 y1 (IntKind.wrap .i64 (y2 - (1 : Int))) (IntKind.wrap .i64 (y3 + (1 : Int))) (List.set y4 (0 + (Int.toNat (IntKind.wrap .i64 (Int.tdiv y3 (8 : Int))))) (bor .u8 (List.getD y4 (0 + (Int.toNat (IntKind.wrap .i64 (Int.tdiv y3 (8 : Int))))) default) (shr .u8 (128 : Int) (Int.tmod y3 (8 : Int))))))) (none)) (none)) (none)) (K (.p4 y1 (IntKind.wrap .i64 (y2 - (1 : Int))) (IntKind.wrap .i64 (y3 + (1 : Int))) y4))) (none)
def impl_bitWriter__put (n : Nat) (a0 : (List (Int)) × ((Int) × (Unit))) (a1 : Int) (a2 : Int) : Option (Tup [(.pair (.sl false (.int .u8)) (.pair (.int .i64) .unit))]) := goRec impl_bitWriter__put.step n (.p0 a0 a1 a2)
def impl_bitWriter__put.spec : Ctr := ⟨73, [.p (.pair (.sl false (.int .u8)) (.pair (.int .i64) .unit)), .v (.int .i64), .v (.int .i64)], [], [(.pair (.sl false (.int .u8)) (.pair (.int .i64) .unit))], none, fun n x => impl_bitWriter__put n x.1 x.2.1 x.2.2.1⟩
theorem impl_bitWriter__put.seg_eq : SegEq ty gl impl_bitWriter__put.F impl_bitWriter__put.md impl_bitWriter__put.T impl_bitWriter__put.spec impl_bitWriter__put.lb impl_bitWriter__put.st impl_bitWriter__put.step := by
  intro n goto y; cases y <;> kernel_rfl
theorem impl_bitWriter__put.text : Text Go.Proofs.Tryd.prog impl_bitWriter__put.F impl_bitWriter__put.spec := textOf Go.Proofs.Tryd.f73
theorem impl_bitWriter__put.ok : CtrOK Go.Proofs.Tryd.prog gl impl_bitWriter__put.spec :=
  ctr_okS tabs impl_bitWriter__put.text impl_bitWriter__put.seg_eq (fun n x => ⟨.p0 x.1 x.2.1 x.2.2.1, rfl, rfl, rfl⟩) (nilC)

/-! math/bits.Len64 -/
def bits_Len64.T : List Ctr := []
def bits_Len64.md : List (Nat × List Md) := []
noncomputable def bits_Len64.F : Fun := ⟨(Go.Proofs.Tryd.f91.body).getD .skip, [.v (.int .u64)], [(.tmp 2, (.int .i64))], [], 0, [(11, ⟨[0, 2], [], [], false⟩)]⟩
inductive bits_Len64.Pt where
  | p0 (a0 : Int)
  | p11 (y1 : Int) (y2 : Int)
def bits_Len64.lb : bits_Len64.Pt → Nat
  | .p0 _ => 0
  | .p11 _ _ => 11
def bits_Len64.st : bits_Len64.Pt → St
  | .p0 a0 => enter [.v (.int .u64) a0] 0
  | .p11 y1 y2 => ⟨[(0, .im (.int .u64) y1), (2, .im (.int .i64) y2)], [], 0⟩
def bits_Len64.step (n : Nat) (K : bits_Len64.Pt → Option (Tup [(.int .i64)])) : bits_Len64.Pt → Option (Tup [(.int .i64)])
  | .p0 a0 => cond (decide ((4294967296 : Int) ≤ a0)) (cond (decide ((65536 : Int) ≤ (shr .u64 a0 (32 : Int)))) (K (.p11 (shr .u64 (shr .u64 a0 (32 : Int)) (16 : Int)) (IntKind.wrap .i64 ((32 : Int) + (16 : Int))))) (K (.p11 (shr .u64 a0 (32 : Int)) (32 : Int)))) (cond (decide ((65536 : Int) ≤ a0)) (K (.p11 (shr .u64 a0 (16 : Int)) (IntKind.wrap .i64 ((0 : Int) + (16 : Int))))) (K (.p11 a0 (0 : Int))))
  | .p11 y1 y2 => cond (decide ((256 : Int) ≤ y1)) (cond (inB (IntKind.wrap .u8 (shr .u64 y1 (8 : Int))) (ByteArray.size (⟨#[0, 1, 2, 2, 3, 3, 3, 3, 4, 4, 4, 4, 4, 4, 4, 4, 5, 5, 5, 5, 5, 5, 5, 5, 5, 5, 5, 5, 5, 5, 5, 5, 6, 6, 6, 6, 6, 6, 6, 6, 6, 6, 6, 6, 6, 6, 6, 6, 6, 6, 6, 6, 6, 6, 6, 6, 6, 6, 6, 6, 6, 6, 6, 6, 7, 7, 7, 7, 7, 7, 7, 7, 7, 7, 7, 7, 7, 7, 7, 7, 7, 7, 7, 7, 7, 7, 7, 7, 7, 7, 7, 7, 7, 7, 7, 7, 7, 7, 7, 7, 7, 7, 7, 7, 7, 7, 7, 7, 7, 7, 7, 7, 7, 7, 7, 7, 7, 7, 7, 7, 7, 7, 7, 7, 7, 7, 7, 7, 8, 8, 8, 8, 8, 8, 8, 8, 8, 8, 8, 8, 8, 8, 8, 8, 8, 8, 8, 8, 8, 8, 8, 8, 8, 8, 8, 8, 8, 8, 8, 8, 8, 8, 8, 8, 8, 8, 8, 8, 8, 8, 8, 8, 8, 8, 8, 8, 8, 8, 8, 8, 8, 8, 8, 8, 8, 8, 8, 8, 8, 8, 8, 8, 8, 8, 8, 8, 8, 8, 8, 8, 8, 8, 8, 8, 8, 8, 8, 8, 8, 8, 8, 8, 8, 8, 8, 8, 8, 8, 8, 8, 8, 8, 8, 8, 8, 8, 8, 8, 8, 8, 8, 8, 8, 8, 8, 8, 8, 8, 8, 8, 8, 8, 8, 8, 8, 8, 8, 8, 8, 8, 8, 8, 8, 8, 8, 8]⟩ : ByteArray))) (some (IntKind.wrap .i64 ((IntKind.wrap .i64 (y2 + (8 : Int))) + (IntKind.wrap .i64 (bt (⟨#[0, 1, 2, 2, 3, 3, 3, 3, 4, 4, 4, 4, 4, 4, 4, 4, 5, 5, 5, 5, 5, 5, 5, 5, 5, 5, 5, 5, 5, 5, 5, 5, 6, 6, 6, 6, 6, 6, 6, 6, 6, 6, 6, 6, 6, 6, 6, 6, 6, 6, 6, 6, 6, 6, 6, 6, 6, 6, 6, 6, 6, 6, 6, 6, 7, 7, 7, 7, 7, 7, 7, 7, 7, 7, 7, 7, 7, 7, 7, 7, 7, 7, 7, 7, 7, 7, 7, 7, 7, 7, 7, 7, 7, 7, 7, 7, 7, 7, 7, 7, 7, 7, 7, 7, 7, 7, 7, 7, 7, 7, 7, 7, 7, 7, 7, 7, 7, 7, 7, 7, 7, 7, 7, 7, 7, 7, 7, 7, 8, 8, 8, 8, 8, 8, 8, 8, 8, 8, 8, 8, 8, 8, 8, 8, 8, 8, 8, 8, 8, 8, 8, 8, 8, 8, 8, 8, 8, 8, 8, 8, 8, 8, 8, 8, 8, 8, 8, 8, 8, 8, 8, 8, 8, 8, 8, 8, 8, 8, 8, 8, 8, 8, 8, 8, 8, 8, 8, 8, 8, 8, 8, 8, 8, 8, 8, 8, 8, 8, 8, 8, 8, 8, 8, 8, 8, 8, 8, 8, 8, 8, 8, 8, 8, 8, 8, 8, 8, 8, 8, 8, 8, 8, 8, 8, 8, 8, 8, 8, 8, 8, 8, 8, 8, 8, 8, 8, 8, 8, 8, 8, 8, 8, 8, 8, 8, 8, 8, 8, 8, 8, 8, 8, 8, 8, 8, 8]⟩ : ByteArray) (IntKind.wrap .u8 (shr .u64 y1 (8 : Int)))))))) (none)) (cond (inB (IntKind.wrap .u8 y1) (ByteArray.size (⟨#[0, 1, 2, 2, 3, 3, 3, 3, 4, 4, 4, 4, 4, 4, 4, 4, 5, 5, 5, 5, 5, 5, 5, 5, 5, 5, 5, 5, 5, 5, 5, 5, 6, 6, 6, 6, 6, 6, 6, 6, 6, 6, 6, 6, 6, 6, 6, 6, 6, 6, 6, 6, 6, 6, 6, 6, 6, 6, 6, 6, 6, 6, 6, 6, 7, 7, 7, 7, 7, 7, 7, 7, 7, 7, 7, 7, 7, 7, 7, 7, 7, 7, 7, 7, 7, 7, 7, 7, 7, 7, 7, 7, 7, 7, 7, 7, 7, 7, 7, 7, 7, 7, 7, 7, 7, 7, 7, 7, 7, 7, 7, 7, 7, 7, 7, 7, 7, 7, 7, 7, 7, 7, 7, 7, 7, 7, 7, 7, 8, 8, 8, 8, 8, 8, 8, 8, 8, 8, 8, 8, 8, 8, 8, 8, 8, 8, 8, 8, 8, 8, 8, 8, 8, 8, 8, 8, 8, 8, 8, 8, 8, 8, 8, 8, 8, 8, 8, 8, 8, 8, 8, 8, 8, 8, 8, 8, 8, 8, 8, 8, 8, 8, 8, 8, 8, 8, 8, 8, 8, 8, 8, 8, 8, 8, 8, 8, 8, 8, 8, 8, 8, 8, 8, 8, 8, 8, 8, 8, 8, 8, 8, 8, 8, 8, 8, 8, 8, 8, 8, 8, 8, 8, 8, 8, 8, 8, 8, 8, 8, 8, 8, 8, 8, 8, 8, 8, 8, 8, 8, 8, 8, 8, 8, 8, 8, 8, 8, 8, 8, 8, 8, 8, 8, 8, 8, 8]⟩ : ByteArray))) (some (IntKind.wrap .i64 (y2 + (IntKind.wrap .i64 (bt (⟨#[0, 1, 2, 2, 3, 3, 3, 3, 4, 4, 4, 4, 4, 4, 4, 4, 5, 5, 5, 5, 5, 5, 5, 5, 5, 5, 5, 5, 5, 5, 5, 5, 6, 6, 6, 6, 6, 6, 6, 6, 6, 6, 6, 6, 6, 6, 6, 6, 6, 6, 6, 6, 6, 6, 6, 6, 6, 6, 6, 6, 6, 6, 6, 6, 7, 7, 7, 7, 7, 7, 7, 7, 7, 7, 7, 7, 7, 7, 7, 7, 7, 7, 7, 7, 7, 7, 7, 7, 7, 7, 7, 7, 7, 7, 7, 7, 7, 7, 7, 7, 7, 7, 7, 7, 7, 7, 7, 7, 7, 7, 7, 7, 7, 7, 7, 7, 7, 7, 7, 7, 7, 7, 7, 7, 7, 7, 7, 7, 8, 8, 8, 8, 8, 8, 8, 8, 8, 8, 8, 8, 8, 8, 8, 8, 8, 8, 8, 8, 8, 8, 8, 8, 8, 8, 8, 8, 8, 8, 8, 8, 8, 8, 8, 8, 8, 8, 8, 8, 8, 8, 8, 8, 8, 8, 8, 8, 8, 8, 8, 8, 8, 8, 8, 8, 8, 8, 8, 8, 8, 8, 8, 8, 8, 8, 8, 8, 8, 8, 8, 8, 8, 8, 8, 8, 8, 8, 8, 8, 8, 8, 8, 8, 8, 8, 8, 8, 8, 8, 8, 8, 8, 8, 8, 8, 8, 8, 8, 8, 8, 8, 8, 8, 8, 8, 8, 8, 8, 8, 8, 8, 8, 8, 8, 8, 8, 8, 8, 8, 8, 8, 8, 8, 8, 8, 8, 8]⟩ : ByteArray) (IntKind.wrap .u8 y1)))))) (none))
def bits_Len64 (n : Nat) (a0 : Int) : Option (Tup [(.int .i64)]) := goRec bits_Len64.step n (.p0 a0)
def bits_Len64.spec : Ctr := ⟨91, [.v (.int .u64)], [(.int .i64)], [], none, fun n x => bits_Len64 n x.1⟩
theorem bits_Len64.seg_eq : SegEq ty gl bits_Len64.F bits_Len64.md bits_Len64.T bits_Len64.spec bits_Len64.lb bits_Len64.st bits_Len64.step := by
  intro n goto y; cases y <;> kernel_rfl
theorem bits_Len64.text : Text Go.Proofs.Tryd.prog bits_Len64.F bits_Len64.spec := textOf Go.Proofs.Tryd.f91
theorem bits_Len64.ok : CtrOK Go.Proofs.Tryd.prog gl bits_Len64.spec :=
  ctr_okS tabs bits_Len64.text bits_Len64.seg_eq (fun n x => ⟨.p0 x.1, rfl, rfl, rfl⟩) (nilC)

/-! math/bits.LeadingZeros64 -/
def bits_LeadingZeros64.T : List Ctr := [bits_Len64.spec]
def bits_LeadingZeros64.md : List (Nat × List Md) := []
noncomputable def bits_LeadingZeros64.F : Fun := ⟨(Go.Proofs.Tryd.f74.body).getD .skip, [.v (.int .u64)], [(.tmp 2, (.int .i64))], [], 0, []⟩
inductive bits_LeadingZeros64.Pt where
  | p0 (a0 : Int)
def bits_LeadingZeros64.lb : bits_LeadingZeros64.Pt → Nat
  | .p0 _ => 0
def bits_LeadingZeros64.st : bits_LeadingZeros64.Pt → St
  | .p0 a0 => enter [.v (.int .u64) a0] 0
def bits_LeadingZeros64.step (n : Nat) (K : bits_LeadingZeros64.Pt → Option (Tup [(.int .i64)])) : bits_LeadingZeros64.Pt → Option (Tup [(.int .i64)])
  | .p0 a0 => (bits_Len64 n a0).bind fun (r4 : Int) => some (IntKind.wrap .i64 ((64 : Int) - r4))
def bits_LeadingZeros64 (n : Nat) (a0 : Int) : Option (Tup [(.int .i64)]) := goRec bits_LeadingZeros64.step n (.p0 a0)
def bits_LeadingZeros64.spec : Ctr := ⟨74, [.v (.int .u64)], [(.int .i64)], [], none, fun n x => bits_LeadingZeros64 n x.1⟩
theorem bits_LeadingZeros64.seg_eq : SegEq ty gl bits_LeadingZeros64.F bits_LeadingZeros64.md bits_LeadingZeros64.T bits_LeadingZeros64.spec bits_LeadingZeros64.lb bits_LeadingZeros64.st bits_LeadingZeros64.step := by
  intro n goto y; cases y <;> kernel_rfl
theorem bits_LeadingZeros64.text : Text Go.Proofs.Tryd.prog bits_LeadingZeros64.F bits_LeadingZeros64.spec := textOf Go.Proofs.Tryd.f74
theorem bits_LeadingZeros64.ok : CtrOK Go.Proofs.Tryd.prog gl bits_LeadingZeros64.spec :=
  ctr_okS tabs bits_LeadingZeros64.text bits_LeadingZeros64.seg_eq (fun n x => ⟨.p0 x.1, rfl, rfl, rfl⟩) (consC bits_Len64.ok (nilC))

/-! math/bits.TrailingZeros64 -/
def bits_TrailingZeros64.T : List Ctr := []
def bits_TrailingZeros64.md : List (Nat × List Md) := []
noncomputable def bits_TrailingZeros64.F : Fun := ⟨(Go.Proofs.Tryd.f75.body).getD .skip, [.v (.int .u64)], [(.tmp 2, (.int .i64))], [], 0, []⟩
inductive bits_TrailingZeros64.Pt where
  | p0 (a0 : Int)
def bits_TrailingZeros64.lb : bits_TrailingZeros64.Pt → Nat
  | .p0 _ => 0
def bits_TrailingZeros64.st : bits_TrailingZeros64.Pt → St
  | .p0 a0 => enter [.v (.int .u64) a0] 0
def bits_TrailingZeros64.step (n : Nat) (K : bits_TrailingZeros64.Pt → Option (Tup [(.int .i64)])) : bits_TrailingZeros64.Pt → Option (Tup [(.int .i64)])
  | .p0 a0 => cond (decide (a0 = (0 : Int))) (some (64 : Int)) (cond (inB (shr .u64 (IntKind.wrap .u64 ((285870213051353865 : Int) * (band .u64 a0 (IntKind.wrap .u64 ((0 : Int) - a0))))) (58 : Int)) 64) (some (IntKind.wrap .i64 (List.getD (List.getD [[(0 : Int), (1 : Int), (56 : Int), (2 : Int), (57 : Int), (49 : Int), (28 : Int), (3 : Int), (61 : Int), (58 : Int), (42 : Int), (50 : Int), (38 : Int), (29 : Int), (17 : Int), (4 : Int), (62 : Int), (47 : Int), (59 : Int), (36 : Int), (45 : Int), (43 : Int), (51 : Int), (22 : Int), (53 : Int), (39 : Int), (33 : Int), (30 : Int), (24 : Int), (18 : Int), (12 : Int), (5 : Int), (63 : Int), (55 : Int), (48 : Int), (27 : Int), (60 : Int), (41 : Int), (37 : Int), (16 : Int), (46 : Int), (35 : Int), (44 : Int), (21 : Int), (52 : Int), (32 : Int), (23 : Int), (11 : Int), (54 : Int), (26 : Int), (40 : Int), (15 : Int), (34 : Int), (20 : Int), (31 : Int), (10 : Int), (25 : Int), (14 : Int), (19 : Int), (9 : Int), (13 : Int), (8 : Int), (7 : Int), (6 : Int)]] 0 default) (Int.toNat (shr .u64 (IntKind.wrap .u64 ((285870213051353865 : Int) * (band .u64 a0 (IntKind.wrap .u64 ((0 : Int) - a0))))) (58 : Int))) default))) (none))
def bits_TrailingZeros64 (n : Nat) (a0 : Int) : Option (Tup [(.int .i64)]) := goRec bits_TrailingZeros64.step n (.p0 a0)
def bits_TrailingZeros64.spec : Ctr := ⟨75, [.v (.int .u64)], [(.int .i64)], [], none, fun n x => bits_TrailingZeros64 n x.1⟩
theorem bits_TrailingZeros64.seg_eq : SegEq ty gl bits_TrailingZeros64.F bits_TrailingZeros64.md bits_TrailingZeros64.T bits_TrailingZeros64.spec bits_TrailingZeros64.lb bits_TrailingZeros64.st bits_TrailingZeros64.step := by
  intro n goto y; cases y <;> kernel_rfl
theorem bits_TrailingZeros64.text : Text Go.Proofs.Tryd.prog bits_TrailingZeros64.F bits_TrailingZeros64.spec := textOf Go.Proofs.Tryd.f75
theorem bits_TrailingZeros64.ok : CtrOK Go.Proofs.Tryd.prog gl bits_TrailingZeros64.spec :=
  ctr_okS tabs bits_TrailingZeros64.text bits_TrailingZeros64.seg_eq (fun n x => ⟨.p0 x.1, rfl, rfl, rfl⟩) (nilC)

/-! loop.example/g00039/impl.packChunk -/
def impl_packChunk.T : List Ctr := [impl_bitWriter__put.spec, bits_LeadingZeros64.spec, bits_TrailingZeros64.spec]
def impl_packChunk.md : List (Nat × List Md) := [(73, [.p (.pair (.sl false (.int .u8)) (.pair (.int .i64) .unit)), .v, .v])]
noncomputable def impl_packChunk.F : Fun := ⟨(Go.Proofs.Tryd.f41.body).getD .skip, [.v (.sl false (.pair (.int .i64) (.pair (.int .i64) .unit)))], [(.cell 2 27, (.pair (.sl false (.int .u8)) (.pair (.int .i64) .unit)))], [], 0, [(15, ⟨[0, 2, 3, 4, 5, 6, 7, 21, 22, 23], [(21, (.pair (.int .i64) (.pair (.int .i64) .unit)))], [(2, 0, (.int .u8))], false⟩), (42, ⟨[0, 2, 3, 4, 5, 6, 7, 8, 9, 11, 21, 22, 23], [(21, (.pair (.int .i64) (.pair (.int .i64) .unit)))], [(2, 0, (.int .u8))], false⟩), (49, ⟨[0, 2, 3, 4, 5, 6, 7, 8, 9, 21, 22, 23], [(21, (.pair (.int .i64) (.pair (.int .i64) .unit)))], [(2, 0, (.int .u8))], false⟩), (54, ⟨[0, 2, 3, 4, 5, 6, 7, 8, 9, 11, 21, 22, 23, 64], [(21, (.pair (.int .i64) (.pair (.int .i64) .unit)))], [(2, 0, (.int .u8))], false⟩), (60, ⟨[0, 2, 3, 4, 5, 6, 7, 8, 9, 11, 21, 22, 23, 77], [(21, (.pair (.int .i64) (.pair (.int .i64) .unit)))], [(2, 0, (.int .u8))], false⟩), (66, ⟨[0, 2, 3, 4, 5, 6, 7, 8, 9, 11, 21, 22, 23, 90], [(21, (.pair (.int .i64) (.pair (.int .i64) .unit)))], [(2, 0, (.int .u8))], false⟩), (88, ⟨[0, 2, 3, 4, 5, 6, 7, 12, 13, 14, 21, 22, 23, 131], [(21, (.pair (.int .i64) (.pair (.int .i64) .unit)))], [(2, 0, (.int .u8))], false⟩)]⟩
inductive impl_packChunk.Pt where
  | p0 (a0 : List ((Int) × ((Int) × (Unit))))
  | p15 (y1 : List ((Int) × ((Int) × (Unit)))) (y2 : Int) (y3 : Bool) (y4 : Int) (y5 : Int) (y6 : List ((Int) × ((Int) × (Unit)))) (y7 : Int) (y8 : Int) (y9 : Int) (y10 : Int) (y11 : List (Int)) (y12 : List (Int))
  | p42 (y1 : List ((Int) × ((Int) × (Unit)))) (y2 : Int) (y3 : Bool) (y4 : Int) (y5 : Int) (y6 : Int) (y7 : Int) (y8 : List ((Int) × ((Int) × (Unit)))) (y9 : Int) (y10 : Int) (y11 : Int) (y12 : Int) (y13 : Int) (y14 : Int) (y15 : List (Int)) (y16 : List (Int))
  | p49 (y1 : List ((Int) × ((Int) × (Unit)))) (y2 : Int) (y3 : Bool) (y4 : Int) (y5 : Int) (y6 : Int) (y7 : List ((Int) × ((Int) × (Unit)))) (y8 : Int) (y9 : Int) (y10 : Int) (y11 : Int) (y12 : Int) (y13 : Int) (y14 : List (Int)) (y15 : List (Int))
  | p54 (y1 : List ((Int) × ((Int) × (Unit)))) (y2 : Int) (y3 : Bool) (y4 : Int) (y5 : Int) (y6 : Int) (y7 : Int) (y8 : List ((Int) × ((Int) × (Unit)))) (y9 : Int) (y10 : Int) (y11 : Bool) (y12 : Int) (y13 : Int) (y14 : Int) (y15 : Int) (y16 : List (Int)) (y17 : List (Int))
  | p88 (y1 : List ((Int) × ((Int) × (Unit)))) (y2 : Int) (y3 : Bool) (y4 : Int) (y5 : Int) (y6 : Int) (y7 : Int) (y8 : Int) (y9 : List ((Int) × ((Int) × (Unit)))) (y10 : Int) (y11 : Int) (y12 : Bool) (y13 : Int) (y14 : Int) (y15 : List (Int)) (y16 : List (Int))
  | p60 (y1 : List ((Int) × ((Int) × (Unit)))) (y2 : Int) (y3 : Bool) (y4 : Int) (y5 : Int) (y6 : Int) (y7 : Int) (y8 : List ((Int) × ((Int) × (Unit)))) (y9 : Int) (y10 : Int) (y11 : Bool) (y12 : Int) (y13 : Int) (y14 : Int) (y15 : Int) (y16 : List (Int)) (y17 : List (Int))
  | p66 (y1 : List ((Int) × ((Int) × (Unit)))) (y2 : Int) (y3 : Bool) (y4 : Int) (y5 : Int) (y6 : Int) (y7 : Int) (y8 : List ((Int) × ((Int) × (Unit)))) (y9 : Int) (y10 : Int) (y11 : Bool) (y12 : Int) (y13 : Int) (y14 : Int) (y15 : Int) (y16 : List (Int)) (y17 : List (Int))
def impl_packChunk.lb : impl_packChunk.Pt → Nat
  | .p0 _ => 0
  | .p15 _ _ _ _ _ _ _ _ _ _ _ _ => 15
  | .p42 _ _ _ _ _ _ _ _ _ _ _ _ _ _ _ _ => 42
  | .p49 _ _ _ _ _ _ _ _ _ _ _ _ _ _ _ => 49
  | .p54 _ _ _ _ _ _ _ _ _ _ _ _ _ _ _ _ _ => 54
  | .p88 _ _ _ _ _ _ _ _ _ _ _ _ _ _ _ _ => 88
  | .p60 _ _ _ _ _ _ _ _ _ _ _ _ _ _ _ _ _ => 60
  | .p66 _ _ _ _ _ _ _ _ _ _ _ _ _ _ _ _ _ => 66
def impl_packChunk.st : impl_packChunk.Pt → St
  | .p0 a0 => enter [.v (.sl false (.pair (.int .i64) (.pair (.int .i64) .unit))) a0] 0
  | .p15 y1 y2 y3 y4 y5 y6 y7 y8 y9 y10 y11 y12 => ⟨[(0, .im (.sl false (.pair (.int .i64) (.pair (.int .i64) .unit))) y1), (2, .po 0 0), (3, .po 1 0), (4, .im (.int .i64) y2), (5, .im .bool y3), (6, .im (.int .i64) y4), (7, .im (.int .i64) y5), (21, .im (.sl false (.pair (.int .i64) (.pair (.int .i64) .unit))) y6), (22, .im (.int .i64) y7), (23, .im (.int .i64) y8)], [(0, .obj [.hs 2 [] none 0, .im (.int .i64) y9]), (1, .obj [.hs 3 [] none 0, .im (.int .i64) y10]), (2, .arr true (.int .u8) y11 0), (3, .arr false (.int .u8) y12 0)], 4⟩
  | .p42 y1 y2 y3 y4 y5 y6 y7 y8 y9 y10 y11 y12 y13 y14 y15 y16 => ⟨[(0, .im (.sl false (.pair (.int .i64) (.pair (.int .i64) .unit))) y1), (2, .po 0 0), (3, .po 1 0), (4, .im (.int .i64) y2), (5, .im .bool y3), (6, .im (.int .i64) y4), (7, .im (.int .i64) y5), (8, .im (.int .i64) y6), (9, .po 2 0), (11, .im (.int .i64) y7), (21, .im (.sl false (.pair (.int .i64) (.pair (.int .i64) .unit))) y8), (22, .im (.int .i64) y9), (23, .im (.int .i64) y10)], [(0, .obj [.hs 3 [] none 0, .im (.int .i64) y11]), (1, .obj [.hs 4 [] none 0, .im (.int .i64) y12]), (2, .obj [.im (.int .i64) y13, .im (.int .i64) y14]), (3, .arr true (.int .u8) y15 0), (4, .arr false (.int .u8) y16 0)], 5⟩
  | .p49 y1 y2 y3 y4 y5 y6 y7 y8 y9 y10 y11 y12 y13 y14 y15 => ⟨[(0, .im (.sl false (.pair (.int .i64) (.pair (.int .i64) .unit))) y1), (2, .po 0 0), (3, .po 1 0), (4, .im (.int .i64) y2), (5, .im .bool y3), (6, .im (.int .i64) y4), (7, .im (.int .i64) y5), (8, .im (.int .i64) y6), (9, .po 2 0), (21, .im (.sl false (.pair (.int .i64) (.pair (.int .i64) .unit))) y7), (22, .im (.int .i64) y8), (23, .im (.int .i64) y9)], [(0, .obj [.hs 3 [] none 0, .im (.int .i64) y10]), (1, .obj [.hs 4 [] none 0, .im (.int .i64) y11]), (2, .obj [.im (.int .i64) y12, .im (.int .i64) y13]), (3, .arr true (.int .u8) y14 0), (4, .arr false (.int .u8) y15 0)], 5⟩
  | .p54 y1 y2 y3 y4 y5 y6 y7 y8 y9 y10 y11 y12 y13 y14 y15 y16 y17 => ⟨[(0, .im (.sl false (.pair (.int .i64) (.pair (.int .i64) .unit))) y1), (2, .po 0 0), (3, .po 1 0), (4, .im (.int .i64) y2), (5, .im .bool y3), (6, .im (.int .i64) y4), (7, .im (.int .i64) y5), (8, .im (.int .i64) y6), (9, .po 2 0), (11, .im (.int .i64) y7), (21, .im (.sl false (.pair (.int .i64) (.pair (.int .i64) .unit))) y8), (22, .im (.int .i64) y9), (23, .im (.int .i64) y10), (64, .im .bool y11)], [(0, .obj [.hs 3 [] none 0, .im (.int .i64) y12]), (1, .obj [.hs 4 [] none 0, .im (.int .i64) y13]), (2, .obj [.im (.int .i64) y14, .im (.int .i64) y15]), (3, .arr true (.int .u8) y16 0), (4, .arr false (.int .u8) y17 0)], 5⟩
  | .p88 y1 y2 y3 y4 y5 y6 y7 y8 y9 y10 y11 y12 y13 y14 y15 y16 => ⟨[(0, .im (.sl false (.pair (.int .i64) (.pair (.int .i64) .unit))) y1), (2, .po 0 0), (3, .po 1 0), (4, .im (.int .i64) y2), (5, .im .bool y3), (6, .im (.int .i64) y4), (7, .im (.int .i64) y5), (12, .im (.int .u64) y6), (13, .im (.int .i64) y7), (14, .im (.int .i64) y8), (21, .im (.sl false (.pair (.int .i64) (.pair (.int .i64) .unit))) y9), (22, .im (.int .i64) y10), (23, .im (.int .i64) y11), (131, .im .bool y12)], [(0, .obj [.hs 2 [] none 0, .im (.int .i64) y13]), (1, .obj [.hs 3 [] none 0, .im (.int .i64) y14]), (2, .arr true (.int .u8) y15 0), (3, .arr false (.int .u8) y16 0)], 4⟩
  | .p60 y1 y2 y3 y4 y5 y6 y7 y8 y9 y10 y11 y12 y13 y14 y15 y16 y17 => ⟨[(0, .im (.sl false (.pair (.int .i64) (.pair (.int .i64) .unit))) y1), (2, .po 0 0), (3, .po 1 0), (4, .im (.int .i64) y2), (5, .im .bool y3), (6, .im (.int .i64) y4), (7, .im (.int .i64) y5), (8, .im (.int .i64) y6), (9, .po 2 0), (11, .im (.int .i64) y7), (21, .im (.sl false (.pair (.int .i64) (.pair (.int .i64) .unit))) y8), (22, .im (.int .i64) y9), (23, .im (.int .i64) y10), (77, .im .bool y11)], [(0, .obj [.hs 3 [] none 0, .im (.int .i64) y12]), (1, .obj [.hs 4 [] none 0, .im (.int .i64) y13]), (2, .obj [.im (.int .i64) y14, .im (.int .i64) y15]), (3, .arr true (.int .u8) y16 0), (4, .arr false (.int .u8) y17 0)], 5⟩
  | .p66 y1 y2 y3 y4 y5 y6 y7 y8 y9 y10 y11 y12 y13 y14 y15 y16 y17 => ⟨[(0, .im (.sl false (.pair (.int .i64) (.pair (.int .i64) .unit))) y1), (2, .po 0 0), (3, .po 1 0), (4, .im (.int .i64) y2), (5, .im .bool y3), (6, .im (.int .i64) y4), (7, .im (.int .i64) y5), (8, .im (.int .i64) y6), (9, .po 2 0), (11, .im (.int .i64) y7), (21, .im (.sl false (.pair (.int .i64) (.pair (.int .i64) .unit))) y8), (22, .im (.int .i64) y9), (23, .im (.int .i64) y10), (90, .im .bool y11)], [(0, .obj [.hs 3 [] none 0, .im (.int .i64) y12]), (1, .obj [.hs 4 [] none 0, .im (.int .i64) y13]), (2, .obj [.im (.int .i64) y14, .im (.int .i64) y15]), (3, .arr true (.int .u8) y16 0), (4, .arr false (.int .u8) y17 0)], 5⟩
def impl_packChunk.step (n : Nat) (K : impl_packChunk.Pt → Option (Tup [(.pair (.sl false (.int .u8)) (.pair (.int .i64) .unit))])) : impl_packChunk.Pt → Option (Tup [(.pair (.sl false (.int .u8)) (.pair (.int .i64) .unit))])
  | .p0 a0 => (impl_bitWriter__put n (([] : List (Int)), (default : (Int) × (Unit))) ((List.length a0) : Int) (8 : Int)).bind fun r4 => K (.p15 a0 (0 : Int) false (0 : Int) (0 : Int) a0 ((List.length a0) : Int) (0 : Int) (default : Int) r4.2.1 ([] : List (Int)) r4.1)
  | .p15 y1 y2 y3 y4 y5 y6 y7 y8 y9 y10 y11 y12 => cond (decide (y8 < y7)) (cond (inB y8 (List.length y6)) (cond (decide (y8 = (0 : Int))) ((impl_bitWriter__put n (y12, (y10, ())) (List.getD y6 (Int.toNat y8) default).1 (40 : Int)).bind fun r15 => (impl_bitWriter__put n (r15.1, r15.2) (List.getD y6 (Int.toNat y8) default).2.1 (64 : Int)).bind fun r16 => K (.p15 y1 y2 y3 y4 y5 y6 y7 (IntKind.wrap .i64 (y8 + (1 : Int))) y9 r16.2.1 y11 r16.1)) (cond (inB (IntKind.wrap .i64 (y8 - (1 : Int))) (List.length y1)) (cond (decide (y8 = (1 : Int))) (K (.p42 y1 (IntKind.wrap .i64 ((List.getD y6 (Int.toNat y8) default).1 - (List.getD y1 (Int.toNat (IntKind.wrap .i64 (y8 - (1 : Int)))) default).1)) y3 y4 y5 y8 (IntKind.wrap .i64 ((List.getD y6 (Int.toNat y8) default).1 - (List.getD y1 (Int.toNat (IntKind.wrap .i64 (y8 - (1 : Int)))) default).1)) y6 y7 y8 y9 y10 (List.getD y6 (Int.toNat y8) default).1 (List.getD y6 (Int.toNat y8) default).2.1 y11 y12)) (K (.p42 y1 (IntKind.wrap .i64 ((List.getD y6 (Int.toNat y8) default).1 - (List.getD y1 (Int.toNat (IntKind.wrap .i64 (y8 - (1 : Int)))) default).1)) y3 y4 y5 y8 (IntKind.wrap .i64 ((IntKind.wrap .i64 ((List.getD y6 (Int.toNat y8) default).1 - (List.getD y1 (Int.toNat (IntKind.wrap .i64 (y8 - (1 : Int)))) default).1)) - y2)) y6 y7 y8 y9 y10 (List.getD y6 (Int.toNat y8) default).1 (List.getD y6 (Int.toNat y8) default).2.1 y11 y12))) (none))) (none)) (some (y12, (y10, ())))
  | .p42 y1 y2 y3 y4 y5 y6 y7 y8 y9 y10 y11 y12 y13 y14 y15 y16 => cond (decide (y7 = (0 : Int))) ((impl_bitWriter__put n (y16, (y12, ())) (0 : Int) (1 : Int)).bind fun r19 => K (.p49 y1 y2 y3 y4 y5 y6 y8 y9 y10 y11 r19.2.1 y13 y14 y15 r19.1)) (cond (decide ((-(63 : Int)) ≤ y7)) (K (.p54 y1 y2 y3 y4 y5 y6 y7 y8 y9 y10 (decide (y7 ≤ (64 : Int))) y11 y12 y13 y14 y15 y16)) (K (.p54 y1 y2 y3 y4 y5 y6 y7 y8 y9 y10 false y11 y12 y13 y14 y15 y16)))
  | .p49 y1 y2 y3 y4 y5 y6 y7 y8 y9 y10 y11 y12 y13 y14 y15 => cond (inB (IntKind.wrap .i64 (y6 - (1 : Int))) (List.length y1)) (cond (decide ((IntKind.wrap .u64 (bxor .i64 y13 (List.getD y1 (Int.toNat (IntKind.wrap .i64 (y6 - (1 : Int)))) default).2.1)) = (0 : Int))) ((impl_bitWriter__put n (y15, (y11, ())) (0 : Int) (1 : Int)).bind fun r18 => K (.p15 y1 y2 y3 y4 y5 y7 y8 (IntKind.wrap .i64 (y9 + (1 : Int))) y10 r18.2.1 y14 r18.1)) ((bits_LeadingZeros64 n (IntKind.wrap .u64 (bxor .i64 y13 (List.getD y1 (Int.toNat (IntKind.wrap .i64 (y6 - (1 : Int)))) default).2.1))).bind fun (r18 : Int) => (bits_TrailingZeros64 n (IntKind.wrap .u64 (bxor .i64 y13 (List.getD y1 (Int.toNat (IntKind.wrap .i64 (y6 - (1 : Int)))) default).2.1))).bind fun (r19 : Int) => cond y3 (cond (decide (y4 ≤ r18)) (K (.p88 y1 y2 y3 y4 y5 (IntKind.wrap .u64 (bxor .i64 y13 (List.getD y1 (Int.toNat (IntKind.wrap .i64 (y6 - (1 : Int)))) default).2.1)) r18 r19 y7 y8 y9 (decide (y5 ≤ r19)) y10 y11 y14 y15)) (K (.p88 y1 y2 y3 y4 y5 (IntKind.wrap .u64 (bxor .i64 y13 (List.getD y1 (Int.toNat (IntKind.wrap .i64 (y6 - (1 : Int)))) default).2.1)) r18 r19 y7 y8 y9 false y10 y11 y14 y15))) (K (.p88 y1 y2 y3 y4 y5 (IntKind.wrap .u64 (bxor .i64 y13 (List.getD y1 (Int.toNat (IntKind.wrap .i64 (y6 - (1 : Int)))) default).2.1)) r18 r19 y7 y8 y9 false y10 y11 y14 y15)))) (none)
  | .p54 y1 y2 y3 y4 y5 y6 y7 y8 y9 y10 y11 y12 y13 y14 y15 y16 y17 => cond y11 ((impl_bitWriter__put n (y17, (y13, ())) (2 : Int) (2 : Int)).bind fun r20 => (impl_bitWriter__put n (r20.1, r20.2) (IntKind.wrap .i64 (y7 + (63 : Int))) (7 : Int)).bind fun r21 => K (.p49 y1 y2 y3 y4 y5 y6 y8 y9 y10 y12 r21.2.1 y14 y15 y16 r21.1)) (cond (decide ((-(255 : Int)) ≤ y7)) (K (.p60 y1 y2 y3 y4 y5 y6 y7 y8 y9 y10 (decide (y7 ≤ (256 : Int))) y12 y13 y14 y15 y16 y17)) (K (.p60 y1 y2 y3 y4 y5 y6 y7 y8 y9 y10 false y12 y13 y14 y15 y16 y17)))
  | .p88 y1 y2 y3 y4 y5 y6 y7 y8 y9 y10 y11 y12 y13 y14 y15 y16 => cond y12 ((impl_bitWriter__put n (y16, (y14, ())) (2 : Int) (2 : Int)).bind fun r19 => cond (decide (0 ≤ y5)) ((impl_bitWriter__put n (r19.1, r19.2) (IntKind.wrap .i64 (shr .u64 y6 y5)) (IntKind.wrap .i64 ((IntKind.wrap .i64 ((64 : Int) - y4)) - y5))).bind fun r20 => K (.p15 y1 y2 y3 y4 y5 y9 y10 (IntKind.wrap .i64 (y11 + (1 : Int))) y13 r20.2.1 y15 r20.1)) (none)) ((impl_bitWriter__put n (y16, (y14, ())) (3 : Int) (2 : Int)).bind fun r19 => (impl_bitWriter__put n (r19.1, r19.2) y7 (6 : Int)).bind fun r20 => (impl_bitWriter__put n (r20.1, r20.2) (IntKind.wrap .i64 ((IntKind.wrap .i64 ((IntKind.wrap .i64 ((64 : Int) - y7)) - y8)) - (1 : Int))) (6 : Int)).bind fun r21 => cond (decide (0 ≤ y8)) ((impl_bitWriter__put n (r21.1, r21.2) (IntKind.wrap .i64 (shr .u64 y6 y8)) (IntKind.wrap .i64 ((IntKind.wrap .i64 ((64 : Int) - y7)) - y8))).bind fun r22 => K (.p15 y1 y2 true y7 y8 y9 y10 (IntKind.wrap .i64 (y11 + (1 : Int))) y13 r22.2.1 y15 r22.1)) (none))
  | .p60 y1 y2 y3 y4 y5 y6 y7 y8 y9 y10 y11 y12 y13 y14 y15 y16 y17 => cond y11 ((impl_bitWriter__put n (y17, (y13, ())) (6 : Int) (3 : Int)).bind fun r20 => (impl_bitWriter__put n (r20.1, r20.2) (IntKind.wrap .i64 (y7 + (255 : Int))) (9 : Int)).bind fun r21 => K (.p49 y1 y2 y3 y4 y5 y6 y8 y9 y10 y12 r21.2.1 y14 y15 y16 r21.1)) (cond (decide ((-(2047 : Int)) ≤ y7)) (K (.p66 y1 y2 y3 y4 y5 y6 y7 y8 y9 y10 (decide (y7 ≤ (2048 : Int))) y12 y13 y14 y15 y16 y17)) (K (.p66 y1 y2 y3 y4 y5 y6 y7 y8 y9 y10 false y12 y13 y14 y15 y16 y17)))
  | .p66 y1 y2 y3 y4 y5 y6 y7 y8 y9 y10 y11 y12 y13 y14 y15 y16 y17 => cond y11 ((impl_bitWriter__put n (y17, (y13, ())) (14 : Int) (4 : Int)).bind fun r20 => (impl_bitWriter__put n (r20.1, r20.2) (IntKind.wrap .i64 (y7 + (2047 : Int))) (12 : Int)).bind fun r21 => K (.p49 y1 y2 y3 y4 y5 y6 y8 y9 y10 y12 r21.2.1 y14 y15 y16 r21.1)) ((impl_bitWriter__put n (y17, (y13, ())) (15 : Int) (4 : Int)).bind fun r20 => (impl_bitWriter__put n (r20.1, r20.2) y7 (64 : Int)).bind fun r21 => K (.p49 y1 y2 y3 y4 y5 y6 y8 y9 y10 y12 r21.2.1 y14 y15 y16 r21.1))
def impl_packChunk (n : Nat) (a0 : List ((Int) × ((Int) × (Unit)))) : Option (Tup [(.pair (.sl false (.int .u8)) (.pair (.int .i64) .unit))]) := goRec impl_packChunk.step n (.p0 a0)
def impl_packChunk.spec : Ctr := ⟨41, [.v (.sl false (.pair (.int .i64) (.pair (.int .i64) .unit)))], [(.pair (.sl false (.int .u8)) (.pair (.int .i64) .unit))], [], none, fun n x => impl_packChunk n x.1⟩
theorem impl_packChunk.seg_eq : SegEq ty gl impl_packChunk.F impl_packChunk.md impl_packChunk.T impl_packChunk.spec impl_packChunk.lb impl_packChunk.st impl_packChunk.step := by
  intro n goto y; cases y <;> kernel_rfl
theorem impl_packChunk.text : Text Go.Proofs.Tryd.prog impl_packChunk.F impl_packChunk.spec := textOf Go.Proofs.Tryd.f41
theorem impl_packChunk.ok : CtrOK Go.Proofs.Tryd.prog gl impl_packChunk.spec :=
  ctr_okS tabs impl_packChunk.text impl_packChunk.seg_eq (fun n x => ⟨.p0 x.1, rfl, rfl, rfl⟩) (consC impl_bitWriter__put.ok (consC bits_LeadingZeros64.ok (consC bits_TrailingZeros64.ok (nilC))))

/-! bytes.Equal -/
def bytes_Equal.T : List Ctr := []
def bytes_Equal.md : List (Nat × List Md) := []
noncomputable def bytes_Equal.F : Fun := ⟨(Go.Proofs.Tryd.f42.body).getD .skip, [.v (.sl false (.int .u8)), .v (.sl false (.int .u8))], [(.tmp 4, .bool)], [], 0, []⟩
inductive bytes_Equal.Pt where
  | p0 (a0 : List (Int)) (a1 : List (Int))
def bytes_Equal.lb : bytes_Equal.Pt → Nat
  | .p0 _ _ => 0
def bytes_Equal.st : bytes_Equal.Pt → St
  | .p0 a0 a1 => enter [.v (.sl false (.int .u8)) a0, .v (.sl false (.int .u8)) a1] 0
def bytes_Equal.step (n : Nat) (K : bytes_Equal.Pt → Option (Tup [.bool])) : bytes_Equal.Pt → Option (Tup [.bool])
  | .p0 a0 a1 => some (seq (ofOcts a0) (ofOcts a1))
def bytes_Equal (n : Nat) (a0 : List (Int)) (a1 : List (Int)) : Option (Tup [.bool]) := goRec bytes_Equal.step n (.p0 a0 a1)
def bytes_Equal.spec : Ctr := ⟨42, [.v (.sl false (.int .u8)), .v (.sl false (.int .u8))], [.bool], [], none, fun n x => bytes_Equal n x.1 x.2.1⟩
theorem bytes_Equal.seg_eq : SegEq ty gl bytes_Equal.F bytes_Equal.md bytes_Equal.T bytes_Equal.spec bytes_Equal.lb bytes_Equal.st bytes_Equal.step := by
  intro n goto y; cases y <;> kernel_rfl
theorem bytes_Equal.text : Text Go.Proofs.Tryd.prog bytes_Equal.F bytes_Equal.spec := textOf Go.Proofs.Tryd.f42
theorem bytes_Equal.ok : CtrOK Go.Proofs.Tryd.prog gl bytes_Equal.spec :=
  ctr_okS tabs bytes_Equal.text bytes_Equal.seg_eq (fun n x => ⟨.p0 x.1 x.2.1, rfl, rfl, rfl⟩) (nilC)

/-! loop.example/g00039/impl.takeBits -/
def impl_takeBits.T : List Ctr := []
def impl_takeBits.md : List (Nat × List Md) := []
noncomputable def impl_takeBits.F : Fun := ⟨(Go.Proofs.Tryd.f37.body).getD .skip, [.v (.sl false (.int .u8)), .v (.int .i64), .v (.int .i64)], [(.tmp 6, (.int .i64))], [], 0, [(9, ⟨[0, 1, 2, 7, 8], [], [], false⟩)]⟩
inductive impl_takeBits.Pt where
  | p0 (a0 : List (Int)) (a1 : Int) (a2 : Int)
  | p9 (y1 : List (Int)) (y2 : Int) (y3 : Int) (y4 : Int) (y5 : Int)
def impl_takeBits.lb : impl_takeBits.Pt → Nat
  | .p0 _ _ _ => 0
  | .p9 _ _ _ _ _ => 9
def impl_takeBits.st : impl_takeBits.Pt → St
  | .p0 a0 a1 a2 => enter [.v (.sl false (.int .u8)) a0, .v (.int .i64) a1, .v (.int .i64) a2] 0
  | .p9 y1 y2 y3 y4 y5 => ⟨[(0, .im (.sl false (.int .u8)) y1), (1, .im (.int .i64) y2), (2, .im (.int .i64) y3), (7, .im (.int .u64) y4), (8, .im (.int .i64) y5)], [], 0⟩
def impl_takeBits.step (n : Nat) (K : impl_takeBits.Pt → Option (Tup [(.int .i64)])) : impl_takeBits.Pt → Option (Tup [(.int .i64)])
  | .p0 a0 a1 a2 => K (.p9 a0 a1 a2 (0 : Int) a1)
  | .p9 y1 y2 y3 y4 y5 => cond (decide (y5 < (IntKind.wrap .i64 (y2 + y3)))) (cond (inB (IntKind.wrap .i64 (Int.tdiv y5 (8 : Int))) (List.length y1)) (cond (decide (0 ≤ (IntKind.wrap .i64 ((7 : Int) - (Int.tmod y5 (8 : Int)))))) (K (.p9 y1 y2 y3 (bor .u64 (shl .u64 y4 (1 : Int)) (IntKind.wrap .u64 (band .u8 (shr .u8 (List.getD y1 (Int.toNat (IntKind.wrap .i64 (Int.tdiv y5 (8 : Int)))) default) (IntKind.wrap .i64 ((7 : Int) - (Int.tmod y5 (8 : Int))))) (1 : Int)))) (IntKind.wrap .i64 (y5 + (1 : Int))))) (none)) (none)) (some (IntKind.wrap .i64 y4))
def impl_takeBits (n : Nat) (a0 : List (Int)) (a1 : Int) (a2 : Int) : Option (Tup [(.int .i64)]) := goRec impl_takeBits.step n (.p0 a0 a1 a2)
def impl_takeBits.spec : Ctr := ⟨37, [.v (.sl false (.int .u8)), .v (.int .i64), .v (.int .i64)], [(.int .i64)], [], none, fun n x => impl_takeBits n x.1 x.2.1 x.2.2.1⟩
theorem impl_takeBits.seg_eq : SegEq ty gl impl_takeBits.F impl_takeBits.md impl_takeBits.T impl_takeBits.spec impl_takeBits.lb impl_takeBits.st impl_takeBits.step := by
  intro n goto y; cases y <;> kernel_rfl
theorem impl_takeBits.text : Text Go.Proofs.Tryd.prog impl_takeBits.F impl_takeBits.spec := textOf Go.Proofs.Tryd.f37
theorem impl_takeBits.ok : CtrOK Go.Proofs.Tryd.prog gl impl_takeBits.spec :=
  ctr_okS tabs impl_takeBits.text impl_takeBits.seg_eq (fun n x => ⟨.p0 x.1 x.2.1 x.2.2.1, rfl, rfl, rfl⟩) (nilC)

/-! loop.example/g00039/impl.UnpackChunk$1 -/
def impl_UnpackChunk_1.T : List Ctr := [impl_takeBits.spec]
def impl_UnpackChunk_1.md : List (Nat × List Md) := []
noncomputable def impl_UnpackChunk_1.F : Fun := ⟨(Go.Proofs.Tryd.f36.body).getD .skip, [.v (.int .i64), .q (.pair (.sl false (.int .u8)) (.pair (.int .i64) .unit)), .p (.int .i64)], [(.tmp 4, (.int .i64))], [some (.int .i64)], 1, [(3, ⟨[0, 1, 2], [], [], false⟩)]⟩
inductive impl_UnpackChunk_1.Pt where
  | p0 (a0 : Int) (a1 : (List (Int)) × ((Int) × (Unit))) (a2 : Int)
  | p3 (y1 : Int) (y2 : Int) (y3 : (List (Int)) × ((Int) × (Unit)))
def impl_UnpackChunk_1.lb : impl_UnpackChunk_1.Pt → Nat
  | .p0 _ _ _ => 0
  | .p3 _ _ _ => 3
def impl_UnpackChunk_1.st : impl_UnpackChunk_1.Pt → St
  | .p0 a0 a1 a2 => enter [.v (.int .i64) a0, .q (.pair (.sl false (.int .u8)) (.pair (.int .i64) .unit)) a1, .p (.int .i64) a2] 1
  | .p3 y1 y2 y3 => ⟨[(0, .im (.int .i64) y1), (1, .po 1 0), (2, .po 0 0)], [(0, .obj [.im (.int .i64) y2]), (1, .imm (.pair (.sl false (.int .u8)) (.pair (.int .i64) .unit)) y3)], 2⟩
def impl_UnpackChunk_1.step (n : Nat) (K : impl_UnpackChunk_1.Pt → Option (Tup [.bool, (.int .i64), (.int .i64)])) : impl_UnpackChunk_1.Pt → Option (Tup [.bool, (.int .i64), (.int .i64)])
  | .p0 a0 a1 a2 => cond (decide ((IntKind.wrap .i64 (a1.2.1 - a2)) < a0)) (some (true, ((default : Int), a2))) (K (.p3 a0 a2 a1))
  | .p3 y1 y2 y3 => (impl_takeBits n y3.1 (IntKind.wrap .i64 ((IntKind.wrap .i64 (y2 + y1)) - y1)) y1).bind fun (r6 : Int) => some (false, (r6, (IntKind.wrap .i64 (y2 + y1))))
def impl_UnpackChunk_1 (n : Nat) (a0 : Int) (a1 : (List (Int)) × ((Int) × (Unit))) (a2 : Int) : Option (Tup [.bool, (.int .i64), (.int .i64)]) := goRec impl_UnpackChunk_1.step n (.p0 a0 a1 a2)
def impl_UnpackChunk_1.spec : Ctr := ⟨36, [.v (.int .i64), .q (.pair (.sl false (.int .u8)) (.pair (.int .i64) .unit)), .p (.int .i64)], [.bool, (.int .i64)], [(.int .i64)], (some 57), fun n x => impl_UnpackChunk_1 n x.1 x.2.1 x.2.2.1⟩
theorem impl_UnpackChunk_1.seg_eq : SegEq ty gl impl_UnpackChunk_1.F impl_UnpackChunk_1.md impl_UnpackChunk_1.T impl_UnpackChunk_1.spec impl_UnpackChunk_1.lb impl_UnpackChunk_1.st impl_UnpackChunk_1.step := by
  intro n goto y; cases y <;> kernel_rfl
theorem impl_UnpackChunk_1.text : Text Go.Proofs.Tryd.prog impl_UnpackChunk_1.F impl_UnpackChunk_1.spec := textOf Go.Proofs.Tryd.f36
theorem impl_UnpackChunk_1.ok : CtrOK Go.Proofs.Tryd.prog gl impl_UnpackChunk_1.spec :=
  ctr_okS tabs impl_UnpackChunk_1.text impl_UnpackChunk_1.seg_eq (fun n x => ⟨.p0 x.1 x.2.1 x.2.2.1, rfl, rfl, rfl⟩) (consC impl_takeBits.ok (nilC))

/-! loop.example/g00039/impl.UnpackChunk$2 -/
def impl_UnpackChunk_2_impl_UnpackChunk_1.T : List Ctr := [impl_UnpackChunk_1.spec]
def impl_UnpackChunk_2_impl_UnpackChunk_1.md : List (Nat × List Md) := [(36, [.v, .q (.pair (.sl false (.int .u8)) (.pair (.int .i64) .unit)), .p (.int .i64)]), (1000036, [.q (.pair (.sl false (.int .u8)) (.pair (.int .i64) .unit)), .p (.int .i64)])]
noncomputable def impl_UnpackChunk_2_impl_UnpackChunk_1.F : Fun := ⟨(Go.Proofs.Tryd.f39.body).getD .skip, [.cf 36 [.q (.pair (.sl false (.int .u8)) (.pair (.int .i64) .unit)), .p (.int .i64)], .p (.sl false (.pair (.int .i64) (.pair (.int .i64) .unit)))], [], [some (.int .i64), some (.sl false (.pair (.int .i64) (.pair (.int .i64) .unit)))], 2, [(14, ⟨[0, 1, 3, 4, 5, 17, 18], [], [], false⟩), (38, ⟨[0, 1, 3, 4, 5, 6, 8, 17, 18], [], [], false⟩), (60, ⟨[0, 1, 3, 4, 5, 6, 9, 17, 18], [], [], false⟩), (64, ⟨[0, 1, 3, 4, 5, 6, 17, 18], [], [], false⟩)]⟩
inductive impl_UnpackChunk_2_impl_UnpackChunk_1.Pt where
  | p0 (a0 : (List (Int)) × ((Int) × (Unit))) (a1 : Int) (a2 : List ((Int) × ((Int) × (Unit))))
  | p14 (y1 : Int) (y2 : Int) (y3 : Int) (y4 : Int) (y5 : Int) (y6 : Int) (y7 : (List (Int)) × ((Int) × (Unit))) (y8 : List ((Int) × ((Int) × (Unit))))
  | p38 (y1 : Int) (y2 : Int) (y3 : Int) (y4 : Int) (y5 : Int) (y6 : Int) (y7 : Int) (y8 : Int) (y9 : (List (Int)) × ((Int) × (Unit))) (y10 : List ((Int) × ((Int) × (Unit))))
  | p64 (y1 : Int) (y2 : Int) (y3 : Int) (y4 : Int) (y5 : Int) (y6 : Int) (y7 : Int) (y8 : (List (Int)) × ((Int) × (Unit))) (y9 : List ((Int) × ((Int) × (Unit))))
  | p60 (y1 : Int) (y2 : Int) (y3 : Int) (y4 : Int) (y5 : Int) (y6 : Int) (y7 : Int) (y8 : Int) (y9 : (List (Int)) × ((Int) × (Unit))) (y10 : List ((Int) × ((Int) × (Unit))))
def impl_UnpackChunk_2_impl_UnpackChunk_1.lb : impl_UnpackChunk_2_impl_UnpackChunk_1.Pt → Nat
  | .p0 _ _ _ => 0
  | .p14 _ _ _ _ _ _ _ _ => 14
  | .p38 _ _ _ _ _ _ _ _ _ _ => 38
  | .p64 _ _ _ _ _ _ _ _ _ => 64
  | .p60 _ _ _ _ _ _ _ _ _ _ => 60
def impl_UnpackChunk_2_impl_UnpackChunk_1.st : impl_UnpackChunk_2_impl_UnpackChunk_1.Pt → St
  | .p0 a0 a1 a2 => enter [.cf 36 [.q (.pair (.sl false (.int .u8)) (.pair (.int .i64) .unit)) a0, .p (.int .i64) a1], .p (.sl false (.pair (.int .i64) (.pair (.int .i64) .unit))) a2] 2
  | .p14 y1 y2 y3 y4 y5 y6 y7 y8 => ⟨[(0, .px 36 [.po 2 0, .po 0 0] 0), (1, .po 1 0), (3, .im (.int .i64) y1), (4, .im (.int .i64) y2), (5, .im (.int .i64) y3), (17, .im (.int .i64) y4), (18, .im (.int .i64) y5)], [(0, .obj [.im (.int .i64) y6]), (1, .obj [.hs 3 [] none 0]), (2, .imm (.pair (.sl false (.int .u8)) (.pair (.int .i64) .unit)) y7), (3, .arr false (.pair (.int .i64) (.pair (.int .i64) .unit)) y8 0)], 4⟩
  | .p38 y1 y2 y3 y4 y5 y6 y7 y8 y9 y10 => ⟨[(0, .px 36 [.po 2 0, .po 0 0] 0), (1, .po 1 0), (3, .im (.int .i64) y1), (4, .im (.int .i64) y2), (5, .im (.int .i64) y3), (6, .im (.int .i64) y4), (8, .im (.int .i64) y5), (17, .im (.int .i64) y6), (18, .im (.int .i64) y7)], [(0, .obj [.im (.int .i64) y8]), (1, .obj [.hs 3 [] none 0]), (2, .imm (.pair (.sl false (.int .u8)) (.pair (.int .i64) .unit)) y9), (3, .arr false (.pair (.int .i64) (.pair (.int .i64) .unit)) y10 0)], 4⟩
  | .p64 y1 y2 y3 y4 y5 y6 y7 y8 y9 => ⟨[(0, .px 36 [.po 2 0, .po 0 0] 0), (1, .po 1 0), (3, .im (.int .i64) y1), (4, .im (.int .i64) y2), (5, .im (.int .i64) y3), (6, .im (.int .i64) y4), (17, .im (.int .i64) y5), (18, .im (.int .i64) y6)], [(0, .obj [.im (.int .i64) y7]), (1, .obj [.hs 3 [] none 0]), (2, .imm (.pair (.sl false (.int .u8)) (.pair (.int .i64) .unit)) y8), (3, .arr false (.pair (.int .i64) (.pair (.int .i64) .unit)) y9 0)], 4⟩
  | .p60 y1 y2 y3 y4 y5 y6 y7 y8 y9 y10 => ⟨[(0, .px 36 [.po 2 0, .po 0 0] 0), (1, .po 1 0), (3, .im (.int .i64) y1), (4, .im (.int .i64) y2), (5, .im (.int .i64) y3), (6, .im (.int .i64) y4), (9, .im (.int .u64) y5), (17, .im (.int .i64) y6), (18, .im (.int .i64) y7)], [(0, .obj [.im (.int .i64) y8]), (1, .obj [.hs 3 [] none 0]), (2, .imm (.pair (.sl false (.int .u8)) (.pair (.int .i64) .unit)) y9), (3, .arr false (.pair (.int .i64) (.pair (.int .i64) .unit)) y10 0)], 4⟩
def impl_UnpackChunk_2_impl_UnpackChunk_1.step (n : Nat) (K : impl_UnpackChunk_2_impl_UnpackChunk_1.Pt → Option (Tup [.bool, (.int .i64), (.sl false (.pair (.int .i64) (.pair (.int .i64) .unit)))])) : impl_UnpackChunk_2_impl_UnpackChunk_1.Pt → Option (Tup [.bool, (.int .i64), (.sl false (.pair (.int .i64) (.pair (.int .i64) .unit)))])
  | .p0 a0 a1 a2 => (impl_UnpackChunk_1 n (8 : Int) (List.getD [a0] 0 default) a1).bind fun r6 => cond r6.1 (some (true, (r6.2.2, a2))) (cond (decide ((120 : Int) < r6.2.1)) (some (true, (r6.2.2, a2))) (K (.p14 (0 : Int) (0 : Int) (0 : Int) r6.2.1 (0 : Int) r6.2.2 a0 a2)))
  | .p14 y1 y2 y3 y4 y5 y6 y7 y8 => cond (decide (y5 < y4)) (cond (decide (y5 = (0 : Int))) ((impl_UnpackChunk_1 n (40 : Int) (List.getD [y7] 0 default) y6).bind fun r11 => cond r11.1 (some (true, (r11.2.2, y8))) ((impl_UnpackChunk_1 n (64 : Int) (List.getD [y7] 0 default) r11.2.2).bind fun r12 => cond r12.1 (some (true, (r12.2.2, y8))) (cond (room ((List.length y8) + (List.length [(r11.2.1, (r12.2.1, ()))]))) (K (.p14 y1 y2 y3 y4 (IntKind.wrap .i64 (y5 + (1 : Int))) r12.2.2 y7 (y8 ++ [(r11.2.1, (r12.2.1, ()))]))) (none)))) ((impl_UnpackChunk_1 n (1 : Int) (List.getD [y7] 0 default) y6).bind fun r11 => cond r11.1 (some (true, (r11.2.2, y8))) (cond (decide (r11.2.1 = (0 : Int))) (K (.p38 y1 y2 y3 y5 (0 : Int) y4 y5 r11.2.2 y7 y8)) ((impl_UnpackChunk_1 n (1 : Int) (List.getD [y7] 0 default) r11.2.2).bind fun r12 => cond r12.1 (some (true, (r12.2.2, y8))) (cond (decide (r12.2.1 = (0 : Int))) ((impl_UnpackChunk_1 n (7 : Int) (List.getD [y7] 0 default) r12.2.2).bind fun r13 => cond r13.1 (some (true, (r13.2.2, y8))) (K (.p38 y1 y2 y3 y5 (IntKind.wrap .i64 (r13.2.1 - (63 : Int))) y4 y5 r13.2.2 y7 y8))) ((impl_UnpackChunk_1 n (1 : Int) (List.getD [y7] 0 default) r12.2.2).bind fun r13 => cond r13.1 (some (true, (r13.2.2, y8))) (cond (decide (r13.2.1 = (0 : Int))) ((impl_UnpackChunk_1 n (9 : Int) (List.getD [y7] 0 default) r13.2.2).bind fun r14 => cond r14.1 (some (true, (r14.2.2, y8))) (K (.p38 y1 y2 y3 y5 (IntKind.wrap .i64 (r14.2.1 - (255 : Int))) y4 y5 r14.2.2 y7 y8))) ((impl_UnpackChunk_1 n (1 : Int) (List.getD [y7] 0 default) r13.2.2).bind fun r14 => cond r14.1 (some (true, (r14.2.2, y8))) (cond (decide (r14.2.1 = (0 : Int))) ((impl_UnpackChunk_1 n (12 : Int) (List.getD [y7] 0 default) r14.2.2).bind fun r15 => cond r15.1 (some (true, (r15.2.2, y8))) (K (.p38 y1 y2 y3 y5 (IntKind.wrap .i64 (r15.2.1 - (2047 : Int))) y4 y5 r15.2.2 y7 y8))) ((impl_UnpackChunk_1 n (64 : Int) (List.getD [y7] 0 default) r14.2.2).bind fun r15 => cond r15.1 (some (true, (r15.2.2, y8))) (K (.p38 y1 y2 y3 y5 r15.2.1 y4 y5 r15.2.2 y7 y8)))))))))))) (some (false, (y6, y8)))
  | .p38 y1 y2 y3 y4 y5 y6 y7 y8 y9 y10 => (impl_UnpackChunk_1 n (1 : Int) (List.getD [y9] 0 default) y8).bind fun r13 => cond r13.1 (some (true, (r13.2.2, y10))) (cond (decide (r13.2.1 = (1 : Int))) ((impl_UnpackChunk_1 n (1 : Int) (List.getD [y9] 0 default) r13.2.2).bind fun r14 => cond r14.1 (some (true, (r14.2.2, y10))) (cond (decide (r14.2.1 = (1 : Int))) ((impl_UnpackChunk_1 n (6 : Int) (List.getD [y9] 0 default) r14.2.2).bind fun r15 => cond r15.1 (some (true, (r15.2.2, y10))) ((impl_UnpackChunk_1 n (6 : Int) (List.getD [y9] 0 default) r15.2.2).bind fun r16 => cond r16.1 (some (true, (r16.2.2, y10))) (cond (decide ((IntKind.wrap .i64 ((IntKind.wrap .i64 ((IntKind.wrap .i64 ((64 : Int) - r15.2.1)) - r16.2.1)) - (1 : Int))) < (0 : Int))) (some (true, (r16.2.2, y10))) (K (.p64 (IntKind.wrap .i64 (y1 + y5)) r15.2.1 (IntKind.wrap .i64 ((IntKind.wrap .i64 ((IntKind.wrap .i64 ((64 : Int) - r15.2.1)) - r16.2.1)) - (1 : Int))) y4 y6 y7 r16.2.2 y9 y10))))) (K (.p64 (IntKind.wrap .i64 (y1 + y5)) y2 y3 y4 y6 y7 r14.2.2 y9 y10)))) (K (.p60 (IntKind.wrap .i64 (y1 + y5)) y2 y3 y4 (0 : Int) y6 y7 r13.2.2 y9 y10)))
  | .p64 y1 y2 y3 y4 y5 y6 y7 y8 y9 => (impl_UnpackChunk_1 n (IntKind.wrap .i64 ((IntKind.wrap .i64 ((64 : Int) - y2)) - y3)) (List.getD [y8] 0 default) y7).bind fun r12 => cond r12.1 (some (true, (r12.2.2, y9))) (cond (decide (0 ≤ y3)) (K (.p60 y1 y2 y3 y4 (shl .u64 (IntKind.wrap .u64 r12.2.1) y3) y5 y6 r12.2.2 y8 y9)) (none))
  | .p60 y1 y2 y3 y4 y5 y6 y7 y8 y9 y10 => cond (inB (IntKind.wrap .i64 (y4 - (1 : Int))) (List.length y10)) (cond (room ((List.length y10) + (List.length [((IntKind.wrap .i64 ((List.getD y10 (0 + (Int.toNat (IntKind.wrap .i64 (y4 - (1 : Int))))) default).1 + y1)), ((bxor .i64 (List.getD y10 (0 + (Int.toNat (IntKind.wrap .i64 (y4 - (1 : Int))))) default).2.1 (IntKind.wrap .i64 y5)), ()))]))) (K (.p14 y1 y2 y3 y6 (IntKind.wrap .i64 (y7 + (1 : Int))) y8 y9 (y10 ++ [((IntKind.wrap .i64 ((List.getD y10 (0 + (Int.toNat (IntKind.wrap .i64 (y4 - (1 : Int))))) default).1 + y1)), ((bxor .i64 (List.getD y10 (0 + (Int.toNat (IntKind.wrap .i64 (y4 - (1 : Int))))) default).2.1 (IntKind.wrap .i64 y5)), ()))]))) (none)) (none)
def impl_UnpackChunk_2_impl_UnpackChunk_1 (n : Nat) (a0 : (List (Int)) × ((Int) × (Unit))) (a1 : Int) (a2 : List ((Int) × ((Int) × (Unit)))) : Option (Tup [.bool, (.int .i64), (.sl false (.pair (.int .i64) (.pair (.int .i64) .unit)))]) := goRec impl_UnpackChunk_2_impl_UnpackChunk_1.step n (.p0 a0 a1 a2)
def impl_UnpackChunk_2_impl_UnpackChunk_1.spec : Ctr := ⟨39, [.cf 36 [.q (.pair (.sl false (.int .u8)) (.pair (.int .i64) .unit)), .p (.int .i64)], .p (.sl false (.pair (.int .i64) (.pair (.int .i64) .unit)))], [.bool], [(.int .i64), (.sl false (.pair (.int .i64) (.pair (.int .i64) .unit)))], (some 57), fun n x => impl_UnpackChunk_2_impl_UnpackChunk_1 n x.1.1 x.1.2.1 x.2.1⟩
theorem impl_UnpackChunk_2_impl_UnpackChunk_1.seg_eq : SegEq ty gl impl_UnpackChunk_2_impl_UnpackChunk_1.F impl_UnpackChunk_2_impl_UnpackChunk_1.md impl_UnpackChunk_2_impl_UnpackChunk_1.T impl_UnpackChunk_2_impl_UnpackChunk_1.spec impl_UnpackChunk_2_impl_UnpackChunk_1.lb impl_UnpackChunk_2_impl_UnpackChunk_1.st impl_UnpackChunk_2_impl_UnpackChunk_1.step := by
  intro n goto y; cases y <;> kernel_rfl
theorem impl_UnpackChunk_2_impl_UnpackChunk_1.text : Text Go.Proofs.Tryd.prog impl_UnpackChunk_2_impl_UnpackChunk_1.F impl_UnpackChunk_2_impl_UnpackChunk_1.spec := textOf Go.Proofs.Tryd.f39
theorem impl_UnpackChunk_2_impl_UnpackChunk_1.ok : CtrOK Go.Proofs.Tryd.prog gl impl_UnpackChunk_2_impl_UnpackChunk_1.spec :=
  ctr_okS tabs impl_UnpackChunk_2_impl_UnpackChunk_1.text impl_UnpackChunk_2_impl_UnpackChunk_1.seg_eq (fun n x => ⟨.p0 x.1.1 x.1.2.1 x.2.1, rfl, rfl, rfl⟩) (consC impl_UnpackChunk_1.ok (nilC))

/-! loop.example/g00039/impl.tried -/
def impl_tried_impl_UnpackChunk_2_impl_UnpackChunk_1 (n : Nat) (a0 : (List (Int)) × ((Int) × (Unit))) (a1 : Int) (a2 : List ((Int) × ((Int) × (Unit)))) : Option ((Bool) × (Int) × (List ((Int) × ((Int) × (Unit))))) := hold n (Option.bind (impl_UnpackChunk_2_impl_UnpackChunk_1 n a0 a1 a2) fun y => some (!y.1, y.2))
def impl_tried_impl_UnpackChunk_2_impl_UnpackChunk_1.spec : Ctr := ⟨38, [.fn 39 [.cf 36 [.q (.pair (.sl false (.int .u8)) (.pair (.int .i64) .unit)), .p (.int .i64)], .p (.sl false (.pair (.int .i64) (.pair (.int .i64) .unit)))]], [.bool], [(.int .i64), (.sl false (.pair (.int .i64) (.pair (.int .i64) .unit)))], none, fun n x => impl_tried_impl_UnpackChunk_2_impl_UnpackChunk_1 n x.1.1.1 x.1.1.2.1 x.1.2.1⟩
section
open Go.Proofs
theorem tried.catch_panicking (B tb : Nat) (x : Bool) (older : List PanicEntry) (w : World) (hB : w.heap[B]? = some (.cells #[.bool x] tb (0, 0))) :
    CallsD Tryd.prog 71 #[.pointer (some ⟨B, 0, none⟩)] (.panicking ({ v := .iface 57 (.agg #[]), recovered := false } :: older)) w fun e u' w' =>
      e = .returned (.tuple #[]) ∧ u' = .panicking ({ v := .iface 57 (.agg #[]), recovered := true } :: older) ∧ w' = (w.alloc (.cells #[] 57)).setCell ⟨B, 0, none⟩ (.bool false) := by
  have hta : (Instr.typeAssert (.iface 57 (.agg #[])) 20 57 true).run Tryd.prog w = .ok (.tuple #[.agg #[], .bool true]) w := by kernel_rfl
  have hB' : (w.alloc (.cells #[] 57)).heap[B]? = some (.cells #[.bool x] tb (0, 0)) := by rw [(MapKept.heap_alloc w _).2 B (Array.getElem?_eq_some_iff.1 hB).1]; exact hB
  have hc : (w.alloc (.cells #[] 57)).cell? ⟨B, 0, none⟩ = some (.bool x) := by simp [World.cell?, hB']
  have hz : (w.alloc (.cells #[] 57)).frozen? ⟨B, 0, none⟩ = false := by simp [World.frozen?, hB']
  refine callsD_of_wpS Tryd.func71 rfl fun c₀ cs hu => ?_
  apply wpS_seq
  apply wpS_region
  simp [wpOpsS, go_sem, recoverD, hu, Exit.thenS]
  refine wpS_of_wp ?_
  go_wp2
  cases c₀
  simp_all [bodyPostS, results]
theorem tried.catch_idle (p : Addr) (w : World) :
    CallsD Tryd.prog 71 #[.pointer (some p)] .returning w fun e u' w' => e = .returned (.tuple #[]) ∧ u' = .returning ∧ w' = w := by
  refine callsD_of_wpS Tryd.func71 rfl fun c₀ cs hu => ?_
  apply wpS_seq
  apply wpS_region
  simp [wpOpsS, go_sem, recoverD, hu, Exit.thenS]
  refine wpS_of_wp ?_
  go_wp2
  cases c₀
  simp_all [bodyPostS, results]
theorem tried.tried_walk (g : Nat) (w : World) (ws : List Value) (Q R : Ending → World → Prop) (hg : FnHere Tryd.prog g) (hc : Calls Tryd.prog g ws.toArray (w.alloc (.cells #[.bool false] 4)) Q)
    (h : ∀ e w', Q e w' → w'.heap[w.heap.size]? = some (.cells #[.bool false] 4 (0, 0)) ∧
        ((e = .returned (.tuple #[]) ∧ R (.returned (.bool true)) (w'.setCell ⟨w.heap.size, 0, none⟩ (.bool true))) ∨
         (e = .panicked (pchain 57) ∧ R (.returned (.bool false)) ((w'.alloc (.cells #[] 57)).setCell ⟨w.heap.size, 0, none⟩ (.bool false))))) :
    Calls Tryd.prog 38 #[.func (.func g) #[] ws.toArray] w R := by
  have hmf : ∀ (fn : Fn) (first cap : Array Value) (w : World), (Instr.makeFunc fn first cap).run Tryd.prog w = .ok (.func fn first cap) w := fun _ _ _ _ => rfl
  go_enter_defers Tryd.func38, Tryd.ntmps38
  go_wp2
  rename_i K1 h1 K2 h2
  have hcf : (callFunc g ws.toArray).run Tryd.prog (w.alloc (.cells #[.bool false] 4)) = .ok (.enter g ws.toArray) (w.alloc (.cells #[.bool false] 4)) := by
    obtain ⟨fn, e1, e2, e3⟩ := hg
    cases hb : fn.body with
    | none => rw [hb] at e2; cases e2
    | some c => simp [callFunc, e1, e3, hb]
  rw [hcf, Oper.upon_enter]
  refine hc.mono fun e w' hq => ?_
  obtain ⟨hcell, ⟨rfl, hR⟩ | ⟨rfl, hR⟩⟩ := h e w' hq
  · have hc1 : w'.cell? ⟨w.heap.size, 0, none⟩ = some (.bool false) := by simp [World.cell?, hcell]
    have hz1 : w'.frozen? ⟨w.heap.size, 0, none⟩ = false := by simp [World.frozen?, hcell]
    refine h2 _ _ ?_
    go_wp2
    have hc2 : (w'.setCell ⟨w.heap.size, 0, none⟩ (.bool true)).cell? ⟨w.heap.size, 0, none⟩ = some (.bool true) := by
      rw [@setCell_put noBor _ _ _ _ _ _ _ hcell]
      simp [World.cell?, @putB_same noBor _ _ _ (Array.getElem?_eq_some_iff.1 hcell).1]
    refine leaves_cons (f := 71) (args := #[.pointer (some ⟨w.heap.size, 0, none⟩)]) (by simp) (by simp [go_sem]) ?_
    refine (tried.catch_idle ⟨w.heap.size, 0, none⟩ _).mono ?_
    rintro e u' w'' ⟨rfl, rfl, rfl⟩
    simp [Leaves, settle, results, go_sem, hc2]
    exact hR
  · simp only [Exit.then]
    have hB' : (w'.alloc (.cells #[] 57)).heap[w.heap.size]? = some (.cells #[.bool false] 4 (0, 0)) := by rw [(MapKept.heap_alloc w' _).2 _ (Array.getElem?_eq_some_iff.1 hcell).1]; exact hcell
    have hc2 : ((w'.alloc (.cells #[] 57)).setCell ⟨w.heap.size, 0, none⟩ (.bool false)).cell? ⟨w.heap.size, 0, none⟩ = some (.bool false) := by
      rw [@setCell_put noBor _ _ _ _ _ _ _ hB']
      simp [World.cell?, @putB_same noBor _ _ _ (Array.getElem?_eq_some_iff.1 hB').1]
    refine leaves_cons (f := 71) (args := #[.pointer (some ⟨w.heap.size, 0, none⟩)]) (by simp) (by simp [go_sem]) ?_
    refine (tried.catch_panicking w.heap.size 4 false [] w' hcell).mono ?_
    rintro e u' w'' ⟨rfl, rfl, rfl⟩
    simp [Leaves, settle, results, go_sem, hc2]
    exact hR

end
theorem impl_tried_impl_UnpackChunk_2_impl_UnpackChunk_1.ok : CtrOK Go.Proofs.Tryd.prog gl impl_tried_impl_UnpackChunk_2_impl_UnpackChunk_1.spec :=
  tried_ok (g := 39) (cs := [.cf 36 [.q (.pair (.sl false (.int .u8)) (.pair (.int .i64) .unit)), .p (.int .i64)], .p (.sl false (.pair (.int .i64) (.pair (.int .i64) .unit)))]) (outs := [(.int .i64), (.sl false (.pair (.int .i64) (.pair (.int .i64) .unit)))]) (pt := 57) (tb := 4) (φ := impl_UnpackChunk_2_impl_UnpackChunk_1.spec.fn) impl_UnpackChunk_2_impl_UnpackChunk_1.ok (fun x i f m => by rcases i with _ | _ | _ | _ | i <;> simp [Ty.args, Ty.arg]) ⟨Go.Proofs.Tryd.f38, by kernel_rfl, by kernel_rfl, by decide +kernel⟩ (fun w ws Q R hc h => tried.tried_walk 39 w ws Q R ((impl_UnpackChunk_2_impl_UnpackChunk_1.ok 0).1) hc h)


/-! loop.example/g00039/impl.UnpackChunk -/
def impl_UnpackChunk.T : List Ctr := [impl_GoodBits.spec, impl_GoodSamples.spec, impl_packChunk.spec, bytes_Equal.spec, impl_UnpackChunk_1.spec, impl_UnpackChunk_2_impl_UnpackChunk_1.spec, impl_tried_impl_UnpackChunk_2_impl_UnpackChunk_1.spec]
def impl_UnpackChunk.md : List (Nat × List Md) := [(36, [.v, .q (.pair (.sl false (.int .u8)) (.pair (.int .i64) .unit)), .p (.int .i64)]), (1000036, [.q (.pair (.sl false (.int .u8)) (.pair (.int .i64) .unit)), .p (.int .i64)]), (39, [.cf, .p (.sl false (.pair (.int .i64) (.pair (.int .i64) .unit)))]), (1000039, [.cf, .p (.sl false (.pair (.int .i64) (.pair (.int .i64) .unit)))]), (38, [.fn])]
noncomputable def impl_UnpackChunk.F : Fun := ⟨(Go.Proofs.Tryd.f13.body).getD .skip, [.v (.pair (.sl false (.int .u8)) (.pair (.int .i64) .unit))], [(.tmp 2, (.sl false (.pair (.int .i64) (.pair (.int .i64) .unit)))), (.tmp 3, .bool)], [], 0, [(20, ⟨[1, 4, 21], [], [(1, 0, (.int .u8)), (4, 0, (.pair (.int .i64) (.pair (.int .i64) .unit)))], false⟩)]⟩
inductive impl_UnpackChunk.Pt where
  | p0 (a0 : (List (Int)) × ((Int) × (Unit)))
  | p20 (y1 : Bool) (y2 : List (Int)) (y3 : Int) (y4 : List ((Int) × ((Int) × (Unit))))
def impl_UnpackChunk.lb : impl_UnpackChunk.Pt → Nat
  | .p0 _ => 0
  | .p20 _ _ _ _ => 20
def impl_UnpackChunk.st : impl_UnpackChunk.Pt → St
  | .p0 a0 => enter [.v (.pair (.sl false (.int .u8)) (.pair (.int .i64) .unit)) a0] 0
  | .p20 y1 y2 y3 y4 => ⟨[(1, .po 0 0), (4, .po 1 0), (21, .im .bool y1)], [(0, .obj [.im (.sl false (.int .u8)) y2, .im (.int .i64) y3]), (1, .obj [.hs 2 [] none 0]), (2, .arr false (.pair (.int .i64) (.pair (.int .i64) .unit)) y4 0)], 3⟩
def impl_UnpackChunk.step (n : Nat) (K : impl_UnpackChunk.Pt → Option (Tup [(.sl false (.pair (.int .i64) (.pair (.int .i64) .unit))), .bool])) : impl_UnpackChunk.Pt → Option (Tup [(.sl false (.pair (.int .i64) (.pair (.int .i64) .unit))), .bool])
  | .p0 a0 => (impl_GoodBits n (a0.1, a0.2)).bind fun r4 => cond (!r4) (some (([] : List ((Int) × ((Int) × (Unit)))), false)) ((impl_tried_impl_UnpackChunk_2_impl_UnpackChunk_1 n (a0.1, a0.2) (0 : Int) ([] : List ((Int) × ((Int) × (Unit))))).bind fun r5 => cond (!r5.1) (K (.p20 true a0.1 a0.2.1 r5.2.2)) ((impl_GoodSamples n r5.2.2).bind fun r6 => K (.p20 (!r6) a0.1 a0.2.1 r5.2.2)))
  | .p20 y1 y2 y3 y4 => cond y1 (some (([] : List ((Int) × ((Int) × (Unit)))), false)) ((impl_packChunk n y4).bind fun r7 => cond (!(decide (r7.2.1 = y3))) (some (([] : List ((Int) × ((Int) × (Unit)))), false)) ((bytes_Equal n r7.1 y2).bind fun r8 => cond (!r8) (some (([] : List ((Int) × ((Int) × (Unit)))), false)) (some (y4, true))))
def impl_UnpackChunk (n : Nat) (a0 : (List (Int)) × ((Int) × (Unit))) : Option (Tup [(.sl false (.pair (.int .i64) (.pair (.int .i64) .unit))), .bool]) := goRec impl_UnpackChunk.step n (.p0 a0)
def impl_UnpackChunk.spec : Ctr := ⟨13, [.v (.pair (.sl false (.int .u8)) (.pair (.int .i64) .unit))], [(.sl false (.pair (.int .i64) (.pair (.int .i64) .unit))), .bool], [], none, fun n x => impl_UnpackChunk n x.1⟩
theorem impl_UnpackChunk.seg_eq : SegEq ty gl impl_UnpackChunk.F impl_UnpackChunk.md impl_UnpackChunk.T impl_UnpackChunk.spec impl_UnpackChunk.lb impl_UnpackChunk.st impl_UnpackChunk.step := by
  intro n goto y; cases y <;> kernel_rfl
theorem impl_UnpackChunk.text : Text Go.Proofs.Tryd.prog impl_UnpackChunk.F impl_UnpackChunk.spec := textOf Go.Proofs.Tryd.f13
theorem impl_UnpackChunk.ok : CtrOK Go.Proofs.Tryd.prog gl impl_UnpackChunk.spec :=
  ctr_okS tabs impl_UnpackChunk.text impl_UnpackChunk.seg_eq (fun n x => ⟨.p0 x.1, rfl, rfl, rfl⟩) (consC impl_GoodBits.ok (consC impl_GoodSamples.ok (consC impl_packChunk.ok (consC bytes_Equal.ok (consC impl_UnpackChunk_1.ok (consC impl_UnpackChunk_2_impl_UnpackChunk_1.ok (consC impl_tried_impl_UnpackChunk_2_impl_UnpackChunk_1.ok (nilC))))))))

/-! loop.example/g00039/impl.PackChunk -/
def impl_PackChunk.T : List Ctr := [impl_GoodSamples.spec, impl_packChunk.spec]
def impl_PackChunk.md : List (Nat × List Md) := []
noncomputable def impl_PackChunk.F : Fun := ⟨(Go.Proofs.Tryd.f46.body).getD .skip, [.v (.sl false (.pair (.int .i64) (.pair (.int .i64) .unit)))], [(.cell 2 27, (.pair (.sl false (.int .u8)) (.pair (.int .i64) .unit)))], [], 0, []⟩
inductive impl_PackChunk.Pt where
  | p0 (a0 : List ((Int) × ((Int) × (Unit))))
def impl_PackChunk.lb : impl_PackChunk.Pt → Nat
  | .p0 _ => 0
def impl_PackChunk.st : impl_PackChunk.Pt → St
  | .p0 a0 => enter [.v (.sl false (.pair (.int .i64) (.pair (.int .i64) .unit))) a0] 0
def impl_PackChunk.step (n : Nat) (K : impl_PackChunk.Pt → Option (Tup [(.pair (.sl false (.int .u8)) (.pair (.int .i64) .unit))])) : impl_PackChunk.Pt → Option (Tup [(.pair (.sl false (.int .u8)) (.pair (.int .i64) .unit))])
  | .p0 a0 => cond (decide ((120 : Int) < ((List.length a0) : Int))) (some (([] : List (Int)), (default : (Int) × (Unit)))) ((impl_GoodSamples n a0).bind fun r4 => cond (!r4) (some (([] : List (Int)), (default : (Int) × (Unit)))) ((impl_packChunk n a0).bind fun r5 => some (r5.1, r5.2)))
def impl_PackChunk (n : Nat) (a0 : List ((Int) × ((Int) × (Unit)))) : Option (Tup [(.pair (.sl false (.int .u8)) (.pair (.int .i64) .unit))]) := goRec impl_PackChunk.step n (.p0 a0)
def impl_PackChunk.spec : Ctr := ⟨46, [.v (.sl false (.pair (.int .i64) (.pair (.int .i64) .unit)))], [(.pair (.sl false (.int .u8)) (.pair (.int .i64) .unit))], [], none, fun n x => impl_PackChunk n x.1⟩
theorem impl_PackChunk.seg_eq : SegEq ty gl impl_PackChunk.F impl_PackChunk.md impl_PackChunk.T impl_PackChunk.spec impl_PackChunk.lb impl_PackChunk.st impl_PackChunk.step := by
  intro n goto y; cases y <;> kernel_rfl
theorem impl_PackChunk.text : Text Go.Proofs.Tryd.prog impl_PackChunk.F impl_PackChunk.spec := textOf Go.Proofs.Tryd.f46
theorem impl_PackChunk.ok : CtrOK Go.Proofs.Tryd.prog gl impl_PackChunk.spec :=
  ctr_okS tabs impl_PackChunk.text impl_PackChunk.seg_eq (fun n x => ⟨.p0 x.1, rfl, rfl, rfl⟩) (consC impl_GoodSamples.ok (consC impl_packChunk.ok (nilC)))

/-! loop.example/g00039/impl.AppendChunk -/
def impl_AppendChunk.T : List Ctr := [impl_UnpackChunk.spec, impl_PackChunk.spec]
def impl_AppendChunk.md : List (Nat × List Md) := []
noncomputable def impl_AppendChunk.F : Fun := ⟨(Go.Proofs.Tryd.f20.body).getD .skip, [.v (.pair (.sl false (.int .u8)) (.pair (.int .i64) .unit)), .v (.pair (.int .i64) (.pair (.int .i64) .unit))], [(.cell 4 27, (.pair (.sl false (.int .u8)) (.pair (.int .i64) .unit)))], [], 0, []⟩
inductive impl_AppendChunk.Pt where
  | p0 (a0 : (List (Int)) × ((Int) × (Unit))) (a1 : (Int) × ((Int) × (Unit)))
def impl_AppendChunk.lb : impl_AppendChunk.Pt → Nat
  | .p0 _ _ => 0
def impl_AppendChunk.st : impl_AppendChunk.Pt → St
  | .p0 a0 a1 => enter [.v (.pair (.sl false (.int .u8)) (.pair (.int .i64) .unit)) a0, .v (.pair (.int .i64) (.pair (.int .i64) .unit)) a1] 0
def impl_AppendChunk.step (n : Nat) (K : impl_AppendChunk.Pt → Option (Tup [(.pair (.sl false (.int .u8)) (.pair (.int .i64) .unit))])) : impl_AppendChunk.Pt → Option (Tup [(.pair (.sl false (.int .u8)) (.pair (.int .i64) .unit))])
  | .p0 a0 a1 => (impl_UnpackChunk n (a0.1, a0.2)).bind fun r5 => cond (!r5.2) (some (([] : List (Int)), (default : (Int) × (Unit)))) (cond (room ((List.length r5.1) + (List.length [a1]))) ((impl_PackChunk n (r5.1 ++ [a1])).bind fun r6 => some (r6.1, r6.2)) (none))
def impl_AppendChunk (n : Nat) (a0 : (List (Int)) × ((Int) × (Unit))) (a1 : (Int) × ((Int) × (Unit))) : Option (Tup [(.pair (.sl false (.int .u8)) (.pair (.int .i64) .unit))]) := goRec impl_AppendChunk.step n (.p0 a0 a1)
def impl_AppendChunk.spec : Ctr := ⟨20, [.v (.pair (.sl false (.int .u8)) (.pair (.int .i64) .unit)), .v (.pair (.int .i64) (.pair (.int .i64) .unit))], [(.pair (.sl false (.int .u8)) (.pair (.int .i64) .unit))], [], none, fun n x => impl_AppendChunk n x.1 x.2.1⟩
theorem impl_AppendChunk.seg_eq : SegEq ty gl impl_AppendChunk.F impl_AppendChunk.md impl_AppendChunk.T impl_AppendChunk.spec impl_AppendChunk.lb impl_AppendChunk.st impl_AppendChunk.step := by
  intro n goto y; cases y <;> kernel_rfl
theorem impl_AppendChunk.text : Text Go.Proofs.Tryd.prog impl_AppendChunk.F impl_AppendChunk.spec := textOf Go.Proofs.Tryd.f20
theorem impl_AppendChunk.ok : CtrOK Go.Proofs.Tryd.prog gl impl_AppendChunk.spec :=
  ctr_okS tabs impl_AppendChunk.text impl_AppendChunk.seg_eq (fun n x => ⟨.p0 x.1 x.2.1, rfl, rfl, rfl⟩) (consC impl_UnpackChunk.ok (consC impl_PackChunk.ok (nilC)))

/-! loop.example/g00039/laws.eqByteS -/
def laws_eqByteS.T : List Ctr := []
def laws_eqByteS.md : List (Nat × List Md) := []
noncomputable def laws_eqByteS.F : Fun := ⟨(Go.Proofs.Tryd.f29.body).getD .skip, [.v (.sl false (.int .u8)), .v (.sl false (.int .u8))], [(.tmp 4, .bool)], [], 0, [(15, ⟨[0, 1, 5], [], [], false⟩)]⟩
inductive laws_eqByteS.Pt where
  | p0 (a0 : List (Int)) (a1 : List (Int))
  | p15 (y1 : List (Int)) (y2 : List (Int)) (y3 : Int)
def laws_eqByteS.lb : laws_eqByteS.Pt → Nat
  | .p0 _ _ => 0
  | .p15 _ _ _ => 15
def laws_eqByteS.st : laws_eqByteS.Pt → St
  | .p0 a0 a1 => enter [.v (.sl false (.int .u8)) a0, .v (.sl false (.int .u8)) a1] 0
  | .p15 y1 y2 y3 => ⟨[(0, .im (.sl false (.int .u8)) y1), (1, .im (.sl false (.int .u8)) y2), (5, .im (.int .i64) y3)], [], 0⟩
def laws_eqByteS.step (n : Nat) (K : laws_eqByteS.Pt → Option (Tup [.bool])) : laws_eqByteS.Pt → Option (Tup [.bool])
  | .p0 a0 a1 => cond (!(decide (((List.length a0) : Int) = ((List.length a1) : Int)))) (some false) (K (.p15 a0 a1 (0 : Int)))
  | .p15 y1 y2 y3 => cond (decide (y3 < ((List.length y1) : Int))) (cond (inB y3 (List.length y1)) (cond (inB y3 (List.length y2)) (cond (!(decide ((List.getD y1 (Int.toNat y3) default) = (List.getD y2 (Int.toNat y3) default)))) (some false) (K (.p15 y1 y2 (IntKind.wrap .i64 (y3 + (1 : Int)))))) (none)) (none)) (some true)
def laws_eqByteS (n : Nat) (a0 : List (Int)) (a1 : List (Int)) : Option (Tup [.bool]) := goRec laws_eqByteS.step n (.p0 a0 a1)
def laws_eqByteS.spec : Ctr := ⟨29, [.v (.sl false (.int .u8)), .v (.sl false (.int .u8))], [.bool], [], none, fun n x => laws_eqByteS n x.1 x.2.1⟩
theorem laws_eqByteS.seg_eq : SegEq ty gl laws_eqByteS.F laws_eqByteS.md laws_eqByteS.T laws_eqByteS.spec laws_eqByteS.lb laws_eqByteS.st laws_eqByteS.step := by
  intro n goto y; cases y <;> kernel_rfl
theorem laws_eqByteS.text : Text Go.Proofs.Tryd.prog laws_eqByteS.F laws_eqByteS.spec := textOf Go.Proofs.Tryd.f29
theorem laws_eqByteS.ok : CtrOK Go.Proofs.Tryd.prog gl laws_eqByteS.spec :=
  ctr_okS tabs laws_eqByteS.text laws_eqByteS.seg_eq (fun n x => ⟨.p0 x.1 x.2.1, rfl, rfl, rfl⟩) (nilC)

/-! loop.example/g00039/laws.eqBits -/
def laws_eqBits.T : List Ctr := [laws_eqByteS.spec]
def laws_eqBits.md : List (Nat × List Md) := []
noncomputable def laws_eqBits.F : Fun := ⟨(Go.Proofs.Tryd.f11.body).getD .skip, [.v (.pair (.sl false (.int .u8)) (.pair (.int .i64) .unit)), .v (.pair (.sl false (.int .u8)) (.pair (.int .i64) .unit))], [(.tmp 4, .bool)], [], 0, []⟩
inductive laws_eqBits.Pt where
  | p0 (a0 : (List (Int)) × ((Int) × (Unit))) (a1 : (List (Int)) × ((Int) × (Unit)))
def laws_eqBits.lb : laws_eqBits.Pt → Nat
  | .p0 _ _ => 0
def laws_eqBits.st : laws_eqBits.Pt → St
  | .p0 a0 a1 => enter [.v (.pair (.sl false (.int .u8)) (.pair (.int .i64) .unit)) a0, .v (.pair (.sl false (.int .u8)) (.pair (.int .i64) .unit)) a1] 0
def laws_eqBits.step (n : Nat) (K : laws_eqBits.Pt → Option (Tup [.bool])) : laws_eqBits.Pt → Option (Tup [.bool])
  | .p0 a0 a1 => (laws_eqByteS n a0.1 a1.1).bind fun r5 => cond (!r5) (some false) (cond (!(decide (a0.2.1 = a1.2.1))) (some false) (some true))
def laws_eqBits (n : Nat) (a0 : (List (Int)) × ((Int) × (Unit))) (a1 : (List (Int)) × ((Int) × (Unit))) : Option (Tup [.bool]) := goRec laws_eqBits.step n (.p0 a0 a1)
def laws_eqBits.spec : Ctr := ⟨11, [.v (.pair (.sl false (.int .u8)) (.pair (.int .i64) .unit)), .v (.pair (.sl false (.int .u8)) (.pair (.int .i64) .unit))], [.bool], [], none, fun n x => laws_eqBits n x.1 x.2.1⟩
theorem laws_eqBits.seg_eq : SegEq ty gl laws_eqBits.F laws_eqBits.md laws_eqBits.T laws_eqBits.spec laws_eqBits.lb laws_eqBits.st laws_eqBits.step := by
  intro n goto y; cases y <;> kernel_rfl
theorem laws_eqBits.text : Text Go.Proofs.Tryd.prog laws_eqBits.F laws_eqBits.spec := textOf Go.Proofs.Tryd.f11
theorem laws_eqBits.ok : CtrOK Go.Proofs.Tryd.prog gl laws_eqBits.spec :=
  ctr_okS tabs laws_eqBits.text laws_eqBits.seg_eq (fun n x => ⟨.p0 x.1 x.2.1, rfl, rfl, rfl⟩) (consC laws_eqByteS.ok (nilC))

/-! loop.example/g00039/laws.markByteS -/
def laws_markByteS.T : List Ctr := []
def laws_markByteS.md : List (Nat × List Md) := []
noncomputable def laws_markByteS.F : Fun := ⟨(Go.Proofs.Tryd.f44.body).getD .skip, [.s false (.int .u8), .v (.int .i64)], [(.tmp 4, (.int .i64))], [none], 1, [(7, ⟨[0, 1, 5], [], [], false⟩)]⟩
inductive laws_markByteS.Pt where
  | p0 (a0 : List (Int)) (a1 : Int)
  | p7 (y1 : Int) (y2 : Int) (y3 : List (Int))
def laws_markByteS.lb : laws_markByteS.Pt → Nat
  | .p0 _ _ => 0
  | .p7 _ _ _ => 7
def laws_markByteS.st : laws_markByteS.Pt → St
  | .p0 a0 a1 => enter [.s false (.int .u8) a0, .v (.int .i64) a1] 1
  | .p7 y1 y2 y3 => ⟨[(0, .hs 0 [] none 0), (1, .im (.int .i64) y1), (5, .im (.int .i64) y2)], [(0, .arr false (.int .u8) y3 0)], 1⟩
def laws_markByteS.step (n : Nat) (K : laws_markByteS.Pt → Option (Tup [(.int .i64), (.sl false (.int .u8))])) : laws_markByteS.Pt → Option (Tup [(.int .i64), (.sl false (.int .u8))])
  | .p0 a0 a1 => K (.p7 a1 (0 : Int) a0)
  | .p7 y1 y2 y3 => cond (decide (y2 < ((List.length y3) : Int))) (cond (inB y2 (List.length y3)) (K (.p7 (IntKind.wrap .i64 (y1 + (1 : Int))) (IntKind.wrap .i64 (y2 + (1 : Int))) (List.set y3 (0 + (Int.toNat y2)) (IntKind.wrap .u8 y1)))) (none)) (some (y1, y3))
def laws_markByteS (n : Nat) (a0 : List (Int)) (a1 : Int) : Option (Tup [(.int .i64), (.sl false (.int .u8))]) := goRec laws_markByteS.step n (.p0 a0 a1)
def laws_markByteS.spec : Ctr := ⟨44, [.s false (.int .u8), .v (.int .i64)], [(.int .i64)], [(.sl false (.int .u8))], none, fun n x => laws_markByteS n x.1 x.2.1⟩
theorem laws_markByteS.seg_eq : SegEq ty gl laws_markByteS.F laws_markByteS.md laws_markByteS.T laws_markByteS.spec laws_markByteS.lb laws_markByteS.st laws_markByteS.step := by
  intro n goto y; cases y <;> kernel_rfl
theorem laws_markByteS.text : Text Go.Proofs.Tryd.prog laws_markByteS.F laws_markByteS.spec := textOf Go.Proofs.Tryd.f44
theorem laws_markByteS.ok : CtrOK Go.Proofs.Tryd.prog gl laws_markByteS.spec :=
  ctr_okS tabs laws_markByteS.text laws_markByteS.seg_eq (fun n x => ⟨.p0 x.1 x.2.1, rfl, rfl, rfl⟩) (nilC)

/-! loop.example/g00039/laws.markBits -/
def laws_markBits.T : List Ctr := [laws_markByteS.spec]
def laws_markBits.md : List (Nat × List Md) := [(44, [.s, .v])]
noncomputable def laws_markBits.F : Fun := ⟨(Go.Proofs.Tryd.f15.body).getD .skip, [.ag [.s false (.int .u8), .v (.int .i64)], .v (.int .i64)], [(.tmp 4, (.int .i64))], [none], 1, []⟩
inductive laws_markBits.Pt where
  | p0 (a0 : List (Int)) (a1 : Int) (a2 : Int)
def laws_markBits.lb : laws_markBits.Pt → Nat
  | .p0 _ _ _ => 0
def laws_markBits.st : laws_markBits.Pt → St
  | .p0 a0 a1 a2 => enter [.ag [.s false (.int .u8) a0, .v (.int .i64) a1], .v (.int .i64) a2] 1
def laws_markBits.step (n : Nat) (K : laws_markBits.Pt → Option (Tup [(.int .i64), (.sl false (.int .u8))])) : laws_markBits.Pt → Option (Tup [(.int .i64), (.sl false (.int .u8))])
  | .p0 a0 a1 a2 => (laws_markByteS n a0 a2).bind fun r6 => some (r6.1, r6.2)
def laws_markBits (n : Nat) (a0 : List (Int)) (a1 : Int) (a2 : Int) : Option (Tup [(.int .i64), (.sl false (.int .u8))]) := goRec laws_markBits.step n (.p0 a0 a1 a2)
def laws_markBits.spec : Ctr := ⟨15, [.ag [.s false (.int .u8), .v (.int .i64)], .v (.int .i64)], [(.int .i64)], [(.sl false (.int .u8))], none, fun n x => laws_markBits n x.1.1 x.1.2.1 x.2.1⟩
theorem laws_markBits.seg_eq : SegEq ty gl laws_markBits.F laws_markBits.md laws_markBits.T laws_markBits.spec laws_markBits.lb laws_markBits.st laws_markBits.step := by
  intro n goto y; cases y <;> kernel_rfl
theorem laws_markBits.text : Text Go.Proofs.Tryd.prog laws_markBits.F laws_markBits.spec := textOf Go.Proofs.Tryd.f15
theorem laws_markBits.ok : CtrOK Go.Proofs.Tryd.prog gl laws_markBits.spec :=
  ctr_okS tabs laws_markBits.text laws_markBits.seg_eq (fun n x => ⟨.p0 x.1.1 x.1.2.1 x.2.1, rfl, rfl, rfl⟩) (consC laws_markByteS.ok (nilC))

/-! loop.example/g00039/laws.heldByteS -/
def laws_heldByteS.T : List Ctr := []
def laws_heldByteS.md : List (Nat × List Md) := []
noncomputable def laws_heldByteS.F : Fun := ⟨(Go.Proofs.Tryd.f47.body).getD .skip, [.v (.sl false (.int .u8)), .v (.int .i64)], [(.tmp 4, (.int .i64))], [], 0, [(7, ⟨[0, 1, 5], [], [], false⟩)]⟩
inductive laws_heldByteS.Pt where
  | p0 (a0 : List (Int)) (a1 : Int)
  | p7 (y1 : List (Int)) (y2 : Int) (y3 : Int)
def laws_heldByteS.lb : laws_heldByteS.Pt → Nat
  | .p0 _ _ => 0
  | .p7 _ _ _ => 7
def laws_heldByteS.st : laws_heldByteS.Pt → St
  | .p0 a0 a1 => enter [.v (.sl false (.int .u8)) a0, .v (.int .i64) a1] 0
  | .p7 y1 y2 y3 => ⟨[(0, .im (.sl false (.int .u8)) y1), (1, .im (.int .i64) y2), (5, .im (.int .i64) y3)], [], 0⟩
def laws_heldByteS.step (n : Nat) (K : laws_heldByteS.Pt → Option (Tup [(.int .i64)])) : laws_heldByteS.Pt → Option (Tup [(.int .i64)])
  | .p0 a0 a1 => K (.p7 a0 a1 (0 : Int))
  | .p7 y1 y2 y3 => cond (decide (y3 < ((List.length y1) : Int))) (cond (inB y3 (List.length y1)) (cond (!(decide ((List.getD y1 (Int.toNat y3) default) = (IntKind.wrap .u8 y2)))) (some (-(1 : Int))) (K (.p7 y1 (IntKind.wrap .i64 (y2 + (1 : Int))) (IntKind.wrap .i64 (y3 + (1 : Int)))))) (none)) (some y2)
def laws_heldByteS (n : Nat) (a0 : List (Int)) (a1 : Int) : Option (Tup [(.int .i64)]) := goRec laws_heldByteS.step n (.p0 a0 a1)
def laws_heldByteS.spec : Ctr := ⟨47, [.v (.sl false (.int .u8)), .v (.int .i64)], [(.int .i64)], [], none, fun n x => laws_heldByteS n x.1 x.2.1⟩
theorem laws_heldByteS.seg_eq : SegEq ty gl laws_heldByteS.F laws_heldByteS.md laws_heldByteS.T laws_heldByteS.spec laws_heldByteS.lb laws_heldByteS.st laws_heldByteS.step := by
  intro n goto y; cases y <;> kernel_rfl
theorem laws_heldByteS.text : Text Go.Proofs.Tryd.prog laws_heldByteS.F laws_heldByteS.spec := textOf Go.Proofs.Tryd.f47
theorem laws_heldByteS.ok : CtrOK Go.Proofs.Tryd.prog gl laws_heldByteS.spec :=
  ctr_okS tabs laws_heldByteS.text laws_heldByteS.seg_eq (fun n x => ⟨.p0 x.1 x.2.1, rfl, rfl, rfl⟩) (nilC)

/-! loop.example/g00039/laws.heldBits -/
def laws_heldBits.T : List Ctr := [laws_heldByteS.spec]
def laws_heldBits.md : List (Nat × List Md) := []
noncomputable def laws_heldBits.F : Fun := ⟨(Go.Proofs.Tryd.f21.body).getD .skip, [.v (.pair (.sl false (.int .u8)) (.pair (.int .i64) .unit)), .v (.int .i64)], [(.tmp 4, (.int .i64))], [], 0, []⟩
inductive laws_heldBits.Pt where
  | p0 (a0 : (List (Int)) × ((Int) × (Unit))) (a1 : Int)
def laws_heldBits.lb : laws_heldBits.Pt → Nat
  | .p0 _ _ => 0
def laws_heldBits.st : laws_heldBits.Pt → St
  | .p0 a0 a1 => enter [.v (.pair (.sl false (.int .u8)) (.pair (.int .i64) .unit)) a0, .v (.int .i64) a1] 0
def laws_heldBits.step (n : Nat) (K : laws_heldBits.Pt → Option (Tup [(.int .i64)])) : laws_heldBits.Pt → Option (Tup [(.int .i64)])
  | .p0 a0 a1 => (laws_heldByteS n a0.1 a1).bind fun (r5 : Int) => cond (decide (r5 < (0 : Int))) (some (-(1 : Int))) (some r5)
def laws_heldBits (n : Nat) (a0 : (List (Int)) × ((Int) × (Unit))) (a1 : Int) : Option (Tup [(.int .i64)]) := goRec laws_heldBits.step n (.p0 a0 a1)
def laws_heldBits.spec : Ctr := ⟨21, [.v (.pair (.sl false (.int .u8)) (.pair (.int .i64) .unit)), .v (.int .i64)], [(.int .i64)], [], none, fun n x => laws_heldBits n x.1 x.2.1⟩
theorem laws_heldBits.seg_eq : SegEq ty gl laws_heldBits.F laws_heldBits.md laws_heldBits.T laws_heldBits.spec laws_heldBits.lb laws_heldBits.st laws_heldBits.step := by
  intro n goto y; cases y <;> kernel_rfl
theorem laws_heldBits.text : Text Go.Proofs.Tryd.prog laws_heldBits.F laws_heldBits.spec := textOf Go.Proofs.Tryd.f21
theorem laws_heldBits.ok : CtrOK Go.Proofs.Tryd.prog gl laws_heldBits.spec :=
  ctr_okS tabs laws_heldBits.text laws_heldBits.seg_eq (fun n x => ⟨.p0 x.1 x.2.1, rfl, rfl, rfl⟩) (consC laws_heldByteS.ok (nilC))

/-! loop.example/g00039/laws.FnExactAppendChunk -/
def laws_FnExactAppendChunk.T : List Ctr := [laws_szBits.spec, laws_toBits.spec, laws_toSample.spec, spec_AppendChunk.spec, impl_AppendChunk.spec, laws_eqBits.spec, laws_markBits.spec, laws_heldBits.spec]
def laws_FnExactAppendChunk.md : List (Nat × List Md) := [(15, [.ag 5000960, .v]), (6000960, [.s, .c (.int .i64)])]
noncomputable def laws_FnExactAppendChunk.F : Fun := ⟨(Go.Proofs.Tryd.f5.body).getD .skip, [.v (.pair (.sl false (.int .u8)) (.pair (.int .i64) .unit)), .v (.pair (.int .i64) (.pair (.int .i64) .unit))], [(.tmp 4, .bool)], [], 0, [(42, ⟨[2, 3, 6, 8, 48], [], [(2, 0, (.int .u8)), (6, 0, (.int .u8)), (8, 0, (.int .u8))], false⟩)]⟩
inductive laws_FnExactAppendChunk.Pt where
  | p0 (a0 : (List (Int)) × ((Int) × (Unit))) (a1 : (Int) × ((Int) × (Unit)))
  | p42 (y1 : Bool) (y2 : List (Int)) (y3 : Int) (y4 : Int) (y5 : Int) (y6 : Int) (y7 : Int) (y8 : List (Int)) (y9 : List (Int))
def laws_FnExactAppendChunk.lb : laws_FnExactAppendChunk.Pt → Nat
  | .p0 _ _ => 0
  | .p42 _ _ _ _ _ _ _ _ _ => 42
def laws_FnExactAppendChunk.st : laws_FnExactAppendChunk.Pt → St
  | .p0 a0 a1 => enter [.v (.pair (.sl false (.int .u8)) (.pair (.int .i64) .unit)) a0, .v (.pair (.int .i64) (.pair (.int .i64) .unit)) a1] 0
  | .p42 y1 y2 y3 y4 y5 y6 y7 y8 y9 => ⟨[(2, .po 0 0), (3, .po 1 0), (6, .po 2 0), (8, .po 3 0), (48, .im .bool y1)], [(0, .obj [.im (.sl false (.int .u8)) y2, .im (.int .i64) y3]), (1, .obj [.im (.int .i64) y4, .im (.int .i64) y5]), (2, .obj [.hs 4 [] none 0, .im (.int .i64) y6]), (3, .obj [.hs 5 [] none 0, .im (.int .i64) y7]), (4, .arr false (.int .u8) y8 0), (5, .arr false (.int .u8) y9 0)], 6⟩
def laws_FnExactAppendChunk.step (n : Nat) (K : laws_FnExactAppendChunk.Pt → Option (Tup [.bool])) : laws_FnExactAppendChunk.Pt → Option (Tup [.bool])
  | .p0 a0 a1 => (laws_szBits n (a0.1, a0.2) (1048576 : Int)).bind fun (r5 : Int) => cond (decide (r5 < (0 : Int))) (some true) ((laws_toBits n (a0.1, a0.2)).bind fun r6 => (laws_toSample n a1).bind fun r7 => (spec_AppendChunk n (r6.1, r6.2) r7).bind fun r8 => (laws_toBits n (a0.1, a0.2)).bind fun r9 => (laws_toSample n a1).bind fun r10 => (impl_AppendChunk n (r9.1, r9.2) r10).bind fun r11 => (laws_eqBits n (r11.1, r11.2) (r8.1, r8.2)).bind fun r12 => cond (!r12) (some false) ((laws_toBits n (a0.1, a0.2)).bind fun r13 => (laws_eqBits n (r9.1, r9.2) (r13.1, r13.2)).bind fun r14 => cond (!r14) (some false) ((laws_markBits n r9.1 r9.2.1 (1 : Int)).bind fun r15 => cond (decide (r15.1 < (0 : Int))) (K (.p42 true a0.1 a0.2.1 a1.1 a1.2.1 r8.2.1 r11.2.1 r8.1 r11.1)) ((laws_eqBits n (r11.1, r11.2) (r8.1, r8.2)).bind fun r16 => K (.p42 (!r16) a0.1 a0.2.1 a1.1 a1.2.1 r8.2.1 r11.2.1 r8.1 r11.1)))))
  | .p42 y1 y2 y3 y4 y5 y6 y7 y8 y9 => cond y1 (some false) ((laws_markBits n y9 y7 (1 : Int)).bind fun r12 => (laws_heldBits n (r12.2, (y7, ())) (1 : Int)).bind fun (r13 : Int) => cond (decide (r13 < (0 : Int))) (some false) (cond (!(decide (r13 = r12.1))) (some false) ((laws_toBits n (y2, (y3, ()))).bind fun r14 => (laws_toSample n (y4, (y5, ()))).bind fun r15 => (impl_AppendChunk n (r14.1, r14.2) r15).bind fun r16 => (laws_eqBits n (r16.1, r16.2) (y8, (y6, ()))).bind fun r17 => cond (!r17) (some false) ((laws_heldBits n (r12.2, (y7, ())) (1 : Int)).bind fun (r18 : Int) => cond (decide (r18 < (0 : Int))) (some false) (cond (!(decide (r18 = r12.1))) (some false) (some true))))))
def laws_FnExactAppendChunk (n : Nat) (a0 : (List (Int)) × ((Int) × (Unit))) (a1 : (Int) × ((Int) × (Unit))) : Option (Tup [.bool]) := goRec laws_FnExactAppendChunk.step n (.p0 a0 a1)
def laws_FnExactAppendChunk.spec : Ctr := ⟨5, [.v (.pair (.sl false (.int .u8)) (.pair (.int .i64) .unit)), .v (.pair (.int .i64) (.pair (.int .i64) .unit))], [.bool], [], none, fun n x => laws_FnExactAppendChunk n x.1 x.2.1⟩
theorem laws_FnExactAppendChunk.seg_eq : SegEq ty gl laws_FnExactAppendChunk.F laws_FnExactAppendChunk.md laws_FnExactAppendChunk.T laws_FnExactAppendChunk.spec laws_FnExactAppendChunk.lb laws_FnExactAppendChunk.st laws_FnExactAppendChunk.step := by
  intro n goto y; cases y <;> kernel_rfl
theorem laws_FnExactAppendChunk.text : Text Go.Proofs.Tryd.prog laws_FnExactAppendChunk.F laws_FnExactAppendChunk.spec := textOf Go.Proofs.Tryd.f5
theorem laws_FnExactAppendChunk.ok : CtrOK Go.Proofs.Tryd.prog gl laws_FnExactAppendChunk.spec :=
  ctr_okS tabs laws_FnExactAppendChunk.text laws_FnExactAppendChunk.seg_eq (fun n x => ⟨.p0 x.1 x.2.1, rfl, rfl, rfl⟩) (consC laws_szBits.ok (consC laws_toBits.ok (consC laws_toSample.ok (consC spec_AppendChunk.ok (consC impl_AppendChunk.ok (consC laws_eqBits.ok (consC laws_markBits.ok (consC laws_heldBits.ok (nilC)))))))))
end Go.AK
