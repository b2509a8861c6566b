/- The functions that the law reaches, each as a Lean function and with its contract, part 1. -/
import Derived.Test.YtcfcnnamjfgahaaDoorV1
import Derived.Test.YtcfcnnamjfgahaaDoorV2
import Derived.Test.YtcfcnnamjfgahaaDoorV3
import Derived.Tactics
import Derived.Tactics2
import Derived.WalkKit
import Derived.Laws.Pointers
import Derived.Lib.Builder
import Derived.Lib.AppendStr
import Derived.Lib.UnsafeStr
import Derived.Shelf.RegionOpenPlain
import Derived.Lib.LaidTab
import Derived.Shelf.LaysM
import Derived.Shelf.Strconv.Itoa3
import Derived.Test.YtcfcnnamjfgahaaDoorProg
open Go Go.VM
namespace Go.FT
set_option maxRecDepth 100000
set_option linter.unusedVariables false
set_option linter.unusedSimpArgs false
set_option linter.unusedSectionVars false
variable [Bor]
def ty : List (Nat × U) := [(1, .oth), (2, (.int .i64)), (3, (.int .i64)), (4, .bool), (5, (.int .u8)), (6, (.int .u8)), (7, (.pair (.int .i64) (.pair (.int .i64) (.pair .bool (.pair (.int .u8) .unit))))), (8, (.pair (.int .i64) (.pair (.int .i64) (.pair .bool (.pair (.int .u8) .unit))))), (9, .str), (10, .str), (11, .str), (12, (.int .u64)), (15, .oth), (16, .oth), (17, .oth), (18, (.pair .oth .unit)), (19, (.pair .oth .unit)), (20, .oth), (21, (.int .i32)), (22, (.sl false (.int .u8))), (23, (.pair (.sl false (.int .u8)) (.pair (.int .i64) .unit))), (24, (.pair (.sl false (.int .u8)) (.pair (.int .i64) .unit))), (25, .oth), (26, .oth), (27, (.pair (.sl false (.int .u8)) (.pair (.int .i64) .unit))), (28, .oth), (29, .oth), (30, .oth), (31, (.sl false (.pair (.int .i64) (.pair (.int .i64) .unit)))), (33, .oth), (34, .oth), (35, .oth), (36, .oth), (37, (.pair (.int .i64) (.pair (.int .i64) .unit))), (38, (.pair (.int .i64) (.pair (.int .i64) .unit))), (39, .oth), (40, (.pair (.int .i64) (.pair (.int .i64) .unit))), (41, .oth), (42, .oth), (43, (.sl false (.pair .str (.pair .str .unit)))), (44, .oth), (45, .oth), (46, (.sl false (.pair .str (.pair .str .unit)))), (47, .oth), (48, .oth), (49, .oth), (50, .oth), (51, .oth), (52, .oth), (53, .oth), (54, .oth), (55, .oth), (56, .unit), (57, .unit), (58, .oth), (59, .oth), (60, .oth), (61, (.int .u64)), (62, .oth), (63, .oth), (64, (.pair .str (.pair .str .unit))), (65, (.pair .str (.pair .str .unit))), (66, .oth), (67, .oth), (68, (.pair .str (.pair .str .unit))), (69, .oth), (70, .oth), (71, (.pair .oth (.pair (.sl false (.int .u8)) .unit))), (72, (.pair .oth (.pair (.sl false (.int .u8)) .unit))), (73, .oth), (74, .oth), (75, .oth), (77, .oth), (79, .oth), (80, .oth), (81, .oth), (82, .oth), (83, .oth), (84, .oth), (85, (.pair (.pair (.bs (.int .u8)) (.pair (.int .i64) .unit)) (.pair (.int .i64) (.pair .bool .unit)))), (86, (.pair (.pair (.bs (.int .u8)) (.pair (.int .i64) .unit)) (.pair (.int .i64) (.pair .bool .unit)))), (87, .oth), (88, (.int .u64)), (89, .oth), (90, .oth), (91, .oth), (93, .oth), (94, .oth), (95, (.pair (.sl false (.int .u8)) (.pair (.int .i64) .unit))), (96, (.pair (.sl false (.int .u8)) (.pair (.int .i64) .unit))), (97, .oth), (98, .oth), (99, (.sl false .str)), (100, (.sl false .bool)), (102, .oth), (103, .oth), (104, .oth), (105, .oth), (106, .oth), (107, .oth), (109, .oth), (110, (.ar 64 (.int .u8))), (111, .oth), (112, .oth), (113, .oth), (114, .oth), (115, .oth), (116, (.ar 24 (.int .u8))), (117, .oth), (119, .oth), (120, .oth), (121, (.ar 20 (.int .u64))), (122, (.int .u32)), (123, (.ar 65 (.int .u8))), (124, .oth), (125, .oth), (126, (.ar 32 (.int .u8))), (127, (.pair .oth (.pair .oth (.pair .oth (.pair .str .unit))))), (128, (.pair .oth (.pair .oth (.pair .oth (.pair .str .unit))))), (129, (.ar 0 .oth)), (132, (.int .u8)), (133, (.int .u8)), (134, .oth), (135, (.int .i32)), (136, (.int .i32)), (137, (.pair (.int .u64) (.pair (.int .u64) (.pair (.int .u32) (.pair (.int .u8) (.pair (.int .u8) (.pair (.int .u8) (.pair (.int .u8) (.pair .oth (.pair .oth (.pair (.int .i32) (.pair (.int .i32) .unit)))))))))))), (138, (.pair (.int .u64) (.pair (.int .u64) (.pair (.int .u32) (.pair (.int .u8) (.pair (.int .u8) (.pair (.int .u8) (.pair (.int .u8) (.pair .oth (.pair .oth (.pair (.int .i32) (.pair (.int .i32) .unit))))))))))))]
def gl : List (Nat × TV) := [(1, ⟨.ar 20 (.int .u64), ([1, 10, 100, 1000, 10000, 100000, 1000000, 10000000, 100000000, 1000000000, 10000000000, 100000000000, 1000000000000, 10000000000000, 100000000000000, 1000000000000000, 10000000000000000, 100000000000000000, 1000000000000000000, 10000000000000000000] : List Int)⟩)]
theorem tabs : Tabs Go.Proofs.Tryd.prog ty gl := tabs_ofG (by kernel_rfl) (by kernel_rfl) (by kernel_rfl)
/-! loop.example/g00039/laws.szLabel -/
def laws_szLabel.T : List Ctr := []
def laws_szLabel.md : List (Nat × List Md) := []
noncomputable def laws_szLabel.F : Fun := ⟨(Go.Proofs.Tryd.f48.body).getD .skip, [.v (.pair .str (.pair .str .unit)), .v (.int .i64)], [(.tmp 4, (.int .i64))], [], 0, []⟩
inductive laws_szLabel.Pt where
  | p0 (a0 : (ByteArray) × ((ByteArray) × (Unit))) (a1 : Int)
def laws_szLabel.lb : laws_szLabel.Pt → Nat
  | .p0 _ _ => 0
def laws_szLabel.st : laws_szLabel.Pt → St
  | .p0 a0 a1 => enter [.v (.pair .str (.pair .str .unit)) a0, .v (.int .i64) a1] 0
def laws_szLabel.step (n : Nat) (K : laws_szLabel.Pt → Option (Tup [(.int .i64)])) : laws_szLabel.Pt → Option (Tup [(.int .i64)])
  | .p0 a0 a1 => cond (decide ((IntKind.wrap .i64 (a1 - ((ByteArray.size a0.1) : Int))) < (0 : Int))) (some (-(1 : Int))) (cond (decide ((IntKind.wrap .i64 ((IntKind.wrap .i64 (a1 - ((ByteArray.size a0.1) : Int))) - ((ByteArray.size a0.2.1) : Int))) < (0 : Int))) (some (-(1 : Int))) (some (IntKind.wrap .i64 ((IntKind.wrap .i64 (a1 - ((ByteArray.size a0.1) : Int))) - ((ByteArray.size a0.2.1) : Int)))))
def laws_szLabel (n : Nat) (a0 : (ByteArray) × ((ByteArray) × (Unit))) (a1 : Int) : Option (Tup [(.int .i64)]) := goRec laws_szLabel.step n (.p0 a0 a1)
def laws_szLabel.spec : Ctr := ⟨48, [.v (.pair .str (.pair .str .unit)), .v (.int .i64)], [(.int .i64)], [], none, fun n x => laws_szLabel n x.1 x.2.1⟩
theorem laws_szLabel.seg_eq : SegEq ty gl laws_szLabel.F laws_szLabel.md laws_szLabel.T laws_szLabel.spec laws_szLabel.lb laws_szLabel.st laws_szLabel.step := by
  intro n goto y; cases y <;> kernel_rfl
theorem laws_szLabel.text : Text Go.Proofs.Tryd.prog laws_szLabel.F laws_szLabel.spec := textOf Go.Proofs.Tryd.f48
theorem laws_szLabel.ok : CtrOK Go.Proofs.Tryd.prog gl laws_szLabel.spec :=
  ctr_okS tabs laws_szLabel.text laws_szLabel.seg_eq (fun n x => ⟨.p0 x.1 x.2.1, rfl, rfl, rfl⟩) (nilC)

/-! loop.example/g00039/laws.szLabelS -/
def laws_szLabelS.T : List Ctr := [laws_szLabel.spec]
def laws_szLabelS.md : List (Nat × List Md) := []
noncomputable def laws_szLabelS.F : Fun := ⟨(Go.Proofs.Tryd.f22.body).getD .skip, [.v (.sl false (.pair .str (.pair .str .unit))), .v (.int .i64)], [(.tmp 4, (.int .i64))], [], 0, [(17, ⟨[0, 1, 5], [], [], false⟩)]⟩
inductive laws_szLabelS.Pt where
  | p0 (a0 : List ((ByteArray) × ((ByteArray) × (Unit)))) (a1 : Int)
  | p17 (y1 : List ((ByteArray) × ((ByteArray) × (Unit)))) (y2 : Int) (y3 : Int)
def laws_szLabelS.lb : laws_szLabelS.Pt → Nat
  | .p0 _ _ => 0
  | .p17 _ _ _ => 17
def laws_szLabelS.st : laws_szLabelS.Pt → St
  | .p0 a0 a1 => enter [.v (.sl false (.pair .str (.pair .str .unit))) a0, .v (.int .i64) a1] 0
  | .p17 y1 y2 y3 => ⟨[(0, .im (.sl false (.pair .str (.pair .str .unit))) y1), (1, .im (.int .i64) y2), (5, .im (.int .i64) y3)], [], 0⟩
def laws_szLabelS.step (n : Nat) (K : laws_szLabelS.Pt → Option (Tup [(.int .i64)])) : laws_szLabelS.Pt → Option (Tup [(.int .i64)])
  | .p0 a0 a1 => cond (decide ((IntKind.wrap .i64 (a1 - ((List.length a0) : Int))) < (0 : Int))) (some (-(1 : Int))) (K (.p17 a0 (IntKind.wrap .i64 (a1 - ((List.length a0) : Int))) (0 : Int)))
  | .p17 y1 y2 y3 => cond (decide (y3 < ((List.length y1) : Int))) (cond (inB y3 (List.length y1)) ((laws_szLabel n (List.getD y1 (Int.toNat y3) default) y2).bind fun (r6 : Int) => cond (decide (r6 < (0 : Int))) (some (-(1 : Int))) (K (.p17 y1 r6 (IntKind.wrap .i64 (y3 + (1 : Int)))))) (none)) (some y2)
def laws_szLabelS (n : Nat) (a0 : List ((ByteArray) × ((ByteArray) × (Unit)))) (a1 : Int) : Option (Tup [(.int .i64)]) := goRec laws_szLabelS.step n (.p0 a0 a1)
def laws_szLabelS.spec : Ctr := ⟨22, [.v (.sl false (.pair .str (.pair .str .unit))), .v (.int .i64)], [(.int .i64)], [], none, fun n x => laws_szLabelS n x.1 x.2.1⟩
theorem laws_szLabelS.seg_eq : SegEq ty gl laws_szLabelS.F laws_szLabelS.md laws_szLabelS.T laws_szLabelS.spec laws_szLabelS.lb laws_szLabelS.st laws_szLabelS.step := by
  intro n goto y; cases y <;> kernel_rfl
theorem laws_szLabelS.text : Text Go.Proofs.Tryd.prog laws_szLabelS.F laws_szLabelS.spec := textOf Go.Proofs.Tryd.f22
theorem laws_szLabelS.ok : CtrOK Go.Proofs.Tryd.prog gl laws_szLabelS.spec :=
  ctr_okS tabs laws_szLabelS.text laws_szLabelS.seg_eq (fun n x => ⟨.p0 x.1 x.2.1, rfl, rfl, rfl⟩) (consC laws_szLabel.ok (nilC))

/-! loop.example/g00039/laws.toLabel -/
def laws_toLabel.T : List Ctr := []
def laws_toLabel.md : List (Nat × List Md) := []
noncomputable def laws_toLabel.F : Fun := ⟨(Go.Proofs.Tryd.f52.body).getD .skip, [.v (.pair .str (.pair .str .unit))], [(.cell 2 68, (.pair .str (.pair .str .unit)))], [], 0, []⟩
inductive laws_toLabel.Pt where
  | p0 (a0 : (ByteArray) × ((ByteArray) × (Unit)))
def laws_toLabel.lb : laws_toLabel.Pt → Nat
  | .p0 _ => 0
def laws_toLabel.st : laws_toLabel.Pt → St
  | .p0 a0 => enter [.v (.pair .str (.pair .str .unit)) a0] 0
def laws_toLabel.step (n : Nat) (K : laws_toLabel.Pt → Option (Tup [(.pair .str (.pair .str .unit))])) : laws_toLabel.Pt → Option (Tup [(.pair .str (.pair .str .unit))])
  | .p0 a0 => some a0
def laws_toLabel (n : Nat) (a0 : (ByteArray) × ((ByteArray) × (Unit))) : Option (Tup [(.pair .str (.pair .str .unit))]) := goRec laws_toLabel.step n (.p0 a0)
def laws_toLabel.spec : Ctr := ⟨52, [.v (.pair .str (.pair .str .unit))], [(.pair .str (.pair .str .unit))], [], none, fun n x => laws_toLabel n x.1⟩
theorem laws_toLabel.seg_eq : SegEq ty gl laws_toLabel.F laws_toLabel.md laws_toLabel.T laws_toLabel.spec laws_toLabel.lb laws_toLabel.st laws_toLabel.step := by
  intro n goto y; cases y <;> kernel_rfl
theorem laws_toLabel.text : Text Go.Proofs.Tryd.prog laws_toLabel.F laws_toLabel.spec := textOf Go.Proofs.Tryd.f52
theorem laws_toLabel.ok : CtrOK Go.Proofs.Tryd.prog gl laws_toLabel.spec :=
  ctr_okS tabs laws_toLabel.text laws_toLabel.seg_eq (fun n x => ⟨.p0 x.1, rfl, rfl, rfl⟩) (nilC)

/-! loop.example/g00039/laws.toLabelS -/
def laws_toLabelS.T : List Ctr := [laws_toLabel.spec]
def laws_toLabelS.md : List (Nat × List Md) := []
noncomputable def laws_toLabelS.F : Fun := ⟨(Go.Proofs.Tryd.f24.body).getD .skip, [.v (.sl false (.pair .str (.pair .str .unit)))], [(.tmp 2, (.sl false (.pair .str (.pair .str .unit))))], [], 0, [(9, ⟨[0, 3, 4], [(3, (.pair .str (.pair .str .unit)))], [], false⟩)]⟩
inductive laws_toLabelS.Pt where
  | p0 (a0 : List ((ByteArray) × ((ByteArray) × (Unit))))
  | p9 (y1 : List ((ByteArray) × ((ByteArray) × (Unit)))) (y2 : Int) (y3 : List ((ByteArray) × ((ByteArray) × (Unit))))
def laws_toLabelS.lb : laws_toLabelS.Pt → Nat
  | .p0 _ => 0
  | .p9 _ _ _ => 9
def laws_toLabelS.st : laws_toLabelS.Pt → St
  | .p0 a0 => enter [.v (.sl false (.pair .str (.pair .str .unit))) a0] 0
  | .p9 y1 y2 y3 => ⟨[(0, .im (.sl false (.pair .str (.pair .str .unit))) y1), (3, .hs 0 [] none 0), (4, .im (.int .i64) y2)], [(0, .arr false (.pair .str (.pair .str .unit)) y3 0)], 1⟩
def laws_toLabelS.step (n : Nat) (K : laws_toLabelS.Pt → Option (Tup [(.sl false (.pair .str (.pair .str .unit)))])) : laws_toLabelS.Pt → Option (Tup [(.sl false (.pair .str (.pair .str .unit)))])
  | .p0 a0 => cond (inC ((List.length a0) : Int) ((List.length a0) : Int) 1000000000) (K (.p9 a0 (0 : Int) (List.replicate (Int.toNat ((List.length a0) : Int)) (default : (ByteArray) × ((ByteArray) × (Unit)))))) (none)
  | .p9 y1 y2 y3 => cond (decide (y2 < ((List.length y1) : Int))) (cond (inB y2 (List.length y1)) ((laws_toLabel n (List.getD y1 (Int.toNat y2) default)).bind fun r6 => cond (inB y2 (List.length y3)) (K (.p9 y1 (IntKind.wrap .i64 (y2 + (1 : Int))) (List.set y3 (0 + (Int.toNat y2)) r6))) (none)) (none)) (some y3)
def laws_toLabelS (n : Nat) (a0 : List ((ByteArray) × ((ByteArray) × (Unit)))) : Option (Tup [(.sl false (.pair .str (.pair .str .unit)))]) := goRec laws_toLabelS.step n (.p0 a0)
def laws_toLabelS.spec : Ctr := ⟨24, [.v (.sl false (.pair .str (.pair .str .unit)))], [(.sl false (.pair .str (.pair .str .unit)))], [], none, fun n x => laws_toLabelS n x.1⟩
theorem laws_toLabelS.seg_eq : SegEq ty gl laws_toLabelS.F laws_toLabelS.md laws_toLabelS.T laws_toLabelS.spec laws_toLabelS.lb laws_toLabelS.st laws_toLabelS.step := by
  intro n goto y; cases y <;> kernel_rfl
theorem laws_toLabelS.text : Text Go.Proofs.Tryd.prog laws_toLabelS.F laws_toLabelS.spec := textOf Go.Proofs.Tryd.f24
theorem laws_toLabelS.ok : CtrOK Go.Proofs.Tryd.prog gl laws_toLabelS.spec :=
  ctr_okS tabs laws_toLabelS.text laws_toLabelS.seg_eq (fun n x => ⟨.p0 x.1, rfl, rfl, rfl⟩) (consC laws_toLabel.ok (nilC))

/-! loop.example/g00039/spec.l2Printed -/
def spec_l2Printed.T : List Ctr := []
def spec_l2Printed.md : List (Nat × List Md) := []
noncomputable def spec_l2Printed.F : Fun := ⟨(Go.Proofs.Tryd.f92.body).getD .skip, [.v .str], [(.tmp 2, .bool)], [], 0, [(7, ⟨[0, 3], [], [], false⟩)]⟩
inductive spec_l2Printed.Pt where
  | p0 (a0 : ByteArray)
  | p7 (y1 : ByteArray) (y2 : Int)
def spec_l2Printed.lb : spec_l2Printed.Pt → Nat
  | .p0 _ => 0
  | .p7 _ _ => 7
def spec_l2Printed.st : spec_l2Printed.Pt → St
  | .p0 a0 => enter [.v .str a0] 0
  | .p7 y1 y2 => ⟨[(0, .im .str y1), (3, .im (.int .i64) y2)], [], 0⟩
def spec_l2Printed.step (n : Nat) (K : spec_l2Printed.Pt → Option (Tup [.bool])) : spec_l2Printed.Pt → Option (Tup [.bool])
  | .p0 a0 => K (.p7 a0 (0 : Int))
  | .p7 y1 y2 => cond (decide (y2 < ((ByteArray.size y1) : Int))) (cond (inB y2 (ByteArray.size y1)) (cond (decide ((bt y1 y2) < (32 : Int))) (some false) (cond (inB y2 (ByteArray.size y1)) (cond (decide ((126 : Int) < (bt y1 y2))) (some false) (K (.p7 y1 (IntKind.wrap .i64 (y2 + (1 : Int)))))) (none))) (none)) (some true)
def spec_l2Printed (n : Nat) (a0 : ByteArray) : Option (Tup [.bool]) := goRec spec_l2Printed.step n (.p0 a0)
def spec_l2Printed.spec : Ctr := ⟨92, [.v .str], [.bool], [], none, fun n x => spec_l2Printed n x.1⟩
theorem spec_l2Printed.seg_eq : SegEq ty gl spec_l2Printed.F spec_l2Printed.md spec_l2Printed.T spec_l2Printed.spec spec_l2Printed.lb spec_l2Printed.st spec_l2Printed.step := by
  intro n goto y; cases y <;> kernel_rfl
theorem spec_l2Printed.text : Text Go.Proofs.Tryd.prog spec_l2Printed.F spec_l2Printed.spec := textOf Go.Proofs.Tryd.f92
theorem spec_l2Printed.ok : CtrOK Go.Proofs.Tryd.prog gl spec_l2Printed.spec :=
  ctr_okS tabs spec_l2Printed.text spec_l2Printed.seg_eq (fun n x => ⟨.p0 x.1, rfl, rfl, rfl⟩) (nilC)

/-! loop.example/g00039/spec.l2Letter -/
def spec_l2Letter.T : List Ctr := []
def spec_l2Letter.md : List (Nat × List Md) := []
noncomputable def spec_l2Letter.F : Fun := ⟨(Go.Proofs.Tryd.f95.body).getD .skip, [.v (.int .u8)], [(.tmp 2, .bool)], [], 0, []⟩
inductive spec_l2Letter.Pt where
  | p0 (a0 : Int)
def spec_l2Letter.lb : spec_l2Letter.Pt → Nat
  | .p0 _ => 0
def spec_l2Letter.st : spec_l2Letter.Pt → St
  | .p0 a0 => enter [.v (.int .u8) a0] 0
def spec_l2Letter.step (n : Nat) (K : spec_l2Letter.Pt → Option (Tup [.bool])) : spec_l2Letter.Pt → Option (Tup [.bool])
  | .p0 a0 => cond (decide ((97 : Int) ≤ a0)) (cond (decide (a0 ≤ (122 : Int))) (some true) (cond (decide ((65 : Int) ≤ a0)) (some (decide (a0 ≤ (90 : Int)))) (some false))) (cond (decide ((65 : Int) ≤ a0)) (some (decide (a0 ≤ (90 : Int)))) (some false))
def spec_l2Letter (n : Nat) (a0 : Int) : Option (Tup [.bool]) := goRec spec_l2Letter.step n (.p0 a0)
def spec_l2Letter.spec : Ctr := ⟨95, [.v (.int .u8)], [.bool], [], none, fun n x => spec_l2Letter n x.1⟩
theorem spec_l2Letter.seg_eq : SegEq ty gl spec_l2Letter.F spec_l2Letter.md spec_l2Letter.T spec_l2Letter.spec spec_l2Letter.lb spec_l2Letter.st spec_l2Letter.step := by
  intro n goto y; cases y <;> kernel_rfl
theorem spec_l2Letter.text : Text Go.Proofs.Tryd.prog spec_l2Letter.F spec_l2Letter.spec := textOf Go.Proofs.Tryd.f95
theorem spec_l2Letter.ok : CtrOK Go.Proofs.Tryd.prog gl spec_l2Letter.spec :=
  ctr_okS tabs spec_l2Letter.text spec_l2Letter.seg_eq (fun n x => ⟨.p0 x.1, rfl, rfl, rfl⟩) (nilC)

/-! loop.example/g00039/spec.l2Digit -/
def spec_l2Digit.T : List Ctr := []
def spec_l2Digit.md : List (Nat × List Md) := []
noncomputable def spec_l2Digit.F : Fun := ⟨(Go.Proofs.Tryd.f94.body).getD .skip, [.v (.int .u8)], [(.tmp 2, .bool)], [], 0, []⟩
inductive spec_l2Digit.Pt where
  | p0 (a0 : Int)
def spec_l2Digit.lb : spec_l2Digit.Pt → Nat
  | .p0 _ => 0
def spec_l2Digit.st : spec_l2Digit.Pt → St
  | .p0 a0 => enter [.v (.int .u8) a0] 0
def spec_l2Digit.step (n : Nat) (K : spec_l2Digit.Pt → Option (Tup [.bool])) : spec_l2Digit.Pt → Option (Tup [.bool])
  | .p0 a0 => cond (decide ((48 : Int) ≤ a0)) (some (decide (a0 ≤ (57 : Int)))) (some false)
def spec_l2Digit (n : Nat) (a0 : Int) : Option (Tup [.bool]) := goRec spec_l2Digit.step n (.p0 a0)
def spec_l2Digit.spec : Ctr := ⟨94, [.v (.int .u8)], [.bool], [], none, fun n x => spec_l2Digit n x.1⟩
theorem spec_l2Digit.seg_eq : SegEq ty gl spec_l2Digit.F spec_l2Digit.md spec_l2Digit.T spec_l2Digit.spec spec_l2Digit.lb spec_l2Digit.st spec_l2Digit.step := by
  intro n goto y; cases y <;> kernel_rfl
theorem spec_l2Digit.text : Text Go.Proofs.Tryd.prog spec_l2Digit.F spec_l2Digit.spec := textOf Go.Proofs.Tryd.f94
theorem spec_l2Digit.ok : CtrOK Go.Proofs.Tryd.prog gl spec_l2Digit.spec :=
  ctr_okS tabs spec_l2Digit.text spec_l2Digit.seg_eq (fun n x => ⟨.p0 x.1, rfl, rfl, rfl⟩) (nilC)

/-! loop.example/g00039/spec.l2NameAt -/
def spec_l2NameAt.T : List Ctr := [spec_l2Letter.spec, spec_l2Digit.spec]
def spec_l2NameAt.md : List (Nat × List Md) := []
noncomputable def spec_l2NameAt.F : Fun := ⟨(Go.Proofs.Tryd.f93.body).getD .skip, [.v .str, .v (.int .i64)], [(.tmp 4, (.int .i64))], [], 0, [(5, ⟨[0, 1], [], [], false⟩), (7, ⟨[0, 1, 26], [], [], false⟩)]⟩
inductive spec_l2NameAt.Pt where
  | p0 (a0 : ByteArray) (a1 : Int)
  | p5 (y1 : ByteArray) (y2 : Int)
  | p7 (y1 : ByteArray) (y2 : Int) (y3 : Bool)
def spec_l2NameAt.lb : spec_l2NameAt.Pt → Nat
  | .p0 _ _ => 0
  | .p5 _ _ => 5
  | .p7 _ _ _ => 7
def spec_l2NameAt.st : spec_l2NameAt.Pt → St
  | .p0 a0 a1 => enter [.v .str a0, .v (.int .i64) a1] 0
  | .p5 y1 y2 => ⟨[(0, .im .str y1), (1, .im (.int .i64) y2)], [], 0⟩
  | .p7 y1 y2 y3 => ⟨[(0, .im .str y1), (1, .im (.int .i64) y2), (26, .im .bool y3)], [], 0⟩
def spec_l2NameAt.step (n : Nat) (K : spec_l2NameAt.Pt → Option (Tup [(.int .i64)])) : spec_l2NameAt.Pt → Option (Tup [(.int .i64)])
  | .p0 a0 a1 => K (.p5 a0 a1)
  | .p5 y1 y2 => cond (decide (y2 < ((ByteArray.size y1) : Int))) (cond (inB y2 (ByteArray.size y1)) ((spec_l2Letter n (bt y1 y2)).bind fun r5 => cond r5 (K (.p7 y1 y2 true)) (cond (inB y2 (ByteArray.size y1)) ((spec_l2Digit n (bt y1 y2)).bind fun r6 => cond r6 (K (.p7 y1 y2 true)) (cond (inB y2 (ByteArray.size y1)) (K (.p7 y1 y2 (decide ((bt y1 y2) = (95 : Int))))) (none))) (none))) (none)) (K (.p7 y1 y2 false))
  | .p7 y1 y2 y3 => cond y3 (K (.p5 y1 (IntKind.wrap .i64 (y2 + (1 : Int))))) (some y2)
def spec_l2NameAt (n : Nat) (a0 : ByteArray) (a1 : Int) : Option (Tup [(.int .i64)]) := goRec spec_l2NameAt.step n (.p0 a0 a1)
def spec_l2NameAt.spec : Ctr := ⟨93, [.v .str, .v (.int .i64)], [(.int .i64)], [], none, fun n x => spec_l2NameAt n x.1 x.2.1⟩
theorem spec_l2NameAt.seg_eq : SegEq ty gl spec_l2NameAt.F spec_l2NameAt.md spec_l2NameAt.T spec_l2NameAt.spec spec_l2NameAt.lb spec_l2NameAt.st spec_l2NameAt.step := by
  intro n goto y; cases y <;> kernel_rfl
theorem spec_l2NameAt.text : Text Go.Proofs.Tryd.prog spec_l2NameAt.F spec_l2NameAt.spec := textOf Go.Proofs.Tryd.f93
theorem spec_l2NameAt.ok : CtrOK Go.Proofs.Tryd.prog gl spec_l2NameAt.spec :=
  ctr_okS tabs spec_l2NameAt.text spec_l2NameAt.seg_eq (fun n x => ⟨.p0 x.1 x.2.1, rfl, rfl, rfl⟩) (consC spec_l2Letter.ok (consC spec_l2Digit.ok (nilC)))

/-! loop.example/g00039/spec.l2Name -/
def spec_l2Name.T : List Ctr := [spec_l2Letter.spec, spec_l2Digit.spec]
def spec_l2Name.md : List (Nat × List Md) := []
noncomputable def spec_l2Name.F : Fun := ⟨(Go.Proofs.Tryd.f77.body).getD .skip, [.v .str], [(.tmp 2, .bool)], [], 0, [(4, ⟨[0, 16], [], [], false⟩), (15, ⟨[0, 3], [], [], false⟩), (24, ⟨[0, 3, 40], [], [], false⟩)]⟩
inductive spec_l2Name.Pt where
  | p0 (a0 : ByteArray)
  | p4 (y1 : ByteArray) (y2 : Bool)
  | p15 (y1 : ByteArray) (y2 : Int)
  | p24 (y1 : ByteArray) (y2 : Int) (y3 : Bool)
def spec_l2Name.lb : spec_l2Name.Pt → Nat
  | .p0 _ => 0
  | .p4 _ _ => 4
  | .p15 _ _ => 15
  | .p24 _ _ _ => 24
def spec_l2Name.st : spec_l2Name.Pt → St
  | .p0 a0 => enter [.v .str a0] 0
  | .p4 y1 y2 => ⟨[(0, .im .str y1), (16, .im .bool y2)], [], 0⟩
  | .p15 y1 y2 => ⟨[(0, .im .str y1), (3, .im (.int .i64) y2)], [], 0⟩
  | .p24 y1 y2 y3 => ⟨[(0, .im .str y1), (3, .im (.int .i64) y2), (40, .im .bool y3)], [], 0⟩
def spec_l2Name.step (n : Nat) (K : spec_l2Name.Pt → Option (Tup [.bool])) : spec_l2Name.Pt → Option (Tup [.bool])
  | .p0 a0 => cond (decide (((ByteArray.size a0) : Int) < (1 : Int))) (K (.p4 a0 true)) (cond (decide ((40 : Int) < ((ByteArray.size a0) : Int))) (K (.p4 a0 true)) (cond (inB (0 : Int) (ByteArray.size a0)) ((spec_l2Digit n (bt a0 (0 : Int))).bind fun r4 => K (.p4 a0 r4)) (none)))
  | .p4 y1 y2 => cond y2 (some false) (K (.p15 y1 (0 : Int)))
  | .p15 y1 y2 => cond (decide (y2 < ((ByteArray.size y1) : Int))) (cond (inB y2 (ByteArray.size y1)) ((spec_l2Letter n (bt y1 y2)).bind fun r5 => cond (!r5) (cond (inB y2 (ByteArray.size y1)) ((spec_l2Digit n (bt y1 y2)).bind fun r6 => cond (!r6) (cond (inB y2 (ByteArray.size y1)) (K (.p24 y1 y2 (!(decide ((bt y1 y2) = (95 : Int)))))) (none)) (K (.p24 y1 y2 false))) (none)) (K (.p24 y1 y2 false))) (none)) (some true)
  | .p24 y1 y2 y3 => cond y3 (some false) (K (.p15 y1 (IntKind.wrap .i64 (y2 + (1 : Int)))))
def spec_l2Name (n : Nat) (a0 : ByteArray) : Option (Tup [.bool]) := goRec spec_l2Name.step n (.p0 a0)
def spec_l2Name.spec : Ctr := ⟨77, [.v .str], [.bool], [], none, fun n x => spec_l2Name n x.1⟩
theorem spec_l2Name.seg_eq : SegEq ty gl spec_l2Name.F spec_l2Name.md spec_l2Name.T spec_l2Name.spec spec_l2Name.lb spec_l2Name.st spec_l2Name.step := by
  intro n goto y; cases y <;> kernel_rfl
theorem spec_l2Name.text : Text Go.Proofs.Tryd.prog spec_l2Name.F spec_l2Name.spec := textOf Go.Proofs.Tryd.f77
theorem spec_l2Name.ok : CtrOK Go.Proofs.Tryd.prog gl spec_l2Name.spec :=
  ctr_okS tabs spec_l2Name.text spec_l2Name.seg_eq (fun n x => ⟨.p0 x.1, rfl, rfl, rfl⟩) (consC spec_l2Letter.ok (consC spec_l2Digit.ok (nilC)))

/-! loop.example/g00039/spec.l18Parts -/
def spec_l18Parts.T : List Ctr := [spec_l2Printed.spec, spec_l2NameAt.spec, spec_l2Name.spec]
def spec_l18Parts.md : List (Nat × List Md) := []
noncomputable def spec_l18Parts.F : Fun := ⟨(Go.Proofs.Tryd.f76.body).getD .skip, [.v .str], [(.tmp 2, (.sl false .str)), (.tmp 3, (.sl false .bool)), (.tmp 4, .bool)], [], 0, [(8, ⟨[0, 5, 6, 16], [(5, .str), (6, .bool)], [], false⟩), (19, ⟨[0, 5, 6, 7], [(5, .str), (6, .bool)], [], false⟩), (39, ⟨[0, 5, 6, 7, 49], [(5, .str), (6, .bool)], [], false⟩), (53, ⟨[0, 5, 6, 7, 8, 80], [(5, .str), (6, .bool)], [], false⟩)]⟩
inductive spec_l18Parts.Pt where
  | p0 (a0 : ByteArray)
  | p8 (y1 : ByteArray) (y2 : Bool) (y3 : List (ByteArray)) (y4 : List (Bool))
  | p19 (y1 : ByteArray) (y2 : Int) (y3 : List (ByteArray)) (y4 : List (Bool))
  | p39 (y1 : ByteArray) (y2 : Int) (y3 : Bool) (y4 : List (ByteArray)) (y5 : List (Bool))
  | p53 (y1 : ByteArray) (y2 : Int) (y3 : Int) (y4 : Bool) (y5 : List (ByteArray)) (y6 : List (Bool))
def spec_l18Parts.lb : spec_l18Parts.Pt → Nat
  | .p0 _ => 0
  | .p8 _ _ _ _ => 8
  | .p19 _ _ _ _ => 19
  | .p39 _ _ _ _ _ => 39
  | .p53 _ _ _ _ _ _ => 53
def spec_l18Parts.st : spec_l18Parts.Pt → St
  | .p0 a0 => enter [.v .str a0] 0
  | .p8 y1 y2 y3 y4 => ⟨[(0, .im .str y1), (5, .hs 0 [] none 0), (6, .hs 1 [] none 0), (16, .im .bool y2)], [(0, .arr true .str y3 0), (1, .arr true .bool y4 0)], 2⟩
  | .p19 y1 y2 y3 y4 => ⟨[(0, .im .str y1), (5, .hs 0 [] none 0), (6, .hs 1 [] none 0), (7, .im (.int .i64) y2)], [(0, .arr true .str y3 0), (1, .arr true .bool y4 0)], 2⟩
  | .p39 y1 y2 y3 y4 y5 => ⟨[(0, .im .str y1), (5, .hs 0 [] none 0), (6, .hs 1 [] none 0), (7, .im (.int .i64) y2), (49, .im .bool y3)], [(0, .arr true .str y4 0), (1, .arr true .bool y5 0)], 2⟩
  | .p53 y1 y2 y3 y4 y5 y6 => ⟨[(0, .im .str y1), (5, .hs 0 [] none 0), (6, .hs 1 [] none 0), (7, .im (.int .i64) y2), (8, .im (.int .i64) y3), (80, .im .bool y4)], [(0, .arr true .str y5 0), (1, .arr true .bool y6 0)], 2⟩
def spec_l18Parts.step (n : Nat) (K : spec_l18Parts.Pt → Option (Tup [(.sl false .str), (.sl false .bool), .bool])) : spec_l18Parts.Pt → Option (Tup [(.sl false .str), (.sl false .bool), .bool])
  | .p0 a0 => cond (decide ((200 : Int) < ((ByteArray.size a0) : Int))) (K (.p8 a0 true ([] : List (ByteArray)) ([] : List (Bool)))) ((spec_l2Printed n a0).bind fun r4 => K (.p8 a0 (!r4) ([] : List (ByteArray)) ([] : List (Bool))))
  | .p8 y1 y2 y3 y4 => cond y2 (some (([] : List (ByteArray)), (([] : List (Bool)), false))) (K (.p19 y1 (0 : Int) y3 y4))
  | .p19 y1 y2 y3 y4 => cond (decide (y2 < ((ByteArray.size y1) : Int))) (cond (inB y2 (ByteArray.size y1)) (cond (!(decide ((bt y1 y2) = (123 : Int)))) (cond (inC y2 (IntKind.wrap .i64 (y2 + (1 : Int))) (ByteArray.size y1)) (cond (room ((List.length y3) + (List.length [(ByteArray.extract y1 (Int.toNat y2) (Int.toNat (IntKind.wrap .i64 (y2 + (1 : Int)))))]))) (cond (room ((List.length y4) + (List.length [false]))) (K (.p19 y1 (IntKind.wrap .i64 (y2 + (1 : Int))) (y3 ++ [(ByteArray.extract y1 (Int.toNat y2) (Int.toNat (IntKind.wrap .i64 (y2 + (1 : Int)))))]) (y4 ++ [false]))) (none)) (none)) (none)) (cond (decide ((IntKind.wrap .i64 (y2 + (1 : Int))) < ((ByteArray.size y1) : Int))) (cond (inB (IntKind.wrap .i64 (y2 + (1 : Int))) (ByteArray.size y1)) (K (.p39 y1 y2 (decide ((bt y1 (IntKind.wrap .i64 (y2 + (1 : Int)))) = (123 : Int))) y3 y4)) (none)) (K (.p39 y1 y2 false y3 y4)))) (none)) (some (y3, (y4, true)))
  | .p39 y1 y2 y3 y4 y5 => cond y3 (cond (room ((List.length y4) + (List.length [(⟨#[123]⟩ : ByteArray)]))) (cond (room ((List.length y5) + (List.length [false]))) (K (.p19 y1 (IntKind.wrap .i64 ((IntKind.wrap .i64 (y2 + (1 : Int))) + (1 : Int))) (y4 ++ [(⟨#[123]⟩ : ByteArray)]) (y5 ++ [false]))) (none)) (none)) ((spec_l2NameAt n y1 (IntKind.wrap .i64 (y2 + (1 : Int)))).bind fun (r8 : Int) => cond (decide (((ByteArray.size y1) : Int) ≤ r8)) (K (.p53 y1 y2 r8 true y4 y5)) (cond (inB r8 (ByteArray.size y1)) (cond (!(decide ((bt y1 r8) = (125 : Int)))) (K (.p53 y1 y2 r8 true y4 y5)) (cond (inC (IntKind.wrap .i64 (y2 + (1 : Int))) r8 (ByteArray.size y1)) ((spec_l2Name n (ByteArray.extract y1 (Int.toNat (IntKind.wrap .i64 (y2 + (1 : Int)))) (Int.toNat r8))).bind fun r9 => K (.p53 y1 y2 r8 (!r9) y4 y5)) (none))) (none)))
  | .p53 y1 y2 y3 y4 y5 y6 => cond y4 (some (([] : List (ByteArray)), (([] : List (Bool)), false))) (cond (inC (IntKind.wrap .i64 (y2 + (1 : Int))) y3 (ByteArray.size y1)) (cond (room ((List.length y5) + (List.length [(ByteArray.extract y1 (Int.toNat (IntKind.wrap .i64 (y2 + (1 : Int)))) (Int.toNat y3))]))) (cond (room ((List.length y6) + (List.length [true]))) (K (.p19 y1 (IntKind.wrap .i64 (y3 + (1 : Int))) (y5 ++ [(ByteArray.extract y1 (Int.toNat (IntKind.wrap .i64 (y2 + (1 : Int)))) (Int.toNat y3))]) (y6 ++ [true]))) (none)) (none)) (none))
def spec_l18Parts (n : Nat) (a0 : ByteArray) : Option (Tup [(.sl false .str), (.sl false .bool), .bool]) := goRec spec_l18Parts.step n (.p0 a0)
def spec_l18Parts.spec : Ctr := ⟨76, [.v .str], [(.sl false .str), (.sl false .bool), .bool], [], none, fun n x => spec_l18Parts n x.1⟩
theorem spec_l18Parts.seg_eq : SegEq ty gl spec_l18Parts.F spec_l18Parts.md spec_l18Parts.T spec_l18Parts.spec spec_l18Parts.lb spec_l18Parts.st spec_l18Parts.step := by
  intro n goto y; cases y <;> kernel_rfl
theorem spec_l18Parts.text : Text Go.Proofs.Tryd.prog spec_l18Parts.F spec_l18Parts.spec := textOf Go.Proofs.Tryd.f76
theorem spec_l18Parts.ok : CtrOK Go.Proofs.Tryd.prog gl spec_l18Parts.spec :=
  ctr_okS tabs spec_l18Parts.text spec_l18Parts.seg_eq (fun n x => ⟨.p0 x.1, rfl, rfl, rfl⟩) (consC spec_l2Printed.ok (consC spec_l2NameAt.ok (consC spec_l2Name.ok (nilC))))

/-! loop.example/g00039/spec.GoodTemplate -/
def spec_GoodTemplate.T : List Ctr := [spec_l18Parts.spec]
def spec_GoodTemplate.md : List (Nat × List Md) := []
noncomputable def spec_GoodTemplate.F : Fun := ⟨(Go.Proofs.Tryd.f49.body).getD .skip, [.v .str], [(.tmp 2, .bool)], [], 0, []⟩
inductive spec_GoodTemplate.Pt where
  | p0 (a0 : ByteArray)
def spec_GoodTemplate.lb : spec_GoodTemplate.Pt → Nat
  | .p0 _ => 0
def spec_GoodTemplate.st : spec_GoodTemplate.Pt → St
  | .p0 a0 => enter [.v .str a0] 0
def spec_GoodTemplate.step (n : Nat) (K : spec_GoodTemplate.Pt → Option (Tup [.bool])) : spec_GoodTemplate.Pt → Option (Tup [.bool])
  | .p0 a0 => (spec_l18Parts n a0).bind fun r4 => some r4.2.2
def spec_GoodTemplate (n : Nat) (a0 : ByteArray) : Option (Tup [.bool]) := goRec spec_GoodTemplate.step n (.p0 a0)
def spec_GoodTemplate.spec : Ctr := ⟨49, [.v .str], [.bool], [], none, fun n x => spec_GoodTemplate n x.1⟩
theorem spec_GoodTemplate.seg_eq : SegEq ty gl spec_GoodTemplate.F spec_GoodTemplate.md spec_GoodTemplate.T spec_GoodTemplate.spec spec_GoodTemplate.lb spec_GoodTemplate.st spec_GoodTemplate.step := by
  intro n goto y; cases y <;> kernel_rfl
theorem spec_GoodTemplate.text : Text Go.Proofs.Tryd.prog spec_GoodTemplate.F spec_GoodTemplate.spec := textOf Go.Proofs.Tryd.f49
theorem spec_GoodTemplate.ok : CtrOK Go.Proofs.Tryd.prog gl spec_GoodTemplate.spec :=
  ctr_okS tabs spec_GoodTemplate.text spec_GoodTemplate.seg_eq (fun n x => ⟨.p0 x.1, rfl, rfl, rfl⟩) (consC spec_l18Parts.ok (nilC))

/-! loop.example/g00039/spec.l2Value -/
def spec_l2Value.T : List Ctr := [spec_l2Printed.spec]
def spec_l2Value.md : List (Nat × List Md) := []
noncomputable def spec_l2Value.F : Fun := ⟨(Go.Proofs.Tryd.f78.body).getD .skip, [.v .str], [(.tmp 2, .bool)], [], 0, []⟩
inductive spec_l2Value.Pt where
  | p0 (a0 : ByteArray)
def spec_l2Value.lb : spec_l2Value.Pt → Nat
  | .p0 _ => 0
def spec_l2Value.st : spec_l2Value.Pt → St
  | .p0 a0 => enter [.v .str a0] 0
def spec_l2Value.step (n : Nat) (K : spec_l2Value.Pt → Option (Tup [.bool])) : spec_l2Value.Pt → Option (Tup [.bool])
  | .p0 a0 => cond (decide ((1 : Int) ≤ ((ByteArray.size a0) : Int))) (cond (decide (((ByteArray.size a0) : Int) ≤ (100 : Int))) ((spec_l2Printed n a0).bind fun r4 => some r4) (some false)) (some false)
def spec_l2Value (n : Nat) (a0 : ByteArray) : Option (Tup [.bool]) := goRec spec_l2Value.step n (.p0 a0)
def spec_l2Value.spec : Ctr := ⟨78, [.v .str], [.bool], [], none, fun n x => spec_l2Value n x.1⟩
theorem spec_l2Value.seg_eq : SegEq ty gl spec_l2Value.F spec_l2Value.md spec_l2Value.T spec_l2Value.spec spec_l2Value.lb spec_l2Value.st spec_l2Value.step := by
  intro n goto y; cases y <;> kernel_rfl
theorem spec_l2Value.text : Text Go.Proofs.Tryd.prog spec_l2Value.F spec_l2Value.spec := textOf Go.Proofs.Tryd.f78
theorem spec_l2Value.ok : CtrOK Go.Proofs.Tryd.prog gl spec_l2Value.spec :=
  ctr_okS tabs spec_l2Value.text spec_l2Value.seg_eq (fun n x => ⟨.p0 x.1, rfl, rfl, rfl⟩) (consC spec_l2Printed.ok (nilC))

/-! loop.example/g00039/spec.l2CmpNum -/
def spec_l2CmpNum.T : List Ctr := []
def spec_l2CmpNum.md : List (Nat × List Md) := []
noncomputable def spec_l2CmpNum.F : Fun := ⟨(Go.Proofs.Tryd.f96.body).getD .skip, [.v (.int .i64), .v (.int .i64)], [(.tmp 4, (.int .i64))], [], 0, []⟩
inductive spec_l2CmpNum.Pt where
  | p0 (a0 : Int) (a1 : Int)
def spec_l2CmpNum.lb : spec_l2CmpNum.Pt → Nat
  | .p0 _ _ => 0
def spec_l2CmpNum.st : spec_l2CmpNum.Pt → St
  | .p0 a0 a1 => enter [.v (.int .i64) a0, .v (.int .i64) a1] 0
def spec_l2CmpNum.step (n : Nat) (K : spec_l2CmpNum.Pt → Option (Tup [(.int .i64)])) : spec_l2CmpNum.Pt → Option (Tup [(.int .i64)])
  | .p0 a0 a1 => cond (decide (a0 < a1)) (some (-(1 : Int))) (cond (decide (a1 < a0)) (some (1 : Int)) (some (0 : Int)))
def spec_l2CmpNum (n : Nat) (a0 : Int) (a1 : Int) : Option (Tup [(.int .i64)]) := goRec spec_l2CmpNum.step n (.p0 a0 a1)
def spec_l2CmpNum.spec : Ctr := ⟨96, [.v (.int .i64), .v (.int .i64)], [(.int .i64)], [], none, fun n x => spec_l2CmpNum n x.1 x.2.1⟩
theorem spec_l2CmpNum.seg_eq : SegEq ty gl spec_l2CmpNum.F spec_l2CmpNum.md spec_l2CmpNum.T spec_l2CmpNum.spec spec_l2CmpNum.lb spec_l2CmpNum.st spec_l2CmpNum.step := by
  intro n goto y; cases y <;> kernel_rfl
theorem spec_l2CmpNum.text : Text Go.Proofs.Tryd.prog spec_l2CmpNum.F spec_l2CmpNum.spec := textOf Go.Proofs.Tryd.f96
theorem spec_l2CmpNum.ok : CtrOK Go.Proofs.Tryd.prog gl spec_l2CmpNum.spec :=
  ctr_okS tabs spec_l2CmpNum.text spec_l2CmpNum.seg_eq (fun n x => ⟨.p0 x.1 x.2.1, rfl, rfl, rfl⟩) (nilC)

/-! loop.example/g00039/spec.l2CmpText -/
def spec_l2CmpText.T : List Ctr := [spec_l2CmpNum.spec]
def spec_l2CmpText.md : List (Nat × List Md) := []
noncomputable def spec_l2CmpText.F : Fun := ⟨(Go.Proofs.Tryd.f79.body).getD .skip, [.v .str, .v .str], [(.tmp 4, (.int .i64))], [], 0, [(7, ⟨[0, 1, 5], [], [], false⟩), (9, ⟨[0, 1, 5, 15], [], [], false⟩)]⟩
inductive spec_l2CmpText.Pt where
  | p0 (a0 : ByteArray) (a1 : ByteArray)
  | p7 (y1 : ByteArray) (y2 : ByteArray) (y3 : Int)
  | p9 (y1 : ByteArray) (y2 : ByteArray) (y3 : Int) (y4 : Bool)
def spec_l2CmpText.lb : spec_l2CmpText.Pt → Nat
  | .p0 _ _ => 0
  | .p7 _ _ _ => 7
  | .p9 _ _ _ _ => 9
def spec_l2CmpText.st : spec_l2CmpText.Pt → St
  | .p0 a0 a1 => enter [.v .str a0, .v .str a1] 0
  | .p7 y1 y2 y3 => ⟨[(0, .im .str y1), (1, .im .str y2), (5, .im (.int .i64) y3)], [], 0⟩
  | .p9 y1 y2 y3 y4 => ⟨[(0, .im .str y1), (1, .im .str y2), (5, .im (.int .i64) y3), (15, .im .bool y4)], [], 0⟩
def spec_l2CmpText.step (n : Nat) (K : spec_l2CmpText.Pt → Option (Tup [(.int .i64)])) : spec_l2CmpText.Pt → Option (Tup [(.int .i64)])
  | .p0 a0 a1 => K (.p7 a0 a1 (0 : Int))
  | .p7 y1 y2 y3 => cond (decide (y3 < ((ByteArray.size y1) : Int))) (K (.p9 y1 y2 y3 (decide (y3 < ((ByteArray.size y2) : Int))))) (K (.p9 y1 y2 y3 false))
  | .p9 y1 y2 y3 y4 => cond y4 (cond (inB y3 (ByteArray.size y1)) (cond (inB y3 (ByteArray.size y2)) (cond (!(decide ((bt y1 y3) = (bt y2 y3)))) (cond (inB y3 (ByteArray.size y1)) (cond (inB y3 (ByteArray.size y2)) ((spec_l2CmpNum n (IntKind.wrap .i64 (bt y1 y3)) (IntKind.wrap .i64 (bt y2 y3))).bind fun (r7 : Int) => some r7) (none)) (none)) (K (.p7 y1 y2 (IntKind.wrap .i64 (y3 + (1 : Int)))))) (none)) (none)) ((spec_l2CmpNum n ((ByteArray.size y1) : Int) ((ByteArray.size y2) : Int)).bind fun (r7 : Int) => some r7)
def spec_l2CmpText (n : Nat) (a0 : ByteArray) (a1 : ByteArray) : Option (Tup [(.int .i64)]) := goRec spec_l2CmpText.step n (.p0 a0 a1)
def spec_l2CmpText.spec : Ctr := ⟨79, [.v .str, .v .str], [(.int .i64)], [], none, fun n x => spec_l2CmpText n x.1 x.2.1⟩
theorem spec_l2CmpText.seg_eq : SegEq ty gl spec_l2CmpText.F spec_l2CmpText.md spec_l2CmpText.T spec_l2CmpText.spec spec_l2CmpText.lb spec_l2CmpText.st spec_l2CmpText.step := by
  intro n goto y; cases y <;> kernel_rfl
theorem spec_l2CmpText.text : Text Go.Proofs.Tryd.prog spec_l2CmpText.F spec_l2CmpText.spec := textOf Go.Proofs.Tryd.f79
theorem spec_l2CmpText.ok : CtrOK Go.Proofs.Tryd.prog gl spec_l2CmpText.spec :=
  ctr_okS tabs spec_l2CmpText.text spec_l2CmpText.seg_eq (fun n x => ⟨.p0 x.1 x.2.1, rfl, rfl, rfl⟩) (consC spec_l2CmpNum.ok (nilC))

/-! loop.example/g00039/spec.GoodLabels -/
def spec_GoodLabels.T : List Ctr := [spec_l2Name.spec, spec_l2Value.spec, spec_l2CmpText.spec]
def spec_GoodLabels.md : List (Nat × List Md) := []
noncomputable def spec_GoodLabels.F : Fun := ⟨(Go.Proofs.Tryd.f50.body).getD .skip, [.v (.sl false (.pair .str (.pair .str .unit)))], [(.tmp 2, .bool)], [], 0, [(15, ⟨[0, 8, 9, 10], [(8, (.pair .str (.pair .str .unit)))], [], false⟩), (26, ⟨[0, 8, 9, 10, 40], [(8, (.pair .str (.pair .str .unit)))], [], false⟩)]⟩
inductive spec_GoodLabels.Pt where
  | p0 (a0 : List ((ByteArray) × ((ByteArray) × (Unit))))
  | p15 (y1 : List ((ByteArray) × ((ByteArray) × (Unit)))) (y2 : List ((ByteArray) × ((ByteArray) × (Unit)))) (y3 : Int) (y4 : Int)
  | p26 (y1 : List ((ByteArray) × ((ByteArray) × (Unit)))) (y2 : List ((ByteArray) × ((ByteArray) × (Unit)))) (y3 : Int) (y4 : Int) (y5 : Bool)
def spec_GoodLabels.lb : spec_GoodLabels.Pt → Nat
  | .p0 _ => 0
  | .p15 _ _ _ _ => 15
  | .p26 _ _ _ _ _ => 26
def spec_GoodLabels.st : spec_GoodLabels.Pt → St
  | .p0 a0 => enter [.v (.sl false (.pair .str (.pair .str .unit))) a0] 0
  | .p15 y1 y2 y3 y4 => ⟨[(0, .im (.sl false (.pair .str (.pair .str .unit))) y1), (8, .im (.sl false (.pair .str (.pair .str .unit))) y2), (9, .im (.int .i64) y3), (10, .im (.int .i64) y4)], [], 0⟩
  | .p26 y1 y2 y3 y4 y5 => ⟨[(0, .im (.sl false (.pair .str (.pair .str .unit))) y1), (8, .im (.sl false (.pair .str (.pair .str .unit))) y2), (9, .im (.int .i64) y3), (10, .im (.int .i64) y4), (40, .im .bool y5)], [], 0⟩
def spec_GoodLabels.step (n : Nat) (K : spec_GoodLabels.Pt → Option (Tup [.bool])) : spec_GoodLabels.Pt → Option (Tup [.bool])
  | .p0 a0 => cond (decide ((20 : Int) < ((List.length a0) : Int))) (some false) (K (.p15 a0 a0 ((List.length a0) : Int) (0 : Int)))
  | .p15 y1 y2 y3 y4 => cond (decide (y4 < y3)) (cond (inB y4 (List.length y2)) ((spec_l2Name n (List.getD y2 (Int.toNat y4) default).1).bind fun r7 => cond (!r7) (K (.p26 y1 y2 y3 y4 true)) ((spec_l2Value n (List.getD y2 (Int.toNat y4) default).2.1).bind fun r8 => cond (!r8) (K (.p26 y1 y2 y3 y4 true)) (cond (decide ((0 : Int) < y4)) (cond (inB (IntKind.wrap .i64 (y4 - (1 : Int))) (List.length y1)) ((spec_l2CmpText n (List.getD y1 (Int.toNat (IntKind.wrap .i64 (y4 - (1 : Int)))) default).1 (List.getD y2 (Int.toNat y4) default).1).bind fun (r9 : Int) => K (.p26 y1 y2 y3 y4 (decide ((0 : Int) ≤ r9)))) (none)) (K (.p26 y1 y2 y3 y4 false))))) (none)) (some true)
  | .p26 y1 y2 y3 y4 y5 => cond y5 (some false) (K (.p15 y1 y2 y3 (IntKind.wrap .i64 (y4 + (1 : Int)))))
def spec_GoodLabels (n : Nat) (a0 : List ((ByteArray) × ((ByteArray) × (Unit)))) : Option (Tup [.bool]) := goRec spec_GoodLabels.step n (.p0 a0)
def spec_GoodLabels.spec : Ctr := ⟨50, [.v (.sl false (.pair .str (.pair .str .unit)))], [.bool], [], none, fun n x => spec_GoodLabels n x.1⟩
theorem spec_GoodLabels.seg_eq : SegEq ty gl spec_GoodLabels.F spec_GoodLabels.md spec_GoodLabels.T spec_GoodLabels.spec spec_GoodLabels.lb spec_GoodLabels.st spec_GoodLabels.step := by
  intro n goto y; cases y <;> kernel_rfl
theorem spec_GoodLabels.text : Text Go.Proofs.Tryd.prog spec_GoodLabels.F spec_GoodLabels.spec := textOf Go.Proofs.Tryd.f50
theorem spec_GoodLabels.ok : CtrOK Go.Proofs.Tryd.prog gl spec_GoodLabels.spec :=
  ctr_okS tabs spec_GoodLabels.text spec_GoodLabels.seg_eq (fun n x => ⟨.p0 x.1, rfl, rfl, rfl⟩) (consC spec_l2Name.ok (consC spec_l2Value.ok (consC spec_l2CmpText.ok (nilC))))

/-! loop.example/g00039/spec.l2Num -/
def spec_l2Num.T : List Ctr := []
def spec_l2Num.md : List (Nat × List Md) := []
noncomputable def spec_l2Num.F : Fun := ⟨(Go.Proofs.Tryd.f80.body).getD .skip, [.v (.int .i64)], [(.tmp 2, .str)], [], 0, [(17, ⟨[0, 3, 4], [], [], false⟩)]⟩
inductive spec_l2Num.Pt where
  | p0 (a0 : Int)
  | p17 (y1 : Int) (y2 : ByteArray) (y3 : Bool)
def spec_l2Num.lb : spec_l2Num.Pt → Nat
  | .p0 _ => 0
  | .p17 _ _ _ => 17
def spec_l2Num.st : spec_l2Num.Pt → St
  | .p0 a0 => enter [.v (.int .i64) a0] 0
  | .p17 y1 y2 y3 => ⟨[(0, .im (.int .i64) y1), (3, .im .str y2), (4, .im .bool y3)], [], 0⟩
def spec_l2Num.step (n : Nat) (K : spec_l2Num.Pt → Option (Tup [.str])) : spec_l2Num.Pt → Option (Tup [.str])
  | .p0 a0 => cond (decide (a0 = (0 : Int))) (some (⟨#[48]⟩ : ByteArray)) (K (.p17 a0 (⟨#[]⟩ : ByteArray) (decide (a0 < (0 : Int)))))
  | .p17 y1 y2 y3 => cond (!(decide (y1 = (0 : Int)))) (cond (decide ((Int.tmod y1 (10 : Int)) < (0 : Int))) (cond (room ((ByteArray.size (ofOcts [(IntKind.wrap .u8 (IntKind.wrap .i64 ((48 : Int) + (IntKind.wrap .i64 ((0 : Int) - (Int.tmod y1 (10 : Int)))))))])) + (ByteArray.size y2))) (K (.p17 (IntKind.wrap .i64 (Int.tdiv y1 (10 : Int))) ((ofOcts [(IntKind.wrap .u8 (IntKind.wrap .i64 ((48 : Int) + (IntKind.wrap .i64 ((0 : Int) - (Int.tmod y1 (10 : Int)))))))]) ++ y2) y3)) (none)) (cond (room ((ByteArray.size (ofOcts [(IntKind.wrap .u8 (IntKind.wrap .i64 ((48 : Int) + (Int.tmod y1 (10 : Int)))))])) + (ByteArray.size y2))) (K (.p17 (IntKind.wrap .i64 (Int.tdiv y1 (10 : Int))) ((ofOcts [(IntKind.wrap .u8 (IntKind.wrap .i64 ((48 : Int) + (Int.tmod y1 (10 : Int)))))]) ++ y2) y3)) (none))) (cond y3 (cond (room ((ByteArray.size (⟨#[45]⟩ : ByteArray)) + (ByteArray.size y2))) (some ((⟨#[45]⟩ : ByteArray) ++ y2)) (none)) (some y2))
def spec_l2Num (n : Nat) (a0 : Int) : Option (Tup [.str]) := goRec spec_l2Num.step n (.p0 a0)
def spec_l2Num.spec : Ctr := ⟨80, [.v (.int .i64)], [.str], [], none, fun n x => spec_l2Num n x.1⟩
theorem spec_l2Num.seg_eq : SegEq ty gl spec_l2Num.F spec_l2Num.md spec_l2Num.T spec_l2Num.spec spec_l2Num.lb spec_l2Num.st spec_l2Num.step := by
  intro n goto y; cases y <;> kernel_rfl
theorem spec_l2Num.text : Text Go.Proofs.Tryd.prog spec_l2Num.F spec_l2Num.spec := textOf Go.Proofs.Tryd.f80
theorem spec_l2Num.ok : CtrOK Go.Proofs.Tryd.prog gl spec_l2Num.spec :=
  ctr_okS tabs spec_l2Num.text spec_l2Num.seg_eq (fun n x => ⟨.p0 x.1, rfl, rfl, rfl⟩) (nilC)

/-! loop.example/g00039/spec.l2Of -/
def spec_l2Of.T : List Ctr := []
def spec_l2Of.md : List (Nat × List Md) := []
noncomputable def spec_l2Of.F : Fun := ⟨(Go.Proofs.Tryd.f81.body).getD .skip, [.v (.sl false (.pair .str (.pair .str .unit))), .v .str], [(.tmp 4, .str)], [], 0, [(7, ⟨[1, 7, 8, 9], [(7, (.pair .str (.pair .str .unit)))], [], false⟩)]⟩
inductive spec_l2Of.Pt where
  | p0 (a0 : List ((ByteArray) × ((ByteArray) × (Unit)))) (a1 : ByteArray)
  | p7 (y1 : ByteArray) (y2 : List ((ByteArray) × ((ByteArray) × (Unit)))) (y3 : Int) (y4 : Int)
def spec_l2Of.lb : spec_l2Of.Pt → Nat
  | .p0 _ _ => 0
  | .p7 _ _ _ _ => 7
def spec_l2Of.st : spec_l2Of.Pt → St
  | .p0 a0 a1 => enter [.v (.sl false (.pair .str (.pair .str .unit))) a0, .v .str a1] 0
  | .p7 y1 y2 y3 y4 => ⟨[(1, .im .str y1), (7, .im (.sl false (.pair .str (.pair .str .unit))) y2), (8, .im (.int .i64) y3), (9, .im (.int .i64) y4)], [], 0⟩
def spec_l2Of.step (n : Nat) (K : spec_l2Of.Pt → Option (Tup [.str])) : spec_l2Of.Pt → Option (Tup [.str])
  | .p0 a0 a1 => K (.p7 a1 a0 ((List.length a0) : Int) (0 : Int))
  | .p7 y1 y2 y3 y4 => cond (decide (y4 < y3)) (cond (inB y4 (List.length y2)) (cond (seq (List.getD y2 (Int.toNat y4) default).1 y1) (some (List.getD y2 (Int.toNat y4) default).2.1) (K (.p7 y1 y2 y3 (IntKind.wrap .i64 (y4 + (1 : Int)))))) (none)) (some (⟨#[]⟩ : ByteArray))
def spec_l2Of (n : Nat) (a0 : List ((ByteArray) × ((ByteArray) × (Unit)))) (a1 : ByteArray) : Option (Tup [.str]) := goRec spec_l2Of.step n (.p0 a0 a1)
def spec_l2Of.spec : Ctr := ⟨81, [.v (.sl false (.pair .str (.pair .str .unit))), .v .str], [.str], [], none, fun n x => spec_l2Of n x.1 x.2.1⟩
theorem spec_l2Of.seg_eq : SegEq ty gl spec_l2Of.F spec_l2Of.md spec_l2Of.T spec_l2Of.spec spec_l2Of.lb spec_l2Of.st spec_l2Of.step := by
  intro n goto y; cases y <;> kernel_rfl
theorem spec_l2Of.text : Text Go.Proofs.Tryd.prog spec_l2Of.F spec_l2Of.spec := textOf Go.Proofs.Tryd.f81
theorem spec_l2Of.ok : CtrOK Go.Proofs.Tryd.prog gl spec_l2Of.spec :=
  ctr_okS tabs spec_l2Of.text spec_l2Of.seg_eq (fun n x => ⟨.p0 x.1 x.2.1, rfl, rfl, rfl⟩) (nilC)

/-! loop.example/g00039/spec.l18Fill -/
def spec_l18Fill.T : List Ctr := [spec_l18Parts.spec, spec_l2Num.spec, spec_l2Of.spec]
def spec_l18Fill.md : List (Nat × List Md) := []
noncomputable def spec_l18Fill.F : Fun := ⟨(Go.Proofs.Tryd.f51.body).getD .skip, [.v .str, .v (.sl false (.pair .str (.pair .str .unit))), .v (.int .i64)], [(.tmp 6, .str)], [], 0, [(11, ⟨[1, 2, 8, 10, 19, 20, 21], [(8, .bool), (19, .str)], [], false⟩)]⟩
inductive spec_l18Fill.Pt where
  | p0 (a0 : ByteArray) (a1 : List ((ByteArray) × ((ByteArray) × (Unit)))) (a2 : Int)
  | p11 (y1 : List ((ByteArray) × ((ByteArray) × (Unit)))) (y2 : Int) (y3 : ByteArray) (y4 : Int) (y5 : Int) (y6 : List (Bool)) (y7 : List (ByteArray))
def spec_l18Fill.lb : spec_l18Fill.Pt → Nat
  | .p0 _ _ _ => 0
  | .p11 _ _ _ _ _ _ _ => 11
def spec_l18Fill.st : spec_l18Fill.Pt → St
  | .p0 a0 a1 a2 => enter [.v .str a0, .v (.sl false (.pair .str (.pair .str .unit))) a1, .v (.int .i64) a2] 0
  | .p11 y1 y2 y3 y4 y5 y6 y7 => ⟨[(1, .im (.sl false (.pair .str (.pair .str .unit))) y1), (2, .im (.int .i64) y2), (8, .hs 0 [] none 0), (10, .im .str y3), (19, .hs 1 [] none 0), (20, .im (.int .i64) y4), (21, .im (.int .i64) y5)], [(0, .arr false .bool y6 0), (1, .arr false .str y7 0)], 2⟩
def spec_l18Fill.step (n : Nat) (K : spec_l18Fill.Pt → Option (Tup [.str])) : spec_l18Fill.Pt → Option (Tup [.str])
  | .p0 a0 a1 a2 => (spec_l18Parts n a0).bind fun r6 => K (.p11 a1 a2 (⟨#[]⟩ : ByteArray) ((List.length r6.1) : Int) (0 : Int) r6.2.1 r6.1)
  | .p11 y1 y2 y3 y4 y5 y6 y7 => cond (decide (y5 < y4)) (cond (inB y5 (List.length y7)) (cond (inB y5 (List.length y6)) (cond (!(List.getD y6 (0 + (Int.toNat y5)) default)) (cond (room ((ByteArray.size y3) + (ByteArray.size (List.getD y7 (0 + (Int.toNat y5)) default)))) (K (.p11 y1 y2 (y3 ++ (List.getD y7 (0 + (Int.toNat y5)) default)) y4 (IntKind.wrap .i64 (y5 + (1 : Int))) y6 y7)) (none)) (cond (seq (List.getD y7 (0 + (Int.toNat y5)) default) (⟨#[118, 97, 108, 117, 101]⟩ : ByteArray)) ((spec_l2Num n y2).bind fun r10 => cond (room ((ByteArray.size y3) + (ByteArray.size r10))) (K (.p11 y1 y2 (y3 ++ r10) y4 (IntKind.wrap .i64 (y5 + (1 : Int))) y6 y7)) (none)) ((spec_l2Of n y1 (List.getD y7 (0 + (Int.toNat y5)) default)).bind fun r10 => cond (room ((ByteArray.size y3) + (ByteArray.size r10))) (K (.p11 y1 y2 (y3 ++ r10) y4 (IntKind.wrap .i64 (y5 + (1 : Int))) y6 y7)) (none)))) (none)) (none)) (some y3)
def spec_l18Fill (n : Nat) (a0 : ByteArray) (a1 : List ((ByteArray) × ((ByteArray) × (Unit)))) (a2 : Int) : Option (Tup [.str]) := goRec spec_l18Fill.step n (.p0 a0 a1 a2)
def spec_l18Fill.spec : Ctr := ⟨51, [.v .str, .v (.sl false (.pair .str (.pair .str .unit))), .v (.int .i64)], [.str], [], none, fun n x => spec_l18Fill n x.1 x.2.1 x.2.2.1⟩
theorem spec_l18Fill.seg_eq : SegEq ty gl spec_l18Fill.F spec_l18Fill.md spec_l18Fill.T spec_l18Fill.spec spec_l18Fill.lb spec_l18Fill.st spec_l18Fill.step := by
  intro n goto y; cases y <;> kernel_rfl
theorem spec_l18Fill.text : Text Go.Proofs.Tryd.prog spec_l18Fill.F spec_l18Fill.spec := textOf Go.Proofs.Tryd.f51
theorem spec_l18Fill.ok : CtrOK Go.Proofs.Tryd.prog gl spec_l18Fill.spec :=
  ctr_okS tabs spec_l18Fill.text spec_l18Fill.seg_eq (fun n x => ⟨.p0 x.1 x.2.1 x.2.2.1, rfl, rfl, rfl⟩) (consC spec_l18Parts.ok (consC spec_l2Num.ok (consC spec_l2Of.ok (nilC))))

/-! loop.example/g00039/spec.FillTemplate -/
def spec_FillTemplate.T : List Ctr := [spec_GoodTemplate.spec, spec_GoodLabels.spec, spec_l18Fill.spec]
def spec_FillTemplate.md : List (Nat × List Md) := []
noncomputable def spec_FillTemplate.F : Fun := ⟨(Go.Proofs.Tryd.f23.body).getD .skip, [.v .str, .v (.sl false (.pair .str (.pair .str .unit))), .v (.int .i64)], [(.tmp 6, .str)], [], 0, []⟩
inductive spec_FillTemplate.Pt where
  | p0 (a0 : ByteArray) (a1 : List ((ByteArray) × ((ByteArray) × (Unit)))) (a2 : Int)
def spec_FillTemplate.lb : spec_FillTemplate.Pt → Nat
  | .p0 _ _ _ => 0
def spec_FillTemplate.st : spec_FillTemplate.Pt → St
  | .p0 a0 a1 a2 => enter [.v .str a0, .v (.sl false (.pair .str (.pair .str .unit))) a1, .v (.int .i64) a2] 0
def spec_FillTemplate.step (n : Nat) (K : spec_FillTemplate.Pt → Option (Tup [.str])) : spec_FillTemplate.Pt → Option (Tup [.str])
  | .p0 a0 a1 a2 => (spec_GoodTemplate n a0).bind fun r6 => cond (!r6) (some (⟨#[]⟩ : ByteArray)) ((spec_GoodLabels n a1).bind fun r7 => cond (!r7) (some (⟨#[]⟩ : ByteArray)) ((spec_l18Fill n a0 a1 a2).bind fun r8 => some r8))
def spec_FillTemplate (n : Nat) (a0 : ByteArray) (a1 : List ((ByteArray) × ((ByteArray) × (Unit)))) (a2 : Int) : Option (Tup [.str]) := goRec spec_FillTemplate.step n (.p0 a0 a1 a2)
def spec_FillTemplate.spec : Ctr := ⟨23, [.v .str, .v (.sl false (.pair .str (.pair .str .unit))), .v (.int .i64)], [.str], [], none, fun n x => spec_FillTemplate n x.1 x.2.1 x.2.2.1⟩
theorem spec_FillTemplate.seg_eq : SegEq ty gl spec_FillTemplate.F spec_FillTemplate.md spec_FillTemplate.T spec_FillTemplate.spec spec_FillTemplate.lb spec_FillTemplate.st spec_FillTemplate.step := by
  intro n goto y; cases y <;> kernel_rfl
theorem spec_FillTemplate.text : Text Go.Proofs.Tryd.prog spec_FillTemplate.F spec_FillTemplate.spec := textOf Go.Proofs.Tryd.f23
theorem spec_FillTemplate.ok : CtrOK Go.Proofs.Tryd.prog gl spec_FillTemplate.spec :=
  ctr_okS tabs spec_FillTemplate.text spec_FillTemplate.seg_eq (fun n x => ⟨.p0 x.1 x.2.1 x.2.2.1, rfl, rfl, rfl⟩) (consC spec_GoodTemplate.ok (consC spec_GoodLabels.ok (consC spec_l18Fill.ok (nilC))))

/-! strings.Builder -/
section
open Go.Proofs Go.RowKit
theorem bld.size : (Tryd.prog.info? 72).map (·.size) = some 2 := by kernel_rfl
theorem bld.lies : liesAt Tryd.prog Tryd.prog.depth 72 (2 / Tryd.prog.cellsOf 72) 0 72 1 = true := by kernel_rfl
theorem bld.used (b : Nat) (w : World) (h0 : w.cell? ⟨b, 0, none⟩ = some (.pointer (some ⟨b, 0, none⟩))) :
    Calls Tryd.prog 86 #[.pointer (some ⟨b, 0, none⟩)] w fun e w' => e = .returned (.tuple #[]) ∧ w' = w := by
  obtain ⟨j, hj, hjs⟩ := Option.map_eq_some_iff.1 bld.size
  go_enter Tryd.func86, Tryd.ntmps86
  go_wp2
  rw [Lib.run_neq_ptr_same (te := 72) w _ (by kernel_rfl) hj]
  go_wp2
  go_end0
  exact ⟨rfl, rfl⟩
theorem bld.fresh (b : Nat) (w : World) (h0 : w.cell? ⟨b, 0, none⟩ = some (.pointer none)) (hsh : w.shape? b = some (72, 2)) (hfz : w.frozen? ⟨b, 0, none⟩ = false) :
    Calls Tryd.prog 86 #[.pointer (some ⟨b, 0, none⟩)] w fun e w' => e = .returned (.tuple #[]) ∧ w' = w.setCell ⟨b, 0, none⟩ (.pointer (some ⟨b, 0, none⟩)) := by
  obtain ⟨j, hj, hjs⟩ := Option.map_eq_some_iff.1 bld.size
  go_enter Tryd.func86, Tryd.ntmps86
  go_wp2
  rw [Lib.run_to_unsafe w ⟨b, 0, none⟩ (t := 72) (by kernel_rfl) (by kernel_rfl) hj (by rw [hjs]; decide) hsh (Nat.zero_lt_succ 1)]
  simp only [Result.andThen]
  rw [Oper.upon_value]
  go_wp2
  rw [run_callFunc_extern (fn := Tryd.f99) (f := 99) (by kernel_rfl) (by kernel_rfl) (by kernel_rfl) (by kernel_rfl) (e := Extern.AbiNoEscape.same) (by kernel_rfl)]
  rw [Lib.run_noEscape]
  simp only [Result.andThen]
  rw [Oper.upon_value]
  go_wp2
  rw [Lib.run_from_unsafe w ⟨b, 0, none⟩ (u := 72) (by kernel_rfl) (by kernel_rfl) hj hsh bld.lies]
  simp only [Result.andThen]
  rw [Oper.upon_value]
  go_wp2
  go_end0
  exact ⟨rfl, rfl⟩
theorem bld.byte : (Tryd.prog.info? 5).map (fun i => (i.zero, i.size, i.bytes)) = some (some (.int .u8 0), 1, 1) := by kernel_rfl
theorem bld.cc {W : World} {b : Nat} {l : List Int} {F : List Nat} (h : BldAt W 72 5 b l F) :
    Calls Tryd.prog 86 #[.pointer (some ⟨b, 0, none⟩)] W fun e w' => e = .returned (.tuple #[]) ∧ ∃ v, Bld1 W w' 72 5 b l.length l F v := by
  obtain ⟨p, v, hb, hp, how, hF, hbF⟩ := h
  rcases hp with rfl | rfl
  · refine (bld.fresh b W (by simp [World.cell?, hb]) (by simp [World.shape?, hb]) (by simp [World.frozen?, hb])).mono ?_
    rintro e w' ⟨rfl, rfl⟩
    exact ⟨rfl, v, bld_fresh hb how hF hbF⟩
  · refine (bld.used b W (by simp [World.cell?, hb])).mono ?_
    rintro e w' ⟨rfl, rfl⟩
    exact ⟨rfl, v, bld_used hb how hF hbF⟩
set_option maxHeartbeats 2000000 in
theorem bld.wb : BldOK Tryd.prog 72 5 55 0 := by
  refine ⟨⟨_, Tryd.func55, rfl, by decide⟩, ?_⟩
  intro c W b l F hbld hroom
  obtain ⟨i0, hi, hz0, hz1, hz2⟩ := info_parts bld.byte
  have ecc : ∀ args w, (callFunc 86 args).run Tryd.prog w = .ok (.enter 86 args) w := enters_of Tryd.func86 (by kernel_rfl) rfl
  go_enter Tryd.func55, Tryd.ntmps55
  go_wp2_with (go_at_fn 86; refine (bld.cc hbld).mono ?_)
  rintro e w1 ⟨rfl, v, h1⟩
  have hbk := h1.1
  have how := h1.2.1
  have hF := h1.2.2.1
  have hbF := h1.2.2.2.1
  have hlt := lt_of_heap hbk
  have c0 : w1.cell? ⟨b, 0, none⟩ = some (.pointer (some ⟨b, 0, none⟩)) := by rw [Lib.cell_of_heap hbk]; rfl
  have c1 : w1.cell? ⟨b, 1, none⟩ = some v := by rw [Lib.cell_of_heap hbk]; rfl
  obtain ⟨v', w2, hr, how2, hgr, hnw⟩ := app_slice (P := Tryd.prog) (w1.alloc (.cells #[.int .u8 c] 5)) 22 22 5 i0 (by kernel_rfl) hi hz0 hz1 hz2 v l.length _ (how.alloc _) ⟨w1.heap.size, 0, none⟩ 1 (.int .u8 c) (by rw [Lib.cell_of_heap (heap_alloc_new w1 _)]; rfl) rfl (by simpa using hroom)
  have hb2 : w2.heap[b]? = some (.cells #[.pointer (some ⟨b, 0, none⟩), v] 72 (0, 0)) := by
    rw [hgr.block b (by simp; omega) (fun e => hbF (by rw [hF, ← e]; simp)), Lib.alloc_old w1 _ b hlt]
    exact hbk
  have d0 : w2.cell? ⟨b, 0, none⟩ = some (.pointer (some ⟨b, 0, none⟩)) := by rw [Lib.cell_of_heap hb2]; rfl
  have d1 : w2.cell? ⟨b, 1, none⟩ = some v := by rw [Lib.cell_of_heap hb2]; rfl
  have f1 : w2.frozen? ⟨b, 1, none⟩ = false := Lib.frozen_of_heap hb2 1
  have hgr1 : w1.grownBy w2 v.ownBlock := ⟨hgr.os, hgr.tape, hgr.output, by have := hgr.size; simp at this; omega, fun k hk hne => (hgr.block k (by simp; omega) hne).trans (Lib.alloc_old w1 _ k hk)⟩
  have hfin := bld_done (m := [c]) (by decide) h1 hb2 how2 hgr1 (fun g hg hlt => hnw g hg (by simp; omega))
  obtain ⟨ao, n', cap, rfl⟩ : ∃ ao n' cap, v' = .slice ao n' cap := by
    rcases how2.2 with ⟨hv, _⟩ | ⟨g, cap, cur, hv, _⟩
    · exact ⟨_, _, _, hv⟩
    · exact ⟨_, _, _, hv⟩
  clear h1 hF hbF hgr hgr1 hnw how2 how
  go_wp2_with (at_builtin; refine wpList_app hr (.tmp 11) (.tmp 13) rfl rfl rfl rfl rfl ?_)
  go_ret
  obtain ⟨F', g1, g2, g3⟩ := hfin
  exact ⟨_, F', rfl, g1, g2, g3⟩
set_option maxHeartbeats 2000000 in
theorem bld.ws : BldOK Tryd.prog 72 5 57 1 := by
  refine ⟨⟨_, Tryd.func57, rfl, by decide⟩, ?_⟩
  intro s W b l F hbld hroom
  obtain ⟨i0, hi, hz0, hz1, hz2⟩ := info_parts bld.byte
  have ecc : ∀ args w, (callFunc 86 args).run Tryd.prog w = .ok (.enter 86 args) w := enters_of Tryd.func86 (by kernel_rfl) rfl
  go_enter Tryd.func57, Tryd.ntmps57
  go_wp2_with (go_at_fn 86; refine (bld.cc hbld).mono ?_)
  rintro e w1 ⟨rfl, v, h1⟩
  have hbk := h1.1
  have how := h1.2.1
  have hF := h1.2.2.1
  have hbF := h1.2.2.2.1
  have hlt := lt_of_heap hbk
  have c0 : w1.cell? ⟨b, 0, none⟩ = some (.pointer (some ⟨b, 0, none⟩)) := by rw [Lib.cell_of_heap hbk]; rfl
  have c1 : w1.cell? ⟨b, 1, none⟩ = some v := by rw [Lib.cell_of_heap hbk]; rfl
  obtain ⟨v', w2, hr, how2, hgr, hnw⟩ := app_str (P := Tryd.prog) w1 22 9 22 5 i0 (by kernel_rfl) (by kernel_rfl) hi hz0 hz1 hz2 v l.length _ how s (by simpa [octs_lenB] using hroom)
  have hb2 : w2.heap[b]? = some (.cells #[.pointer (some ⟨b, 0, none⟩), v] 72 (0, 0)) := by
    rw [hgr.block b hlt (fun e => hbF (by rw [hF, ← e]; simp))]
    exact hbk
  have d0 : w2.cell? ⟨b, 0, none⟩ = some (.pointer (some ⟨b, 0, none⟩)) := by rw [Lib.cell_of_heap hb2]; rfl
  have d1 : w2.cell? ⟨b, 1, none⟩ = some v := by rw [Lib.cell_of_heap hb2]; rfl
  have f1 : w2.frozen? ⟨b, 1, none⟩ = false := Lib.frozen_of_heap hb2 1
  have hfin := bld_done (m := octs s) (by decide) h1 hb2 (by rw [octs_cells, octs_lenB]; exact how2) hgr hnw
  obtain ⟨ao, n', cap, rfl⟩ : ∃ ao n' cap, v' = .slice ao n' cap := by
    rcases how2.2 with ⟨hv, _⟩ | ⟨g, cap, cur, hv, _⟩
    · exact ⟨_, _, _, hv⟩
    · exact ⟨_, _, _, hv⟩
  clear h1 hF hbF hgr hnw how2 how
  go_wp2_with (at_builtin; refine wpList_app hr (.tmp 12) (.tmp 13) rfl rfl rfl rfl rfl ?_)
  go_ret2
  obtain ⟨F', g1, g2, g3⟩ := hfin
  exact ⟨_, F', rfl, g1, g2, g3⟩
set_option maxHeartbeats 2000000 in
theorem bld.st : BldOK Tryd.prog 72 5 60 2 := by
  refine ⟨⟨_, Tryd.func60, rfl, by decide⟩, ?_⟩
  intro W b l F hbld hroom
  obtain ⟨p, v, hb, hp, how, hF, hbF⟩ := hbld
  have hfr0 : BldFr W W.drew (b :: F) := ⟨rfl, rfl, rfl, Nat.le_refl _, fun _ _ _ => rfl⟩
  rcases how.2 with ⟨rfl, hl⟩ | ⟨g, cap, cur, rfl, _, hg, hnc, hcm, hcs, htake⟩
  · have hl : l = [] := List.eq_nil_of_length_eq_zero hl
    subst hl
    have c1 : W.drew.cell? ⟨b, 1, none⟩ = some (.slice none 0 0) := by
      have : W.drew.heap[b]? = _ := hb
      rw [Lib.cell_of_heap this]; rfl
    have hUS := fun q => Lib.run_unsafeString_none (P := Tryd.prog) W.drew 107 3 9 q
    have hSD : (Builtin.unsafeSliceData_ #[22] 107 #[.slice none 0 0]).run Tryd.prog W.drew = .ok (.pointer none) W.drew := rfl
    clear hF hbF how hp
    have mixed : Tryd.prog.follows .mixedOrders = true := by kernel_rfl
    go_enter Tryd.func60, Tryd.ntmps60
    go_wp2
    go_region_o
    all_goals (go_wp2; go_ret; exact ⟨rfl, hfr0⟩)
  · have hgF : g ∈ F := by rw [hF]; simp [Value.ownBlock]
    by_cases hl0 : l = []
    · subst hl0
      by_cases hc0 : cap = 0
      · subst hc0
        have hlt := lt_of_heap hb
        have hUS := fun q (W' : World) => Lib.run_unsafeString_none (P := Tryd.prog) W' 107 3 9 q
        have c1 : W.drew.cell? ⟨b, 1, none⟩ = some (.slice (some ⟨g, 0, none⟩) 0 0) := by
          have : W.drew.heap[b]? = _ := hb
          rw [Lib.cell_of_heap this]; rfl
        have hSD : (Builtin.unsafeSliceData_ #[22] 107 #[.slice (some ⟨g, 0, none⟩) 0 0]).run Tryd.prog W.drew = .ok (.pointer (some ⟨W.drew.heap.size, 0, none⟩)) (W.drew.alloc (.view ⟨g, 0, none⟩ 5)) :=
          Lib.run_unsafeSliceData_zero W.drew _ _ 5 (by kernel_rfl) ⟨g, 0, none⟩ 0 (5, cur.size) (by have hg' : W.drew.heap[g]? = some (.cells cur 5 (0, 0)) := hg; simp [World.shape?, hg'])
        have c2 : (W.drew.alloc (.view ⟨g, 0, none⟩ 5)).cell? ⟨b, 1, none⟩ = some (.slice (some ⟨g, 0, none⟩) 0 0) := by
          have : (W.drew.alloc (.view ⟨g, 0, none⟩ 5)).heap[b]? = _ := (Lib.alloc_old W.drew _ b hlt).trans hb
          rw [Lib.cell_of_heap this]; rfl
        have c3 : (W.alloc (.view ⟨g, 0, none⟩ 5)).drew.cell? ⟨b, 1, none⟩ = some (.slice (some ⟨g, 0, none⟩) 0 0) := c2
        have c0 : W.cell? ⟨b, 1, none⟩ = some (.slice (some ⟨g, 0, none⟩) 0 0) := c1
        have hfr1 : BldFr W (W.drew.alloc (.view ⟨g, 0, none⟩ 5)) (b :: F) := ⟨rfl, rfl, rfl, by rw [alloc_sz]; exact Nat.le_succ _, fun k hk _ => alloc_old W.drew _ hk⟩
        clear hF hbF how hp hg htake hcs hcm hnc hgF
        have mixed : Tryd.prog.follows .mixedOrders = true := by kernel_rfl
        go_enter Tryd.func60, Tryd.ntmps60
        go_wp2
        go_region_o
        all_goals (go_wp2; go_ret; exact ⟨rfl, hfr1⟩)
      · have c1 : W.drew.cell? ⟨b, 1, none⟩ = some (.slice (some ⟨g, 0, none⟩) 0 cap) := by
          have : W.drew.heap[b]? = _ := hb
          rw [Lib.cell_of_heap this]; rfl
        have hUS := fun q => Lib.run_unsafeString_none (P := Tryd.prog) W.drew 107 3 9 q
        have hSD : (Builtin.unsafeSliceData_ #[22] 107 #[.slice (some ⟨g, 0, none⟩) 0 cap]).run Tryd.prog W.drew = .ok (.pointer (some ⟨g, 0, none⟩)) W.drew := Lib.run_unsafeSliceData_row _ _ _ _ _ _ hc0
        clear hF hbF how hp hg htake hcs hcm hnc hgF hc0
        have mixed : Tryd.prog.follows .mixedOrders = true := by kernel_rfl
        go_enter Tryd.func60, Tryd.ntmps60
        go_wp2
        go_region_o
        all_goals (go_wp2; go_ret; exact ⟨rfl, hfr0⟩)
    · have hl1 : l.length ≠ 0 := by simpa using hl0
      have c1 : W.drew.cell? ⟨b, 1, none⟩ = some (.slice (some ⟨g, 0, none⟩) l.length cap) := by
        have : W.drew.heap[b]? = _ := hb
        rw [Lib.cell_of_heap this]; rfl
      have hSD : (Builtin.unsafeSliceData_ #[22] 107 #[.slice (some ⟨g, 0, none⟩) l.length cap]).run Tryd.prog W.drew = .ok (.pointer (some ⟨g, 0, none⟩)) W.drew := Lib.run_unsafeSliceData_row _ _ _ _ _ _ (by omega)
      have hUS : (Builtin.unsafeString_ #[107, 3] 9 #[.pointer (some ⟨g, 0, none⟩), .int .i64 l.length]).run Tryd.prog W.drew = .ok (.string (ofOcts l)) (W.drew.freeze ⟨g, 0, none⟩ l.length) := by
        refine run_unsafeString_rowI W.drew 107 3 9 5 (by kernel_rfl) (by kernel_rfl) g cur.size (by have hg' : W.drew.heap[g]? = some (.cells cur 5 (0, 0)) := hg; simp [World.shape?, hg']) l hl0 (by omega) (by omega) ?_
        intro j x hx
        have := how.cells (g := g) rfl j (.int .u8 x) (by simp [hx])
        exact this
      have hfr2 := bld_frz (W := W) (b := b) (n := l.length) hgF
      clear hF hbF how hp hg htake hcs hcm hnc hgF hl1 hl0
      have mixed : Tryd.prog.follows .mixedOrders = true := by kernel_rfl
      go_enter Tryd.func60, Tryd.ntmps60
      go_wp2
      go_region_o
      all_goals (go_wp2; go_ret; exact ⟨rfl, hfr2⟩)
theorem bld.all {md : List (Nat × List Md)} (h : md.all (fun x => match x.2 with | [.bl k T t] => [(55, 0, 72, 5), (57, 1, 72, 5), (60, 2, 72, 5)].any (fun w => decide (w = (x.1, k, T, t))) | _ => true) = true) : BlsOK Tryd.prog md :=
  blsAll _ (by
    intro w hw
    simp only [List.mem_cons, List.not_mem_nil, or_false] at hw
    rcases hw with rfl | rfl | rfl
    · exact bld.wb
    · exact bld.ws
    · exact bld.st) h
end


/-! loop.example/g00039/impl.printed -/
def impl_printed.T : List Ctr := []
def impl_printed.md : List (Nat × List Md) := []
noncomputable def impl_printed.F : Fun := ⟨(Go.Proofs.Tryd.f82.body).getD .skip, [.v .str, .v (.int .i64)], [(.tmp 4, .bool)], [], 0, [(15, ⟨[0, 11, 12], [], [], false⟩)]⟩
inductive impl_printed.Pt where
  | p0 (a0 : ByteArray) (a1 : Int)
  | p15 (y1 : ByteArray) (y2 : Int) (y3 : Int)
def impl_printed.lb : impl_printed.Pt → Nat
  | .p0 _ _ => 0
  | .p15 _ _ _ => 15
def impl_printed.st : impl_printed.Pt → St
  | .p0 a0 a1 => enter [.v .str a0, .v (.int .i64) a1] 0
  | .p15 y1 y2 y3 => ⟨[(0, .im .str y1), (11, .im (.int .i64) y2), (12, .im (.int .i64) y3)], [], 0⟩
def impl_printed.step (n : Nat) (K : impl_printed.Pt → Option (Tup [.bool])) : impl_printed.Pt → Option (Tup [.bool])
  | .p0 a0 a1 => cond (decide (a1 < ((ByteArray.size a0) : Int))) (some false) (K (.p15 a0 ((ByteArray.size a0) : Int) (0 : Int)))
  | .p15 y1 y2 y3 => cond (decide (y3 < y2)) (cond (inB y3 (ByteArray.size y1)) (cond (decide ((bt y1 y3) < (32 : Int))) (some false) (cond (inB y3 (ByteArray.size y1)) (cond (decide ((126 : Int) < (bt y1 y3))) (some false) (K (.p15 y1 y2 (IntKind.wrap .i64 (y3 + (1 : Int)))))) (none))) (none)) (some true)
def impl_printed (n : Nat) (a0 : ByteArray) (a1 : Int) : Option (Tup [.bool]) := goRec impl_printed.step n (.p0 a0 a1)
def impl_printed.spec : Ctr := ⟨82, [.v .str, .v (.int .i64)], [.bool], [], none, fun n x => impl_printed n x.1 x.2.1⟩
theorem impl_printed.seg_eq : SegEq ty gl impl_printed.F impl_printed.md impl_printed.T impl_printed.spec impl_printed.lb impl_printed.st impl_printed.step := by
  intro n goto y; cases y <;> kernel_rfl
theorem impl_printed.text : Text Go.Proofs.Tryd.prog impl_printed.F impl_printed.spec := textOf Go.Proofs.Tryd.f82
theorem impl_printed.ok : CtrOK Go.Proofs.Tryd.prog gl impl_printed.spec :=
  ctr_okS tabs impl_printed.text impl_printed.seg_eq (fun n x => ⟨.p0 x.1 x.2.1, rfl, rfl, rfl⟩) (nilC)

/-! internal/stringslite.HasPrefix -/
def stringslite_HasPrefix.T : List Ctr := []
def stringslite_HasPrefix.md : List (Nat × List Md) := []
noncomputable def stringslite_HasPrefix.F : Fun := ⟨(Go.Proofs.Tryd.f97.body).getD .skip, [.v .str, .v .str], [(.tmp 4, .bool)], [], 0, []⟩
inductive stringslite_HasPrefix.Pt where
  | p0 (a0 : ByteArray) (a1 : ByteArray)
def stringslite_HasPrefix.lb : stringslite_HasPrefix.Pt → Nat
  | .p0 _ _ => 0
def stringslite_HasPrefix.st : stringslite_HasPrefix.Pt → St
  | .p0 a0 a1 => enter [.v .str a0, .v .str a1] 0
def stringslite_HasPrefix.step (n : Nat) (K : stringslite_HasPrefix.Pt → Option (Tup [.bool])) : stringslite_HasPrefix.Pt → Option (Tup [.bool])
  | .p0 a0 a1 => cond (decide (((ByteArray.size a1) : Int) ≤ ((ByteArray.size a0) : Int))) (cond (inC (0 : Int) ((ByteArray.size a1) : Int) (ByteArray.size a0)) (some (seq (ByteArray.extract a0 (Int.toNat (0 : Int)) (Int.toNat ((ByteArray.size a1) : Int))) a1)) (none)) (some false)
def stringslite_HasPrefix (n : Nat) (a0 : ByteArray) (a1 : ByteArray) : Option (Tup [.bool]) := goRec stringslite_HasPrefix.step n (.p0 a0 a1)
def stringslite_HasPrefix.spec : Ctr := ⟨97, [.v .str, .v .str], [.bool], [], none, fun n x => stringslite_HasPrefix n x.1 x.2.1⟩
theorem stringslite_HasPrefix.seg_eq : SegEq ty gl stringslite_HasPrefix.F stringslite_HasPrefix.md stringslite_HasPrefix.T stringslite_HasPrefix.spec stringslite_HasPrefix.lb stringslite_HasPrefix.st stringslite_HasPrefix.step := by
  intro n goto y; cases y <;> kernel_rfl
theorem stringslite_HasPrefix.text : Text Go.Proofs.Tryd.prog stringslite_HasPrefix.F stringslite_HasPrefix.spec := textOf Go.Proofs.Tryd.f97
theorem stringslite_HasPrefix.ok : CtrOK Go.Proofs.Tryd.prog gl stringslite_HasPrefix.spec :=
  ctr_okS tabs stringslite_HasPrefix.text stringslite_HasPrefix.seg_eq (fun n x => ⟨.p0 x.1 x.2.1, rfl, rfl, rfl⟩) (nilC)

/-! strings.HasPrefix -/
def strings_HasPrefix.T : List Ctr := [stringslite_HasPrefix.spec]
def strings_HasPrefix.md : List (Nat × List Md) := []
noncomputable def strings_HasPrefix.F : Fun := ⟨(Go.Proofs.Tryd.f83.body).getD .skip, [.v .str, .v .str], [(.tmp 4, .bool)], [], 0, []⟩
inductive strings_HasPrefix.Pt where
  | p0 (a0 : ByteArray) (a1 : ByteArray)
def strings_HasPrefix.lb : strings_HasPrefix.Pt → Nat
  | .p0 _ _ => 0
def strings_HasPrefix.st : strings_HasPrefix.Pt → St
  | .p0 a0 a1 => enter [.v .str a0, .v .str a1] 0
def strings_HasPrefix.step (n : Nat) (K : strings_HasPrefix.Pt → Option (Tup [.bool])) : strings_HasPrefix.Pt → Option (Tup [.bool])
  | .p0 a0 a1 => (stringslite_HasPrefix n a0 a1).bind fun r5 => some r5
def strings_HasPrefix (n : Nat) (a0 : ByteArray) (a1 : ByteArray) : Option (Tup [.bool]) := goRec strings_HasPrefix.step n (.p0 a0 a1)
def strings_HasPrefix.spec : Ctr := ⟨83, [.v .str, .v .str], [.bool], [], none, fun n x => strings_HasPrefix n x.1 x.2.1⟩
theorem strings_HasPrefix.seg_eq : SegEq ty gl strings_HasPrefix.F strings_HasPrefix.md strings_HasPrefix.T strings_HasPrefix.spec strings_HasPrefix.lb strings_HasPrefix.st strings_HasPrefix.step := by
  intro n goto y; cases y <;> kernel_rfl
theorem strings_HasPrefix.text : Text Go.Proofs.Tryd.prog strings_HasPrefix.F strings_HasPrefix.spec := textOf Go.Proofs.Tryd.f83
theorem strings_HasPrefix.ok : CtrOK Go.Proofs.Tryd.prog gl strings_HasPrefix.spec :=
  ctr_okS tabs strings_HasPrefix.text strings_HasPrefix.seg_eq (fun n x => ⟨.p0 x.1 x.2.1, rfl, rfl, rfl⟩) (consC stringslite_HasPrefix.ok (nilC))

/-! loop.example/g00039/impl.letterByte -/
def impl_letterByte.T : List Ctr := []
def impl_letterByte.md : List (Nat × List Md) := []
noncomputable def impl_letterByte.F : Fun := ⟨(Go.Proofs.Tryd.f100.body).getD .skip, [.v (.int .u8)], [(.tmp 2, .bool)], [], 0, []⟩
inductive impl_letterByte.Pt where
  | p0 (a0 : Int)
def impl_letterByte.lb : impl_letterByte.Pt → Nat
  | .p0 _ => 0
def impl_letterByte.st : impl_letterByte.Pt → St
  | .p0 a0 => enter [.v (.int .u8) a0] 0
def impl_letterByte.step (n : Nat) (K : impl_letterByte.Pt → Option (Tup [.bool])) : impl_letterByte.Pt → Option (Tup [.bool])
  | .p0 a0 => cond (decide ((97 : Int) ≤ a0)) (cond (decide (a0 ≤ (122 : Int))) (some true) (cond (decide ((65 : Int) ≤ a0)) (some (decide (a0 ≤ (90 : Int)))) (some false))) (cond (decide ((65 : Int) ≤ a0)) (some (decide (a0 ≤ (90 : Int)))) (some false))
def impl_letterByte (n : Nat) (a0 : Int) : Option (Tup [.bool]) := goRec impl_letterByte.step n (.p0 a0)
def impl_letterByte.spec : Ctr := ⟨100, [.v (.int .u8)], [.bool], [], none, fun n x => impl_letterByte n x.1⟩
theorem impl_letterByte.seg_eq : SegEq ty gl impl_letterByte.F impl_letterByte.md impl_letterByte.T impl_letterByte.spec impl_letterByte.lb impl_letterByte.st impl_letterByte.step := by
  intro n goto y; cases y <;> kernel_rfl
theorem impl_letterByte.text : Text Go.Proofs.Tryd.prog impl_letterByte.F impl_letterByte.spec := textOf Go.Proofs.Tryd.f100
theorem impl_letterByte.ok : CtrOK Go.Proofs.Tryd.prog gl impl_letterByte.spec :=
  ctr_okS tabs impl_letterByte.text impl_letterByte.seg_eq (fun n x => ⟨.p0 x.1, rfl, rfl, rfl⟩) (nilC)

/-! loop.example/g00039/impl.digitByte -/
def impl_digitByte.T : List Ctr := []
def impl_digitByte.md : List (Nat × List Md) := []
noncomputable def impl_digitByte.F : Fun := ⟨(Go.Proofs.Tryd.f98.body).getD .skip, [.v (.int .u8)], [(.tmp 2, .bool)], [], 0, []⟩
inductive impl_digitByte.Pt where
  | p0 (a0 : Int)
def impl_digitByte.lb : impl_digitByte.Pt → Nat
  | .p0 _ => 0
def impl_digitByte.st : impl_digitByte.Pt → St
  | .p0 a0 => enter [.v (.int .u8) a0] 0
def impl_digitByte.step (n : Nat) (K : impl_digitByte.Pt → Option (Tup [.bool])) : impl_digitByte.Pt → Option (Tup [.bool])
  | .p0 a0 => cond (decide ((48 : Int) ≤ a0)) (some (decide (a0 ≤ (57 : Int)))) (some false)
def impl_digitByte (n : Nat) (a0 : Int) : Option (Tup [.bool]) := goRec impl_digitByte.step n (.p0 a0)
def impl_digitByte.spec : Ctr := ⟨98, [.v (.int .u8)], [.bool], [], none, fun n x => impl_digitByte n x.1⟩
theorem impl_digitByte.seg_eq : SegEq ty gl impl_digitByte.F impl_digitByte.md impl_digitByte.T impl_digitByte.spec impl_digitByte.lb impl_digitByte.st impl_digitByte.step := by
  intro n goto y; cases y <;> kernel_rfl
theorem impl_digitByte.text : Text Go.Proofs.Tryd.prog impl_digitByte.F impl_digitByte.spec := textOf Go.Proofs.Tryd.f98
theorem impl_digitByte.ok : CtrOK Go.Proofs.Tryd.prog gl impl_digitByte.spec :=
  ctr_okS tabs impl_digitByte.text impl_digitByte.seg_eq (fun n x => ⟨.p0 x.1, rfl, rfl, rfl⟩) (nilC)

/-! loop.example/g00039/impl.wordByte -/
def impl_wordByte.T : List Ctr := [impl_letterByte.spec, impl_digitByte.spec]
def impl_wordByte.md : List (Nat × List Md) := []
noncomputable def impl_wordByte.F : Fun := ⟨(Go.Proofs.Tryd.f87.body).getD .skip, [.v (.int .u8)], [(.tmp 2, .bool)], [], 0, []⟩
inductive impl_wordByte.Pt where
  | p0 (a0 : Int)
def impl_wordByte.lb : impl_wordByte.Pt → Nat
  | .p0 _ => 0
def impl_wordByte.st : impl_wordByte.Pt → St
  | .p0 a0 => enter [.v (.int .u8) a0] 0
def impl_wordByte.step (n : Nat) (K : impl_wordByte.Pt → Option (Tup [.bool])) : impl_wordByte.Pt → Option (Tup [.bool])
  | .p0 a0 => (impl_letterByte n a0).bind fun r4 => cond r4 (some true) ((impl_digitByte n a0).bind fun r5 => cond r5 (some true) (some (decide (a0 = (95 : Int)))))
def impl_wordByte (n : Nat) (a0 : Int) : Option (Tup [.bool]) := goRec impl_wordByte.step n (.p0 a0)
def impl_wordByte.spec : Ctr := ⟨87, [.v (.int .u8)], [.bool], [], none, fun n x => impl_wordByte n x.1⟩
theorem impl_wordByte.seg_eq : SegEq ty gl impl_wordByte.F impl_wordByte.md impl_wordByte.T impl_wordByte.spec impl_wordByte.lb impl_wordByte.st impl_wordByte.step := by
  intro n goto y; cases y <;> kernel_rfl
theorem impl_wordByte.text : Text Go.Proofs.Tryd.prog impl_wordByte.F impl_wordByte.spec := textOf Go.Proofs.Tryd.f87
theorem impl_wordByte.ok : CtrOK Go.Proofs.Tryd.prog gl impl_wordByte.spec :=
  ctr_okS tabs impl_wordByte.text impl_wordByte.seg_eq (fun n x => ⟨.p0 x.1, rfl, rfl, rfl⟩) (consC impl_letterByte.ok (consC impl_digitByte.ok (nilC)))

/-! loop.example/g00039/impl.wordOf -/
def impl_wordOf.T : List Ctr := [impl_wordByte.spec]
def impl_wordOf.md : List (Nat × List Md) := []
noncomputable def impl_wordOf.F : Fun := ⟨(Go.Proofs.Tryd.f56.body).getD .skip, [.v .str], [(.tmp 2, .str), (.tmp 3, .str)], [], 0, [(7, ⟨[0, 4], [], [], false⟩)]⟩
inductive impl_wordOf.Pt where
  | p0 (a0 : ByteArray)
  | p7 (y1 : ByteArray) (y2 : Int)
def impl_wordOf.lb : impl_wordOf.Pt → Nat
  | .p0 _ => 0
  | .p7 _ _ => 7
def impl_wordOf.st : impl_wordOf.Pt → St
  | .p0 a0 => enter [.v .str a0] 0
  | .p7 y1 y2 => ⟨[(0, .im .str y1), (4, .im (.int .i64) y2)], [], 0⟩
def impl_wordOf.step (n : Nat) (K : impl_wordOf.Pt → Option (Tup [.str, .str])) : impl_wordOf.Pt → Option (Tup [.str, .str])
  | .p0 a0 => K (.p7 a0 (0 : Int))
  | .p7 y1 y2 => cond (decide (y2 < ((ByteArray.size y1) : Int))) (cond (inB y2 (ByteArray.size y1)) ((impl_wordByte n (bt y1 y2)).bind fun r5 => cond r5 (K (.p7 y1 (IntKind.wrap .i64 (y2 + (1 : Int))))) (cond (inC (0 : Int) y2 (ByteArray.size y1)) (cond (inC y2 ((ByteArray.size y1) : Int) (ByteArray.size y1)) (some ((ByteArray.extract y1 (Int.toNat (0 : Int)) (Int.toNat y2)), (ByteArray.extract y1 (Int.toNat y2) (Int.toNat ((ByteArray.size y1) : Int))))) (none)) (none))) (none)) (cond (inC (0 : Int) y2 (ByteArray.size y1)) (cond (inC y2 ((ByteArray.size y1) : Int) (ByteArray.size y1)) (some ((ByteArray.extract y1 (Int.toNat (0 : Int)) (Int.toNat y2)), (ByteArray.extract y1 (Int.toNat y2) (Int.toNat ((ByteArray.size y1) : Int))))) (none)) (none))
def impl_wordOf (n : Nat) (a0 : ByteArray) : Option (Tup [.str, .str]) := goRec impl_wordOf.step n (.p0 a0)
def impl_wordOf.spec : Ctr := ⟨56, [.v .str], [.str, .str], [], none, fun n x => impl_wordOf n x.1⟩
theorem impl_wordOf.seg_eq : SegEq ty gl impl_wordOf.F impl_wordOf.md impl_wordOf.T impl_wordOf.spec impl_wordOf.lb impl_wordOf.st impl_wordOf.step := by
  intro n goto y; cases y <;> kernel_rfl
theorem impl_wordOf.text : Text Go.Proofs.Tryd.prog impl_wordOf.F impl_wordOf.spec := textOf Go.Proofs.Tryd.f56
theorem impl_wordOf.ok : CtrOK Go.Proofs.Tryd.prog gl impl_wordOf.spec :=
  ctr_okS tabs impl_wordOf.text impl_wordOf.seg_eq (fun n x => ⟨.p0 x.1, rfl, rfl, rfl⟩) (consC impl_wordByte.ok (nilC))

/-! loop.example/g00039/impl.isName -/
def impl_isName.T : List Ctr := [impl_digitByte.spec, impl_wordByte.spec]
def impl_isName.md : List (Nat × List Md) := []
noncomputable def impl_isName.F : Fun := ⟨(Go.Proofs.Tryd.f84.body).getD .skip, [.v .str], [(.tmp 2, .bool)], [], 0, [(4, ⟨[0, 15], [], [], false⟩), (15, ⟨[0, 17, 18], [], [], false⟩)]⟩
inductive impl_isName.Pt where
  | p0 (a0 : ByteArray)
  | p4 (y1 : ByteArray) (y2 : Bool)
  | p15 (y1 : ByteArray) (y2 : Int) (y3 : Int)
def impl_isName.lb : impl_isName.Pt → Nat
  | .p0 _ => 0
  | .p4 _ _ => 4
  | .p15 _ _ _ => 15
def impl_isName.st : impl_isName.Pt → St
  | .p0 a0 => enter [.v .str a0] 0
  | .p4 y1 y2 => ⟨[(0, .im .str y1), (15, .im .bool y2)], [], 0⟩
  | .p15 y1 y2 y3 => ⟨[(0, .im .str y1), (17, .im (.int .i64) y2), (18, .im (.int .i64) y3)], [], 0⟩
def impl_isName.step (n : Nat) (K : impl_isName.Pt → Option (Tup [.bool])) : impl_isName.Pt → Option (Tup [.bool])
  | .p0 a0 => cond (seq a0 (⟨#[]⟩ : ByteArray)) (K (.p4 a0 true)) (cond (decide ((40 : Int) < ((ByteArray.size a0) : Int))) (K (.p4 a0 true)) (cond (inB (0 : Int) (ByteArray.size a0)) ((impl_digitByte n (bt a0 (0 : Int))).bind fun r4 => K (.p4 a0 r4)) (none)))
  | .p4 y1 y2 => cond y2 (some false) (K (.p15 y1 ((ByteArray.size y1) : Int) (0 : Int)))
  | .p15 y1 y2 y3 => cond (decide (y3 < y2)) (cond (inB y3 (ByteArray.size y1)) ((impl_wordByte n (bt y1 y3)).bind fun r6 => cond (!r6) (some false) (K (.p15 y1 y2 (IntKind.wrap .i64 (y3 + (1 : Int)))))) (none)) (some true)
def impl_isName (n : Nat) (a0 : ByteArray) : Option (Tup [.bool]) := goRec impl_isName.step n (.p0 a0)
def impl_isName.spec : Ctr := ⟨84, [.v .str], [.bool], [], none, fun n x => impl_isName n x.1⟩
theorem impl_isName.seg_eq : SegEq ty gl impl_isName.F impl_isName.md impl_isName.T impl_isName.spec impl_isName.lb impl_isName.st impl_isName.step := by
  intro n goto y; cases y <;> kernel_rfl
theorem impl_isName.text : Text Go.Proofs.Tryd.prog impl_isName.F impl_isName.spec := textOf Go.Proofs.Tryd.f84
theorem impl_isName.ok : CtrOK Go.Proofs.Tryd.prog gl impl_isName.spec :=
  ctr_okS tabs impl_isName.text impl_isName.seg_eq (fun n x => ⟨.p0 x.1, rfl, rfl, rfl⟩) (consC impl_digitByte.ok (consC impl_wordByte.ok (nilC)))

/-! loop.example/g00039/impl.GoodTemplate -/
def impl_GoodTemplate.T : List Ctr := [impl_printed.spec, strings_HasPrefix.spec, impl_wordOf.spec, impl_isName.spec]
def impl_GoodTemplate.md : List (Nat × List Md) := []
noncomputable def impl_GoodTemplate.F : Fun := ⟨(Go.Proofs.Tryd.f53.body).getD .skip, [.v .str], [(.tmp 2, .bool)], [], 0, [(15, ⟨[0, 3], [], [], false⟩), (41, ⟨[0, 3, 4, 41], [], [], false⟩)]⟩
inductive impl_GoodTemplate.Pt where
  | p0 (a0 : ByteArray)
  | p15 (y1 : ByteArray) (y2 : Int)
  | p41 (y1 : ByteArray) (y2 : Int) (y3 : ByteArray) (y4 : Bool)
def impl_GoodTemplate.lb : impl_GoodTemplate.Pt → Nat
  | .p0 _ => 0
  | .p15 _ _ => 15
  | .p41 _ _ _ _ => 41
def impl_GoodTemplate.st : impl_GoodTemplate.Pt → St
  | .p0 a0 => enter [.v .str a0] 0
  | .p15 y1 y2 => ⟨[(0, .im .str y1), (3, .im (.int .i64) y2)], [], 0⟩
  | .p41 y1 y2 y3 y4 => ⟨[(0, .im .str y1), (3, .im (.int .i64) y2), (4, .im .str y3), (41, .im .bool y4)], [], 0⟩
def impl_GoodTemplate.step (n : Nat) (K : impl_GoodTemplate.Pt → Option (Tup [.bool])) : impl_GoodTemplate.Pt → Option (Tup [.bool])
  | .p0 a0 => (impl_printed n a0 (200 : Int)).bind fun r4 => cond (!r4) (some false) (K (.p15 a0 (0 : Int)))
  | .p15 y1 y2 => cond (decide (y2 < ((ByteArray.size y1) : Int))) (cond (inB y2 (ByteArray.size y1)) (cond (!(decide ((bt y1 y2) = (123 : Int)))) (K (.p15 y1 (IntKind.wrap .i64 (y2 + (1 : Int))))) (cond (inC (IntKind.wrap .i64 (y2 + (1 : Int))) ((ByteArray.size y1) : Int) (ByteArray.size y1)) ((strings_HasPrefix n (ByteArray.extract y1 (Int.toNat (IntKind.wrap .i64 (y2 + (1 : Int)))) (Int.toNat ((ByteArray.size y1) : Int))) (⟨#[123]⟩ : ByteArray)).bind fun r5 => cond r5 (K (.p15 y1 (IntKind.wrap .i64 ((IntKind.wrap .i64 (y2 + (1 : Int))) + (1 : Int))))) (cond (inC (IntKind.wrap .i64 (y2 + (1 : Int))) ((ByteArray.size y1) : Int) (ByteArray.size y1)) ((impl_wordOf n (ByteArray.extract y1 (Int.toNat (IntKind.wrap .i64 (y2 + (1 : Int)))) (Int.toNat ((ByteArray.size y1) : Int)))).bind fun r6 => (impl_isName n r6.1).bind fun r7 => cond (!r7) (K (.p41 y1 y2 r6.1 true)) ((strings_HasPrefix n r6.2 (⟨#[125]⟩ : ByteArray)).bind fun r8 => K (.p41 y1 y2 r6.1 (!r8)))) (none))) (none))) (none)) (some true)
  | .p41 y1 y2 y3 y4 => cond y4 (some false) (K (.p15 y1 (IntKind.wrap .i64 ((IntKind.wrap .i64 (y2 + (IntKind.wrap .i64 (((ByteArray.size y3) : Int) + (1 : Int))))) + (1 : Int)))))
def impl_GoodTemplate (n : Nat) (a0 : ByteArray) : Option (Tup [.bool]) := goRec impl_GoodTemplate.step n (.p0 a0)
def impl_GoodTemplate.spec : Ctr := ⟨53, [.v .str], [.bool], [], none, fun n x => impl_GoodTemplate n x.1⟩
theorem impl_GoodTemplate.seg_eq : SegEq ty gl impl_GoodTemplate.F impl_GoodTemplate.md impl_GoodTemplate.T impl_GoodTemplate.spec impl_GoodTemplate.lb impl_GoodTemplate.st impl_GoodTemplate.step := by
  intro n goto y; cases y <;> kernel_rfl
theorem impl_GoodTemplate.text : Text Go.Proofs.Tryd.prog impl_GoodTemplate.F impl_GoodTemplate.spec := textOf Go.Proofs.Tryd.f53
theorem impl_GoodTemplate.ok : CtrOK Go.Proofs.Tryd.prog gl impl_GoodTemplate.spec :=
  ctr_okS tabs impl_GoodTemplate.text impl_GoodTemplate.seg_eq (fun n x => ⟨.p0 x.1, rfl, rfl, rfl⟩) (consC impl_printed.ok (consC strings_HasPrefix.ok (consC impl_wordOf.ok (consC impl_isName.ok (nilC)))))

/-! loop.example/g00039/impl.isValue -/
def impl_isValue.T : List Ctr := [impl_printed.spec]
def impl_isValue.md : List (Nat × List Md) := []
noncomputable def impl_isValue.F : Fun := ⟨(Go.Proofs.Tryd.f85.body).getD .skip, [.v .str], [(.tmp 2, .bool)], [], 0, []⟩
inductive impl_isValue.Pt where
  | p0 (a0 : ByteArray)
def impl_isValue.lb : impl_isValue.Pt → Nat
  | .p0 _ => 0
def impl_isValue.st : impl_isValue.Pt → St
  | .p0 a0 => enter [.v .str a0] 0
def impl_isValue.step (n : Nat) (K : impl_isValue.Pt → Option (Tup [.bool])) : impl_isValue.Pt → Option (Tup [.bool])
  | .p0 a0 => cond (!(seq a0 (⟨#[]⟩ : ByteArray))) ((impl_printed n a0 (100 : Int)).bind fun r4 => some r4) (some false)
def impl_isValue (n : Nat) (a0 : ByteArray) : Option (Tup [.bool]) := goRec impl_isValue.step n (.p0 a0)
def impl_isValue.spec : Ctr := ⟨85, [.v .str], [.bool], [], none, fun n x => impl_isValue n x.1⟩
theorem impl_isValue.seg_eq : SegEq ty gl impl_isValue.F impl_isValue.md impl_isValue.T impl_isValue.spec impl_isValue.lb impl_isValue.st impl_isValue.step := by
  intro n goto y; cases y <;> kernel_rfl
theorem impl_isValue.text : Text Go.Proofs.Tryd.prog impl_isValue.F impl_isValue.spec := textOf Go.Proofs.Tryd.f85
theorem impl_isValue.ok : CtrOK Go.Proofs.Tryd.prog gl impl_isValue.spec :=
  ctr_okS tabs impl_isValue.text impl_isValue.seg_eq (fun n x => ⟨.p0 x.1, rfl, rfl, rfl⟩) (consC impl_printed.ok (nilC))

/-! loop.example/g00039/impl.GoodLabels -/
def impl_GoodLabels.T : List Ctr := [impl_isName.spec, impl_isValue.spec]
def impl_GoodLabels.md : List (Nat × List Md) := []
noncomputable def impl_GoodLabels.F : Fun := ⟨(Go.Proofs.Tryd.f54.body).getD .skip, [.v (.sl false (.pair .str (.pair .str .unit)))], [(.tmp 2, .bool)], [], 0, [(15, ⟨[0, 8, 9, 10], [(8, (.pair .str (.pair .str .unit)))], [], false⟩), (26, ⟨[0, 8, 9, 10, 39], [(8, (.pair .str (.pair .str .unit)))], [], false⟩)]⟩
inductive impl_GoodLabels.Pt where
  | p0 (a0 : List ((ByteArray) × ((ByteArray) × (Unit))))
  | p15 (y1 : List ((ByteArray) × ((ByteArray) × (Unit)))) (y2 : List ((ByteArray) × ((ByteArray) × (Unit)))) (y3 : Int) (y4 : Int)
  | p26 (y1 : List ((ByteArray) × ((ByteArray) × (Unit)))) (y2 : List ((ByteArray) × ((ByteArray) × (Unit)))) (y3 : Int) (y4 : Int) (y5 : Bool)
def impl_GoodLabels.lb : impl_GoodLabels.Pt → Nat
  | .p0 _ => 0
  | .p15 _ _ _ _ => 15
  | .p26 _ _ _ _ _ => 26
def impl_GoodLabels.st : impl_GoodLabels.Pt → St
  | .p0 a0 => enter [.v (.sl false (.pair .str (.pair .str .unit))) a0] 0
  | .p15 y1 y2 y3 y4 => ⟨[(0, .im (.sl false (.pair .str (.pair .str .unit))) y1), (8, .im (.sl false (.pair .str (.pair .str .unit))) y2), (9, .im (.int .i64) y3), (10, .im (.int .i64) y4)], [], 0⟩
  | .p26 y1 y2 y3 y4 y5 => ⟨[(0, .im (.sl false (.pair .str (.pair .str .unit))) y1), (8, .im (.sl false (.pair .str (.pair .str .unit))) y2), (9, .im (.int .i64) y3), (10, .im (.int .i64) y4), (39, .im .bool y5)], [], 0⟩
def impl_GoodLabels.step (n : Nat) (K : impl_GoodLabels.Pt → Option (Tup [.bool])) : impl_GoodLabels.Pt → Option (Tup [.bool])
  | .p0 a0 => cond (decide ((20 : Int) < ((List.length a0) : Int))) (some false) (K (.p15 a0 a0 ((List.length a0) : Int) (0 : Int)))
  | .p15 y1 y2 y3 y4 => cond (decide (y4 < y3)) (cond (inB y4 (List.length y2)) ((impl_isName n (List.getD y2 (Int.toNat y4) default).1).bind fun r7 => cond (!r7) (K (.p26 y1 y2 y3 y4 true)) ((impl_isValue n (List.getD y2 (Int.toNat y4) default).2.1).bind fun r8 => cond (!r8) (K (.p26 y1 y2 y3 y4 true)) (cond (decide ((0 : Int) < y4)) (cond (inB (IntKind.wrap .i64 (y4 - (1 : Int))) (List.length y1)) (K (.p26 y1 y2 y3 y4 (!(slt (List.getD y1 (Int.toNat (IntKind.wrap .i64 (y4 - (1 : Int)))) default).1 (List.getD y2 (Int.toNat y4) default).1)))) (none)) (K (.p26 y1 y2 y3 y4 false))))) (none)) (some true)
  | .p26 y1 y2 y3 y4 y5 => cond y5 (some false) (K (.p15 y1 y2 y3 (IntKind.wrap .i64 (y4 + (1 : Int)))))
def impl_GoodLabels (n : Nat) (a0 : List ((ByteArray) × ((ByteArray) × (Unit)))) : Option (Tup [.bool]) := goRec impl_GoodLabels.step n (.p0 a0)
def impl_GoodLabels.spec : Ctr := ⟨54, [.v (.sl false (.pair .str (.pair .str .unit)))], [.bool], [], none, fun n x => impl_GoodLabels n x.1⟩
theorem impl_GoodLabels.seg_eq : SegEq ty gl impl_GoodLabels.F impl_GoodLabels.md impl_GoodLabels.T impl_GoodLabels.spec impl_GoodLabels.lb impl_GoodLabels.st impl_GoodLabels.step := by
  intro n goto y; cases y <;> kernel_rfl
theorem impl_GoodLabels.text : Text Go.Proofs.Tryd.prog impl_GoodLabels.F impl_GoodLabels.spec := textOf Go.Proofs.Tryd.f54
theorem impl_GoodLabels.ok : CtrOK Go.Proofs.Tryd.prog gl impl_GoodLabels.spec :=
  ctr_okS tabs impl_GoodLabels.text impl_GoodLabels.seg_eq (fun n x => ⟨.p0 x.1, rfl, rfl, rfl⟩) (consC impl_isName.ok (consC impl_isValue.ok (nilC)))

/-! strconv.Itoa -/
def strconv_Itoa (n : Nat) (a0 : Int) : Option ByteArray := hold n (cond (decide (-9223372036854775808 ≤ a0) && decide (a0 ≤ 9223372036854775807)) (some ⟨(Lib.itoa a0).toArray⟩) none)
def strconv_Itoa.spec : Ctr := ⟨88, [.v (.int .i64)], [.str], [], none, fun n x => strconv_Itoa n x.1⟩
section
open Go.Proofs
def layItoa_ren : Go.Shelf.Ren := ⟨fun | 171 => 88 | 243 => 101 | 246 => 102 | 283 => 103 | 284 => 104 | 285 => 105 | 286 => 106 | 129 => 91 | 317 => 107 | 318 => 108 | 319 => 109 | 320 => 110 | 337 => 111 | 338 => 75 | n => n, fun | 3 => 3 | 9 => 9 | 2 => 2 | 4 => 4 | 171 => 116 | 0 => 0 | 53 => 61 | 37 => 22 | 5 => 5 | 173 => 118 | 212 => 121 | 51 => 122 | 20 => 20 | 213 => 123 | 46 => 88 | 232 => 126 | 233 => 110 | n => n, fun | 17 => 1 | 18 => 2 | 19 => 0 | n => n⟩
theorem layItoa : Go.Proofs.LaysM.n171 Tryd.prog layItoa_ren where
  mixed := by kernel_rfl
  f129 := Tryd.func91.trans (congrArg some (by kernel_rfl))
  f171 := Tryd.func88.trans (congrArg some (by kernel_rfl))
  f243 := Tryd.func101.trans (congrArg some (by kernel_rfl))
  f246 := Tryd.func102.trans (congrArg some (by kernel_rfl))
  f283 := Tryd.func103.trans (congrArg some (by kernel_rfl))
  f284 := Tryd.func104.trans (congrArg some (by kernel_rfl))
  f285 := Tryd.func105.trans (congrArg some (by kernel_rfl))
  f286 := Tryd.func106.trans (congrArg some (by kernel_rfl))
  f317 := Tryd.func107.trans (congrArg some (by kernel_rfl))
  f318 := Tryd.func108.trans (congrArg some (by kernel_rfl))
  f319 := Tryd.func109.trans (congrArg some (by kernel_rfl))
  f320 := Tryd.func110.trans (congrArg some (by kernel_rfl))
  f337 := Tryd.func111.trans (congrArg some (by kernel_rfl))
  f338 := Tryd.func75.trans (congrArg some (by kernel_rfl))
  t0 := Tryd.underlying0
  a0 := Tryd.isAgg0
  z0 := Tryd.sizeOf0
  v0 := Tryd.zeroValue0
  t2 := Tryd.underlying2
  a2 := Tryd.isAgg2
  z2 := Tryd.sizeOf2
  v2 := Tryd.zeroValue2
  t3 := Tryd.underlying3
  a3 := Tryd.isAgg3
  z3 := Tryd.sizeOf3
  v3 := Tryd.zeroValue3
  t4 := Tryd.underlying4
  a4 := Tryd.isAgg4
  z4 := Tryd.sizeOf4
  v4 := Tryd.zeroValue4
  t5 := Tryd.underlying5
  a5 := Tryd.isAgg5
  z5 := Tryd.sizeOf5
  v5 := Tryd.zeroValue5
  t9 := Tryd.underlying9
  a9 := Tryd.isAgg9
  z9 := Tryd.sizeOf9
  v9 := Tryd.zeroValue9
  t20 := Tryd.underlying20
  a20 := Tryd.isAgg20
  z20 := Tryd.sizeOf20
  v20 := Tryd.zeroValue20
  t37 := Tryd.underlying22
  a37 := Tryd.isAgg22
  z37 := Tryd.sizeOf22
  v37 := Tryd.zeroValue22
  t46 := Tryd.underlying88
  a46 := Tryd.isAgg88
  z46 := Tryd.sizeOf88
  v46 := Tryd.zeroValue88
  t51 := Tryd.underlying122
  a51 := Tryd.isAgg122
  z51 := Tryd.sizeOf122
  v51 := Tryd.zeroValue122
  t53 := Tryd.underlying61
  a53 := Tryd.isAgg61
  z53 := Tryd.sizeOf61
  v53 := Tryd.zeroValue61
  t171 := Tryd.underlying116
  a171 := Tryd.isAgg116
  z171 := Tryd.sizeOf116
  v171 := Tryd.zeroValue116
  t173 := Tryd.underlying118
  a173 := Tryd.isAgg118
  z173 := Tryd.sizeOf118
  v173 := Tryd.zeroValue118
  t212 := Tryd.underlying121
  a212 := Tryd.isAgg121
  z212 := Tryd.sizeOf121
  v212 := Tryd.zeroValue121
  t213 := Tryd.underlying123
  a213 := Tryd.isAgg123
  z213 := Tryd.sizeOf123
  t232 := Tryd.underlying126
  a232 := Tryd.isAgg126
  z232 := Tryd.sizeOf126
  v232 := Tryd.zeroValue126
  t233 := Tryd.underlying110
  a233 := Tryd.isAgg110
  z233 := Tryd.sizeOf110
  v233 := Tryd.zeroValue110
  g17 := by kernel_rfl
  g18 := by kernel_rfl
  g19 := by kernel_rfl
  i0 := by kernel_rfl
  i2 := by kernel_rfl
  i3 := by kernel_rfl
  i4 := by kernel_rfl
  i5 := by kernel_rfl
  i9 := by kernel_rfl
  i20 := by kernel_rfl
  i37 := by kernel_rfl
  i46 := by kernel_rfl
  i51 := by kernel_rfl
  i53 := by kernel_rfl
  i171 := by kernel_rfl
  i173 := by kernel_rfl
  i212 := by kernel_rfl
  i232 := by kernel_rfl
  i233 := by kernel_rfl
  m17 := by kernel_rfl
  m18 := by kernel_rfl
  m19 := by kernel_rfl

end
theorem u64s_rep {w : World} {o : Bool} : ∀ {l : List Int} {m : List Value} {G : List Nat}, RepL (Rep w o (.int .u64)) l m G → m = l.map (Value.int .u64)
  | [], m, G, h => h.1
  | x :: l, m, G, h => by
    obtain ⟨c, d, H, I, rfl, rfl, h1, h2⟩ := h
    obtain ⟨rfl, rfl⟩ := h1
    rw [u64s_rep h2]; rfl
theorem strconv_Itoa.tab {w : World} {L : List Nat} (h : GlobOK gl w L) : Lib.TabIs Go.Proofs.Tryd.prog w "internal/strconv.uint64pow10" .u64 Lib.pow10Tab := by
  have hl : lkN gl 1 = some ⟨.ar 20 (.int .u64), Lib.pow10Tab⟩ := by kernel_rfl
  obtain ⟨c, t, fz, p, m, q, G, _, hh, hc, hp, hr, _⟩ := h.1 _ _ _ hl
  obtain ⟨cs, t', fz', hh', hsz⟩ := h.2.2.2 _ _ _ hl
  rw [show w.heap[(⟨1, 0, none⟩ : Addr).block]? = w.heap[1]? from rfl, hh'] at hh
  cases hh
  obtain ⟨a, d, H, I, rfl, _, ⟨hln, h1⟩, h2⟩ := hr
  obtain ⟨rfl, _⟩ := h2
  have ha := u64s_rep h1
  have hpn : p = [] := List.eq_nil_of_length_eq_zero hp
  subst hpn
  have hq : q = [] := by
    have := congrArg List.length hc
    rw [ha] at this
    have hz : c.size = 20 := hsz
    have h20 : (Lib.pow10Tab.map (Value.int .u64)).length = 20 := by decide
    simp only [List.nil_append, List.append_nil, List.length_append, Array.length_toList, h20, hz] at this
    exact List.eq_nil_of_length_eq_zero (by omega)
  subst hq
  have hcs : c = (Lib.pow10Tab.map fun z => Value.int .u64 z).toArray := Array.toList_inj.1 (by rw [hc, ha]; simp)
  unfold Lib.TabIs World.var?
  rw [show Go.Proofs.Tryd.prog.globalNamed "internal/strconv.uint64pow10" = some 1 from by kernel_rfl, Option.bind_some, hh', hcs]
theorem strconv_Itoa.ok : CtrOK Go.Proofs.Tryd.prog gl strconv_Itoa.spec := by
  refine fun n => ⟨⟨Go.Proofs.Tryd.f88, by kernel_rfl, by kernel_rfl, by decide +kernel⟩, ?_⟩
  intro inst
  rintro ⟨a0, ⟨⟩⟩ y hy
  have hy := hold_some hy
  cases hb : (decide (-9223372036854775808 ≤ a0) && decide (a0 ≤ 9223372036854775807)) with
  | false => rw [hb] at hy; cases hy
  | true =>
    rw [hb] at hy
    obtain rfl := Option.some.inj hy
    simp only [Bool.and_eq_true, decide_eq_true_eq] at hb
    intro w vs S L harg _ hL hSL hG
    change ArgsRep w [Arg.v (.int .i64) a0] vs S L at harg
    unfold ArgsRep at harg
    obtain ⟨v0, vr, S1, S2, L1, L2, rfl, rfl, rfl, h1, harg⟩ := harg
    unfold ArgsRep at harg
    obtain ⟨rfl, rfl, rfl⟩ := harg
    unfold ArgRep at h1
    obtain ⟨_, ⟨cs, rfl, rfl, rfl⟩, rfl⟩ := h1
    refine (Go.Proofs.Any.strconv_Itoa layItoa a0 hb.1 hb.2 w (strconv_Itoa.tab hG)).mono ?_
    rintro e w' ⟨rfl, k, os, rfl⟩
    refine ⟨[.string ⟨(Lib.itoa a0).toArray⟩], [], [], rfl, ⟨_, [], [], [], rfl, rfl, rfl, ⟨rfl, rfl⟩, rfl, rfl⟩, ?_, by simp, by simp, rfl, rfl, rfl, by simp [Go.Sort.grow, World.drewN], fun b hb _ => by simp [Go.Sort.grow, World.drewN, Array.getElem?_append, hb]⟩
    change OutsRep _ _ [Arg.v (.int .i64) a0] _ _ _
    simp only [OutsRep, OutRep]
    exact ⟨_, _, [], [], [], [], rfl, rfl, rfl, ⟨rfl, rfl⟩, rfl, rfl⟩


/-! loop.example/g00039/impl.digitsOf -/
def impl_digitsOf.T : List Ctr := [strconv_Itoa.spec]
def impl_digitsOf.md : List (Nat × List Md) := []
noncomputable def impl_digitsOf.F : Fun := ⟨(Go.Proofs.Tryd.f58.body).getD .skip, [.v (.int .i64)], [(.tmp 2, .str)], [], 0, []⟩
inductive impl_digitsOf.Pt where
  | p0 (a0 : Int)
def impl_digitsOf.lb : impl_digitsOf.Pt → Nat
  | .p0 _ => 0
def impl_digitsOf.st : impl_digitsOf.Pt → St
  | .p0 a0 => enter [.v (.int .i64) a0] 0
def impl_digitsOf.step (n : Nat) (K : impl_digitsOf.Pt → Option (Tup [.str])) : impl_digitsOf.Pt → Option (Tup [.str])
  | .p0 a0 => (strconv_Itoa n a0).bind fun r4 => some r4
def impl_digitsOf (n : Nat) (a0 : Int) : Option (Tup [.str]) := goRec impl_digitsOf.step n (.p0 a0)
def impl_digitsOf.spec : Ctr := ⟨58, [.v (.int .i64)], [.str], [], none, fun n x => impl_digitsOf n x.1⟩
theorem impl_digitsOf.seg_eq : SegEq ty gl impl_digitsOf.F impl_digitsOf.md impl_digitsOf.T impl_digitsOf.spec impl_digitsOf.lb impl_digitsOf.st impl_digitsOf.step := by
  intro n goto y; cases y <;> kernel_rfl
theorem impl_digitsOf.text : Text Go.Proofs.Tryd.prog impl_digitsOf.F impl_digitsOf.spec := textOf Go.Proofs.Tryd.f58
theorem impl_digitsOf.ok : CtrOK Go.Proofs.Tryd.prog gl impl_digitsOf.spec :=
  ctr_okS tabs impl_digitsOf.text impl_digitsOf.seg_eq (fun n x => ⟨.p0 x.1, rfl, rfl, rfl⟩) (consC strconv_Itoa.ok (nilC))

/-! loop.example/g00039/impl.valueOf -/
def impl_valueOf.T : List Ctr := []
def impl_valueOf.md : List (Nat × List Md) := []
noncomputable def impl_valueOf.F : Fun := ⟨(Go.Proofs.Tryd.f59.body).getD .skip, [.v (.sl false (.pair .str (.pair .str .unit))), .v .str], [(.tmp 4, .str)], [], 0, [(7, ⟨[1, 7, 8, 9], [(7, (.pair .str (.pair .str .unit)))], [], false⟩)]⟩
inductive impl_valueOf.Pt where
  | p0 (a0 : List ((ByteArray) × ((ByteArray) × (Unit)))) (a1 : ByteArray)
  | p7 (y1 : ByteArray) (y2 : List ((ByteArray) × ((ByteArray) × (Unit)))) (y3 : Int) (y4 : Int)
def impl_valueOf.lb : impl_valueOf.Pt → Nat
  | .p0 _ _ => 0
  | .p7 _ _ _ _ => 7
def impl_valueOf.st : impl_valueOf.Pt → St
  | .p0 a0 a1 => enter [.v (.sl false (.pair .str (.pair .str .unit))) a0, .v .str a1] 0
  | .p7 y1 y2 y3 y4 => ⟨[(1, .im .str y1), (7, .im (.sl false (.pair .str (.pair .str .unit))) y2), (8, .im (.int .i64) y3), (9, .im (.int .i64) y4)], [], 0⟩
def impl_valueOf.step (n : Nat) (K : impl_valueOf.Pt → Option (Tup [.str])) : impl_valueOf.Pt → Option (Tup [.str])
  | .p0 a0 a1 => K (.p7 a1 a0 ((List.length a0) : Int) (0 : Int))
  | .p7 y1 y2 y3 y4 => cond (decide (y4 < y3)) (cond (inB y4 (List.length y2)) (cond (seq (List.getD y2 (Int.toNat y4) default).1 y1) (some (List.getD y2 (Int.toNat y4) default).2.1) (K (.p7 y1 y2 y3 (IntKind.wrap .i64 (y4 + (1 : Int)))))) (none)) (some (⟨#[]⟩ : ByteArray))
def impl_valueOf (n : Nat) (a0 : List ((ByteArray) × ((ByteArray) × (Unit)))) (a1 : ByteArray) : Option (Tup [.str]) := goRec impl_valueOf.step n (.p0 a0 a1)
def impl_valueOf.spec : Ctr := ⟨59, [.v (.sl false (.pair .str (.pair .str .unit))), .v .str], [.str], [], none, fun n x => impl_valueOf n x.1 x.2.1⟩
theorem impl_valueOf.seg_eq : SegEq ty gl impl_valueOf.F impl_valueOf.md impl_valueOf.T impl_valueOf.spec impl_valueOf.lb impl_valueOf.st impl_valueOf.step := by
  intro n goto y; cases y <;> kernel_rfl
theorem impl_valueOf.text : Text Go.Proofs.Tryd.prog impl_valueOf.F impl_valueOf.spec := textOf Go.Proofs.Tryd.f59
theorem impl_valueOf.ok : CtrOK Go.Proofs.Tryd.prog gl impl_valueOf.spec :=
  ctr_okS tabs impl_valueOf.text impl_valueOf.seg_eq (fun n x => ⟨.p0 x.1 x.2.1, rfl, rfl, rfl⟩) (nilC)

/-! loop.example/g00039/impl.FillTemplate -/
def impl_FillTemplate.T : List Ctr := [impl_wordOf.spec, impl_GoodTemplate.spec, impl_GoodLabels.spec, impl_digitsOf.spec, impl_valueOf.spec]
def impl_FillTemplate.md : List (Nat × List Md) := [(55, [.bl 0 72 5]), (57, [.bl 1 72 5]), (60, [.bl 2 72 5])]
noncomputable def impl_FillTemplate.F : Fun := ⟨(Go.Proofs.Tryd.f25.body).getD .skip, [.v .str, .v (.sl false (.pair .str (.pair .str .unit))), .v (.int .i64)], [(.tmp 6, .str)], [], 0, [(4, ⟨[0, 1, 2, 18], [], [], false⟩), (17, ⟨[0, 1, 2, 7, 8], [], [(7, 1, (.int .u8))], false⟩)]⟩
inductive impl_FillTemplate.Pt where
  | p0 (a0 : ByteArray) (a1 : List ((ByteArray) × ((ByteArray) × (Unit)))) (a2 : Int)
  | p4 (y1 : ByteArray) (y2 : List ((ByteArray) × ((ByteArray) × (Unit)))) (y3 : Int) (y4 : Bool)
  | p17 (y1 : ByteArray) (y2 : List ((ByteArray) × ((ByteArray) × (Unit)))) (y3 : Int) (y4 : Int) (y5 : List Int)
def impl_FillTemplate.lb : impl_FillTemplate.Pt → Nat
  | .p0 _ _ _ => 0
  | .p4 _ _ _ _ => 4
  | .p17 _ _ _ _ _ => 17
def impl_FillTemplate.st : impl_FillTemplate.Pt → St
  | .p0 a0 a1 a2 => enter [.v .str a0, .v (.sl false (.pair .str (.pair .str .unit))) a1, .v (.int .i64) a2] 0
  | .p4 y1 y2 y3 y4 => ⟨[(0, .im .str y1), (1, .im (.sl false (.pair .str (.pair .str .unit))) y2), (2, .im (.int .i64) y3), (18, .im .bool y4)], [], 0⟩
  | .p17 y1 y2 y3 y4 y5 => ⟨[(0, .im .str y1), (1, .im (.sl false (.pair .str (.pair .str .unit))) y2), (2, .im (.int .i64) y3), (7, .po 0 0), (8, .im (.int .i64) y4)], [(0, .bld 72 5 y5)], 1⟩
def impl_FillTemplate.step (n : Nat) (K : impl_FillTemplate.Pt → Option (Tup [.str])) : impl_FillTemplate.Pt → Option (Tup [.str])
  | .p0 a0 a1 a2 => (impl_GoodTemplate n a0).bind fun r6 => cond (!r6) (K (.p4 a0 a1 a2 true)) ((impl_GoodLabels n a1).bind fun r7 => K (.p4 a0 a1 a2 (!r7)))
  | .p4 y1 y2 y3 y4 => cond y4 (some (⟨#[]⟩ : ByteArray)) (K (.p17 y1 y2 y3 (0 : Int) ([] : List (Int))))
  | .p17 y1 y2 y3 y4 y5 => cond (decide (y4 < ((ByteArray.size y1) : Int))) (cond (inB y4 (ByteArray.size y1)) (cond (!(decide ((bt y1 y4) = (123 : Int)))) (cond (inB y4 (ByteArray.size y1)) (cond (room ((List.length y5) + 1)) (K (.p17 y1 y2 y3 (IntKind.wrap .i64 (y4 + (1 : Int))) (y5 ++ [(bt y1 y4)]))) (none)) (none)) (cond (inB (IntKind.wrap .i64 (y4 + (1 : Int))) (ByteArray.size y1)) (cond (decide ((bt y1 (IntKind.wrap .i64 (y4 + (1 : Int)))) = (123 : Int))) (cond (room ((List.length y5) + 1)) (K (.p17 y1 y2 y3 (IntKind.wrap .i64 ((IntKind.wrap .i64 (y4 + (1 : Int))) + (1 : Int))) (y5 ++ [(123 : Int)]))) (none)) (cond (inC (IntKind.wrap .i64 (y4 + (1 : Int))) ((ByteArray.size y1) : Int) (ByteArray.size y1)) ((impl_wordOf n (ByteArray.extract y1 (Int.toNat (IntKind.wrap .i64 (y4 + (1 : Int)))) (Int.toNat ((ByteArray.size y1) : Int)))).bind fun r8 => cond (seq r8.1 (⟨#[118, 97, 108, 117, 101]⟩ : ByteArray)) ((impl_digitsOf n y3).bind fun r9 => cond (room ((List.length y5) + (ByteArray.size r9))) (K (.p17 y1 y2 y3 (IntKind.wrap .i64 ((IntKind.wrap .i64 (y4 + (IntKind.wrap .i64 (((ByteArray.size r8.1) : Int) + (1 : Int))))) + (1 : Int))) (y5 ++ (octs r9)))) (none)) ((impl_valueOf n y2 r8.1).bind fun r9 => cond (room ((List.length y5) + (ByteArray.size r9))) (K (.p17 y1 y2 y3 (IntKind.wrap .i64 ((IntKind.wrap .i64 (y4 + (IntKind.wrap .i64 (((ByteArray.size r8.1) : Int) + (1 : Int))))) + (1 : Int))) (y5 ++ (octs r9)))) (none))) (none))) (none))) (none)) (cond (room (List.length y5)) (some (ofOcts y5)) (none))
def impl_FillTemplate (n : Nat) (a0 : ByteArray) (a1 : List ((ByteArray) × ((ByteArray) × (Unit)))) (a2 : Int) : Option (Tup [.str]) := goRec impl_FillTemplate.step n (.p0 a0 a1 a2)
def impl_FillTemplate.spec : Ctr := ⟨25, [.v .str, .v (.sl false (.pair .str (.pair .str .unit))), .v (.int .i64)], [.str], [], none, fun n x => impl_FillTemplate n x.1 x.2.1 x.2.2.1⟩
theorem impl_FillTemplate.seg_eq : SegEq ty gl impl_FillTemplate.F impl_FillTemplate.md impl_FillTemplate.T impl_FillTemplate.spec impl_FillTemplate.lb impl_FillTemplate.st impl_FillTemplate.step := by
  intro n goto y; cases y <;> kernel_rfl
theorem impl_FillTemplate.text : Text Go.Proofs.Tryd.prog impl_FillTemplate.F impl_FillTemplate.spec := textOf Go.Proofs.Tryd.f25
theorem impl_FillTemplate.ok : CtrOK Go.Proofs.Tryd.prog gl impl_FillTemplate.spec :=
  ctr_okS tabs impl_FillTemplate.text impl_FillTemplate.seg_eq (fun n x => ⟨.p0 x.1 x.2.1 x.2.2.1, rfl, rfl, rfl⟩) (consC impl_wordOf.ok (consC impl_GoodTemplate.ok (consC impl_GoodLabels.ok (consC impl_digitsOf.ok (consC impl_valueOf.ok (nilC)))))) (bld.all (by kernel_rfl))

/-! loop.example/g00039/laws.eqLabel -/
def laws_eqLabel.T : List Ctr := []
def laws_eqLabel.md : List (Nat × List Md) := []
noncomputable def laws_eqLabel.F : Fun := ⟨(Go.Proofs.Tryd.f61.body).getD .skip, [.v (.pair .str (.pair .str .unit)), .v (.pair .str (.pair .str .unit))], [(.tmp 4, .bool)], [], 0, []⟩
inductive laws_eqLabel.Pt where
  | p0 (a0 : (ByteArray) × ((ByteArray) × (Unit))) (a1 : (ByteArray) × ((ByteArray) × (Unit)))
def laws_eqLabel.lb : laws_eqLabel.Pt → Nat
  | .p0 _ _ => 0
def laws_eqLabel.st : laws_eqLabel.Pt → St
  | .p0 a0 a1 => enter [.v (.pair .str (.pair .str .unit)) a0, .v (.pair .str (.pair .str .unit)) a1] 0
def laws_eqLabel.step (n : Nat) (K : laws_eqLabel.Pt → Option (Tup [.bool])) : laws_eqLabel.Pt → Option (Tup [.bool])
  | .p0 a0 a1 => cond (!(seq a0.1 a1.1)) (some false) (cond (!(seq a0.2.1 a1.2.1)) (some false) (some true))
def laws_eqLabel (n : Nat) (a0 : (ByteArray) × ((ByteArray) × (Unit))) (a1 : (ByteArray) × ((ByteArray) × (Unit))) : Option (Tup [.bool]) := goRec laws_eqLabel.step n (.p0 a0 a1)
def laws_eqLabel.spec : Ctr := ⟨61, [.v (.pair .str (.pair .str .unit)), .v (.pair .str (.pair .str .unit))], [.bool], [], none, fun n x => laws_eqLabel n x.1 x.2.1⟩
theorem laws_eqLabel.seg_eq : SegEq ty gl laws_eqLabel.F laws_eqLabel.md laws_eqLabel.T laws_eqLabel.spec laws_eqLabel.lb laws_eqLabel.st laws_eqLabel.step := by
  intro n goto y; cases y <;> kernel_rfl
theorem laws_eqLabel.text : Text Go.Proofs.Tryd.prog laws_eqLabel.F laws_eqLabel.spec := textOf Go.Proofs.Tryd.f61
theorem laws_eqLabel.ok : CtrOK Go.Proofs.Tryd.prog gl laws_eqLabel.spec :=
  ctr_okS tabs laws_eqLabel.text laws_eqLabel.seg_eq (fun n x => ⟨.p0 x.1 x.2.1, rfl, rfl, rfl⟩) (nilC)

/-! loop.example/g00039/laws.eqLabelS -/
def laws_eqLabelS.T : List Ctr := [laws_eqLabel.spec]
def laws_eqLabelS.md : List (Nat × List Md) := []
noncomputable def laws_eqLabelS.F : Fun := ⟨(Go.Proofs.Tryd.f26.body).getD .skip, [.v (.sl false (.pair .str (.pair .str .unit))), .v (.sl false (.pair .str (.pair .str .unit)))], [(.tmp 4, .bool)], [], 0, [(15, ⟨[0, 1, 5], [], [], false⟩)]⟩
inductive laws_eqLabelS.Pt where
  | p0 (a0 : List ((ByteArray) × ((ByteArray) × (Unit)))) (a1 : List ((ByteArray) × ((ByteArray) × (Unit))))
  | p15 (y1 : List ((ByteArray) × ((ByteArray) × (Unit)))) (y2 : List ((ByteArray) × ((ByteArray) × (Unit)))) (y3 : Int)
def laws_eqLabelS.lb : laws_eqLabelS.Pt → Nat
  | .p0 _ _ => 0
  | .p15 _ _ _ => 15
def laws_eqLabelS.st : laws_eqLabelS.Pt → St
  | .p0 a0 a1 => enter [.v (.sl false (.pair .str (.pair .str .unit))) a0, .v (.sl false (.pair .str (.pair .str .unit))) a1] 0
  | .p15 y1 y2 y3 => ⟨[(0, .im (.sl false (.pair .str (.pair .str .unit))) y1), (1, .im (.sl false (.pair .str (.pair .str .unit))) y2), (5, .im (.int .i64) y3)], [], 0⟩
def laws_eqLabelS.step (n : Nat) (K : laws_eqLabelS.Pt → Option (Tup [.bool])) : laws_eqLabelS.Pt → Option (Tup [.bool])
  | .p0 a0 a1 => cond (!(decide (((List.length a0) : Int) = ((List.length a1) : Int)))) (some false) (K (.p15 a0 a1 (0 : Int)))
  | .p15 y1 y2 y3 => cond (decide (y3 < ((List.length y1) : Int))) (cond (inB y3 (List.length y1)) (cond (inB y3 (List.length y2)) ((laws_eqLabel n (List.getD y1 (Int.toNat y3) default) (List.getD y2 (Int.toNat y3) default)).bind fun r6 => cond (!r6) (some false) (K (.p15 y1 y2 (IntKind.wrap .i64 (y3 + (1 : Int)))))) (none)) (none)) (some true)
def laws_eqLabelS (n : Nat) (a0 : List ((ByteArray) × ((ByteArray) × (Unit)))) (a1 : List ((ByteArray) × ((ByteArray) × (Unit)))) : Option (Tup [.bool]) := goRec laws_eqLabelS.step n (.p0 a0 a1)
def laws_eqLabelS.spec : Ctr := ⟨26, [.v (.sl false (.pair .str (.pair .str .unit))), .v (.sl false (.pair .str (.pair .str .unit)))], [.bool], [], none, fun n x => laws_eqLabelS n x.1 x.2.1⟩
theorem laws_eqLabelS.seg_eq : SegEq ty gl laws_eqLabelS.F laws_eqLabelS.md laws_eqLabelS.T laws_eqLabelS.spec laws_eqLabelS.lb laws_eqLabelS.st laws_eqLabelS.step := by
  intro n goto y; cases y <;> kernel_rfl
theorem laws_eqLabelS.text : Text Go.Proofs.Tryd.prog laws_eqLabelS.F laws_eqLabelS.spec := textOf Go.Proofs.Tryd.f26
theorem laws_eqLabelS.ok : CtrOK Go.Proofs.Tryd.prog gl laws_eqLabelS.spec :=
  ctr_okS tabs laws_eqLabelS.text laws_eqLabelS.seg_eq (fun n x => ⟨.p0 x.1 x.2.1, rfl, rfl, rfl⟩) (consC laws_eqLabel.ok (nilC))

/-! loop.example/g00039/laws.FnExactFillTemplate -/
def laws_FnExactFillTemplate.T : List Ctr := [laws_szLabelS.spec, laws_toLabelS.spec, spec_FillTemplate.spec, impl_FillTemplate.spec, laws_eqLabelS.spec]
def laws_FnExactFillTemplate.md : List (Nat × List Md) := []
noncomputable def laws_FnExactFillTemplate.F : Fun := ⟨(Go.Proofs.Tryd.f6.body).getD .skip, [.v .str, .v (.sl false (.pair .str (.pair .str .unit))), .v (.int .i64)], [(.tmp 6, .bool)], [], 0, []⟩
inductive laws_FnExactFillTemplate.Pt where
  | p0 (a0 : ByteArray) (a1 : List ((ByteArray) × ((ByteArray) × (Unit)))) (a2 : Int)
def laws_FnExactFillTemplate.lb : laws_FnExactFillTemplate.Pt → Nat
  | .p0 _ _ _ => 0
def laws_FnExactFillTemplate.st : laws_FnExactFillTemplate.Pt → St
  | .p0 a0 a1 a2 => enter [.v .str a0, .v (.sl false (.pair .str (.pair .str .unit))) a1, .v (.int .i64) a2] 0
def laws_FnExactFillTemplate.step (n : Nat) (K : laws_FnExactFillTemplate.Pt → Option (Tup [.bool])) : laws_FnExactFillTemplate.Pt → Option (Tup [.bool])
  | .p0 a0 a1 a2 => cond (decide ((1048576 : Int) < ((ByteArray.size a0) : Int))) (some true) ((laws_szLabelS n a1 (1048576 : Int)).bind fun (r6 : Int) => cond (decide (r6 < (0 : Int))) (some true) ((laws_toLabelS n a1).bind fun r7 => (spec_FillTemplate n a0 r7 a2).bind fun r8 => (laws_toLabelS n a1).bind fun r9 => (impl_FillTemplate n a0 r9 a2).bind fun r10 => cond (!(seq r10 r8)) (some false) ((laws_toLabelS n a1).bind fun r11 => (laws_eqLabelS n r9 r11).bind fun r12 => cond (!r12) (some false) (some true))))
def laws_FnExactFillTemplate (n : Nat) (a0 : ByteArray) (a1 : List ((ByteArray) × ((ByteArray) × (Unit)))) (a2 : Int) : Option (Tup [.bool]) := goRec laws_FnExactFillTemplate.step n (.p0 a0 a1 a2)
def laws_FnExactFillTemplate.spec : Ctr := ⟨6, [.v .str, .v (.sl false (.pair .str (.pair .str .unit))), .v (.int .i64)], [.bool], [], none, fun n x => laws_FnExactFillTemplate n x.1 x.2.1 x.2.2.1⟩
theorem laws_FnExactFillTemplate.seg_eq : SegEq ty gl laws_FnExactFillTemplate.F laws_FnExactFillTemplate.md laws_FnExactFillTemplate.T laws_FnExactFillTemplate.spec laws_FnExactFillTemplate.lb laws_FnExactFillTemplate.st laws_FnExactFillTemplate.step := by
  intro n goto y; cases y <;> kernel_rfl
theorem laws_FnExactFillTemplate.text : Text Go.Proofs.Tryd.prog laws_FnExactFillTemplate.F laws_FnExactFillTemplate.spec := textOf Go.Proofs.Tryd.f6
theorem laws_FnExactFillTemplate.ok : CtrOK Go.Proofs.Tryd.prog gl laws_FnExactFillTemplate.spec :=
  ctr_okS tabs laws_FnExactFillTemplate.text laws_FnExactFillTemplate.seg_eq (fun n x => ⟨.p0 x.1 x.2.1 x.2.2.1, rfl, rfl, rfl⟩) (consC laws_szLabelS.ok (consC laws_toLabelS.ok (consC spec_FillTemplate.ok (consC impl_FillTemplate.ok (consC laws_eqLabelS.ok (nilC))))))
end Go.FT
