/- The functions that the law reaches, each as a Lean function and with its contract, part 1. -/
import Derived.Test.YtcfcnnamjfgahabGreatV1
import Derived.Test.YtcfcnnamjfgahabGreatV2
import Derived.Test.YtcfcnnamjfgahabGreatV3
import Derived.Test.YtcfcnnamjfgahabGreatV4
import Derived.Tactics
import Derived.Tactics2
import Derived.WalkKit
import Derived.Shelf.RegionOpenPlain
import Derived.Shelf.Spec.SlicesInsertGrow
import Derived.Lib.Overlaps
import Derived.Test.YtcfcnnamjfgahabGreatProg
open Go Go.VM
namespace Go.PA
set_option maxRecDepth 100000
set_option linter.unusedVariables false
set_option linter.unusedSimpArgs false
set_option linter.unusedSectionVars false
variable [Bor]
def ty : List (Nat × U) := [(1, .oth), (2, (.int .i64)), (3, (.int .i64)), (4, .bool), (5, (.int .u8)), (6, (.int .u8)), (7, (.pair (.int .i64) (.pair (.int .i64) (.pair .bool (.pair (.int .u8) .unit))))), (8, (.pair (.int .i64) (.pair (.int .i64) (.pair .bool (.pair (.int .u8) .unit))))), (9, .str), (10, .str), (11, .str), (12, (.int .u64)), (15, .oth), (16, .oth), (17, .oth), (18, (.pair .oth .unit)), (19, (.pair .oth .unit)), (20, .oth), (21, (.int .i32)), (22, (.sl false (.pair (.sl false (.pair .str (.pair .str .unit))) (.pair (.sl false (.pair (.int .i64) (.pair (.int .i64) .unit))) .unit)))), (23, (.sl false (.pair (.sl false (.pair .str (.pair (.int .i64) (.pair .str .unit)))) (.pair (.int .i64) (.pair (.int .i64) .unit))))), (24, .oth), (25, .oth), (26, (.sl false (.pair (.sl false (.pair .str (.pair .str .unit))) (.pair (.sl false (.pair (.int .i64) (.pair (.int .i64) .unit))) .unit)))), (27, .oth), (28, .oth), (29, (.sl false (.pair (.sl false (.pair .str (.pair (.int .i64) (.pair .str .unit)))) (.pair (.int .i64) (.pair (.int .i64) .unit))))), (30, .oth), (31, .oth), (32, .oth), (33, .oth), (34, .oth), (35, .oth), (36, (.pair (.int .i64) (.pair (.int .i64) (.pair (.int .i64) (.pair (.sl false (.pair (.sl false (.pair .str (.pair .str .unit))) (.pair (.sl false (.pair (.int .i64) (.pair (.int .i64) .unit))) .unit))) .unit))))), (37, (.pair (.int .i64) (.pair (.int .i64) (.pair (.int .i64) (.pair (.sl false (.pair (.sl false (.pair .str (.pair .str .unit))) (.pair (.sl false (.pair (.int .i64) (.pair (.int .i64) .unit))) .unit))) .unit))))), (38, (.sl false (.pair (.sl false (.pair .str (.pair .str .unit))) (.pair (.int .i64) (.pair (.int .i64) .unit))))), (39, .oth), (40, .oth), (41, (.pair (.int .i64) (.pair (.int .i64) (.pair (.int .i64) (.pair (.sl false (.pair (.sl false (.pair .str (.pair .str .unit))) (.pair (.sl false (.pair (.int .i64) (.pair (.int .i64) .unit))) .unit))) .unit))))), (42, (.pair (.int .i64) (.pair (.int .i64) (.pair (.int .i64) (.pair (.sl false (.pair (.sl false (.pair .str (.pair .str .unit))) (.pair (.sl false (.pair (.int .i64) (.pair (.int .i64) .unit))) .unit))) .unit))))), (43, (.sl false (.int .i64))), (45, .oth), (46, .oth), (47, (.sl false (.pair (.sl false (.pair .str (.pair .str .unit))) (.pair (.int .i64) (.pair (.int .i64) .unit))))), (48, .oth), (49, .oth), (50, .oth), (51, .oth), (52, .oth), (53, .oth), (54, .oth), (55, .oth), (56, .oth), (57, (.sl false (.pair .str (.pair .str .unit)))), (58, (.sl false (.pair (.int .i64) (.pair (.int .i64) .unit)))), (59, (.pair (.sl false (.pair .str (.pair .str .unit))) (.pair (.sl false (.pair (.int .i64) (.pair (.int .i64) .unit))) .unit))), (60, (.pair (.sl false (.pair .str (.pair .str .unit))) (.pair (.sl false (.pair (.int .i64) (.pair (.int .i64) .unit))) .unit))), (61, .oth), (62, (.sl false (.pair .str (.pair (.int .i64) (.pair .str .unit))))), (63, (.pair (.sl false (.pair .str (.pair (.int .i64) (.pair .str .unit)))) (.pair (.int .i64) (.pair (.int .i64) .unit)))), (64, (.pair (.sl false (.pair .str (.pair (.int .i64) (.pair .str .unit)))) (.pair (.int .i64) (.pair (.int .i64) .unit)))), (65, .oth), (66, (.sl false (.pair .str (.pair (.int .i64) (.pair .str .unit))))), (67, (.pair (.sl false (.pair .str (.pair (.int .i64) (.pair .str .unit)))) (.pair (.int .i64) (.pair (.int .i64) .unit)))), (68, (.pair (.sl false (.pair .str (.pair (.int .i64) (.pair .str .unit)))) (.pair (.int .i64) (.pair (.int .i64) .unit)))), (69, .oth), (70, (.sl false (.pair .str (.pair .str .unit)))), (71, (.sl false (.pair (.int .i64) (.pair (.int .i64) .unit)))), (72, (.pair (.sl false (.pair .str (.pair .str .unit))) (.pair (.sl false (.pair (.int .i64) (.pair (.int .i64) .unit))) .unit))), (73, (.pair (.sl false (.pair .str (.pair .str .unit))) (.pair (.sl false (.pair (.int .i64) (.pair (.int .i64) .unit))) .unit))), (74, .oth), (75, .oth), (76, .oth), (77, .oth), (78, .oth), (79, .oth), (80, .oth), (81, (.pair (.int .i64) (.pair (.int .i64) .unit))), (82, (.pair (.int .i64) (.pair (.int .i64) .unit))), (83, .oth), (84, .oth), (85, (.pair .str (.pair .str .unit))), (86, (.pair .str (.pair .str .unit))), (87, .oth), (88, .oth), (89, .oth), (90, .oth), (91, .oth), (92, .oth), (93, (.pair (.sl false (.pair .str (.pair .str .unit))) (.pair (.int .i64) (.pair (.int .i64) .unit)))), (94, (.pair (.sl false (.pair .str (.pair .str .unit))) (.pair (.int .i64) (.pair (.int .i64) .unit)))), (95, .oth), (96, .oth), (97, (.pair (.sl false (.pair .str (.pair .str .unit))) (.pair (.int .i64) (.pair (.int .i64) .unit)))), (98, (.pair (.sl false (.pair .str (.pair .str .unit))) (.pair (.int .i64) (.pair (.int .i64) .unit)))), (99, .oth), (100, .oth), (101, .oth), (102, .oth), (103, .oth), (104, .oth), (105, .oth), (106, .oth), (107, .oth), (108, .oth), (109, .oth), (110, (.pair .str (.pair (.int .i64) (.pair .str .unit)))), (111, (.pair .str (.pair (.int .i64) (.pair .str .unit)))), (112, .oth), (113, .oth), (114, .oth), (115, .oth), (116, .oth), (117, .oth), (118, .oth), (119, .oth), (120, .oth), (121, .oth), (122, .oth), (123, .oth), (124, .oth), (125, .oth), (126, .oth), (128, .oth), (129, .oth), (130, .oth), (131, .oth), (132, .oth), (133, .oth), (134, .oth), (135, .oth), (136, .oth), (137, (.pair .str (.pair .str .unit))), (138, .oth), (139, (.pair .str (.pair (.int .i64) (.pair .str .unit)))), (140, .oth), (141, .oth), (142, .oth), (143, (.sl false (.sl false (.int .i64)))), (145, .oth), (146, .oth), (147, .oth), (148, .oth), (149, (.pair (.int .i64) (.pair (.int .i64) .unit))), (150, .oth), (151, .oth), (152, .oth), (153, .oth), (154, .oth), (155, .oth), (156, .oth), (157, .oth), (158, (.sl false (.int .u8))), (159, .oth), (160, .oth), (161, .oth), (162, .oth), (163, .oth), (164, .oth), (165, (.sl false (.sl false (.pair (.int .u8) (.pair .bool (.pair .bool .unit)))))), (167, .oth), (168, (.sl false .str)), (170, .oth), (171, (.int .u64)), (172, (.sl false .bool)), (173, .oth), (174, (.pair (.int .u8) (.pair .bool (.pair .bool .unit)))), (175, (.pair (.int .u8) (.pair .bool (.pair .bool .unit)))), (176, (.sl false (.pair (.int .u8) (.pair .bool (.pair .bool .unit))))), (177, .oth), (178, .oth), (179, .oth), (180, .oth), (181, .oth), (182, (.sl false (.sl false .bool))), (183, .oth), (184, (.pair .oth (.pair .oth (.pair .oth (.pair .str .unit))))), (185, (.pair .oth (.pair .oth (.pair .oth (.pair .str .unit))))), (186, (.ar 0 .oth)), (189, .oth), (190, (.int .u32)), (191, (.int .u8)), (192, (.int .u8)), (193, .oth), (194, .oth), (195, (.int .i32)), (196, (.int .i32)), (197, (.pair (.int .u64) (.pair (.int .u64) (.pair (.int .u32) (.pair (.int .u8) (.pair (.int .u8) (.pair (.int .u8) (.pair (.int .u8) (.pair .oth (.pair .oth (.pair (.int .i32) (.pair (.int .i32) .unit)))))))))))), (198, (.pair (.int .u64) (.pair (.int .u64) (.pair (.int .u32) (.pair (.int .u8) (.pair (.int .u8) (.pair (.int .u8) (.pair (.int .u8) (.pair .oth (.pair .oth (.pair (.int .i32) (.pair (.int .i32) .unit)))))))))))), (199, .oth)]
def tyN : List (Nat × U) := [(23, (.sl false (.pair (.bs (.pair .str (.pair (.int .i64) (.pair .str .unit)))) (.pair (.int .i64) (.pair (.int .i64) .unit))))), (29, (.sl false (.pair (.bs (.pair .str (.pair (.int .i64) (.pair .str .unit)))) (.pair (.int .i64) (.pair (.int .i64) .unit))))), (63, (.pair (.bs (.pair .str (.pair (.int .i64) (.pair .str .unit)))) (.pair (.int .i64) (.pair (.int .i64) .unit)))), (64, (.pair (.bs (.pair .str (.pair (.int .i64) (.pair .str .unit)))) (.pair (.int .i64) (.pair (.int .i64) .unit)))), (67, (.pair (.bs (.pair .str (.pair (.int .i64) (.pair .str .unit)))) (.pair (.int .i64) (.pair (.int .i64) .unit)))), (68, (.pair (.bs (.pair .str (.pair (.int .i64) (.pair .str .unit)))) (.pair (.int .i64) (.pair (.int .i64) .unit))))] ++ ty
def gl : List (Nat × TV) := []
theorem tabs : Tabs Go.Proofs.Tryz.prog ty gl := tabs_of (by kernel_rfl) (by kernel_rfl)
theorem tabsN : Tabs Go.Proofs.Tryz.prog tyN gl := tabs_of (by kernel_rfl) (by kernel_rfl)
/-! loop.example/g00039/laws.szLabel -/
def laws_szLabel.T : List Ctr := []
def laws_szLabel.md : List (Nat × List Md) := []
noncomputable def laws_szLabel.F : Fun := ⟨(Go.Proofs.Tryz.f103.body).getD .skip, [.v (.pair .str (.pair .str .unit)), .v (.int .i64)], [(.tmp 4, (.int .i64))], [], 0, []⟩
inductive laws_szLabel.Pt where
  | p0 (a0 : (ByteArray) × ((ByteArray) × (Unit))) (a1 : Int)
def laws_szLabel.lb : laws_szLabel.Pt → Nat
  | .p0 _ _ => 0
def laws_szLabel.st : laws_szLabel.Pt → St
  | .p0 a0 a1 => enter [.v (.pair .str (.pair .str .unit)) a0, .v (.int .i64) a1] 0
def laws_szLabel.step (n : Nat) (K : laws_szLabel.Pt → Option (Tup [(.int .i64)])) : laws_szLabel.Pt → Option (Tup [(.int .i64)])
  | .p0 a0 a1 => cond (decide ((IntKind.wrap .i64 (a1 - ((ByteArray.size a0.1) : Int))) < (0 : Int))) (some (-(1 : Int))) (cond (decide ((IntKind.wrap .i64 ((IntKind.wrap .i64 (a1 - ((ByteArray.size a0.1) : Int))) - ((ByteArray.size a0.2.1) : Int))) < (0 : Int))) (some (-(1 : Int))) (some (IntKind.wrap .i64 ((IntKind.wrap .i64 (a1 - ((ByteArray.size a0.1) : Int))) - ((ByteArray.size a0.2.1) : Int)))))
def laws_szLabel (n : Nat) (a0 : (ByteArray) × ((ByteArray) × (Unit))) (a1 : Int) : Option (Tup [(.int .i64)]) := goRec laws_szLabel.step n (.p0 a0 a1)
def laws_szLabel.spec : Ctr := ⟨103, [.v (.pair .str (.pair .str .unit)), .v (.int .i64)], [(.int .i64)], [], none, fun n x => laws_szLabel n x.1 x.2.1⟩
theorem laws_szLabel.seg_eq : SegEq ty gl laws_szLabel.F laws_szLabel.md laws_szLabel.T laws_szLabel.spec laws_szLabel.lb laws_szLabel.st laws_szLabel.step := by
  intro n goto y; cases y <;> kernel_rfl
theorem laws_szLabel.text : Text Go.Proofs.Tryz.prog laws_szLabel.F laws_szLabel.spec := textOf Go.Proofs.Tryz.f103
theorem laws_szLabel.ok : CtrOK Go.Proofs.Tryz.prog gl laws_szLabel.spec :=
  ctr_okS tabs laws_szLabel.text laws_szLabel.seg_eq (fun n x => ⟨.p0 x.1 x.2.1, rfl, rfl, rfl⟩) (nilC)

/-! loop.example/g00039/laws.szLabelS -/
def laws_szLabelS.T : List Ctr := [laws_szLabel.spec]
def laws_szLabelS.md : List (Nat × List Md) := []
noncomputable def laws_szLabelS.F : Fun := ⟨(Go.Proofs.Tryz.f64.body).getD .skip, [.v (.sl false (.pair .str (.pair .str .unit))), .v (.int .i64)], [(.tmp 4, (.int .i64))], [], 0, [(17, ⟨[0, 1, 5], [], [], false⟩)]⟩
inductive laws_szLabelS.Pt where
  | p0 (a0 : List ((ByteArray) × ((ByteArray) × (Unit)))) (a1 : Int)
  | p17 (y1 : List ((ByteArray) × ((ByteArray) × (Unit)))) (y2 : Int) (y3 : Int)
def laws_szLabelS.lb : laws_szLabelS.Pt → Nat
  | .p0 _ _ => 0
  | .p17 _ _ _ => 17
def laws_szLabelS.st : laws_szLabelS.Pt → St
  | .p0 a0 a1 => enter [.v (.sl false (.pair .str (.pair .str .unit))) a0, .v (.int .i64) a1] 0
  | .p17 y1 y2 y3 => ⟨[(0, .im (.sl false (.pair .str (.pair .str .unit))) y1), (1, .im (.int .i64) y2), (5, .im (.int .i64) y3)], [], 0⟩
def laws_szLabelS.step (n : Nat) (K : laws_szLabelS.Pt → Option (Tup [(.int .i64)])) : laws_szLabelS.Pt → Option (Tup [(.int .i64)])
  | .p0 a0 a1 => cond (decide ((IntKind.wrap .i64 (a1 - ((List.length a0) : Int))) < (0 : Int))) (some (-(1 : Int))) (K (.p17 a0 (IntKind.wrap .i64 (a1 - ((List.length a0) : Int))) (0 : Int)))
  | .p17 y1 y2 y3 => cond (decide (y3 < ((List.length y1) : Int))) (cond (inB y3 (List.length y1)) ((laws_szLabel n (List.getD y1 (Int.toNat y3) default) y2).bind fun (r6 : Int) => cond (decide (r6 < (0 : Int))) (some (-(1 : Int))) (K (.p17 y1 r6 (IntKind.wrap .i64 (y3 + (1 : Int)))))) (none)) (some y2)
def laws_szLabelS (n : Nat) (a0 : List ((ByteArray) × ((ByteArray) × (Unit)))) (a1 : Int) : Option (Tup [(.int .i64)]) := goRec laws_szLabelS.step n (.p0 a0 a1)
def laws_szLabelS.spec : Ctr := ⟨64, [.v (.sl false (.pair .str (.pair .str .unit))), .v (.int .i64)], [(.int .i64)], [], none, fun n x => laws_szLabelS n x.1 x.2.1⟩
theorem laws_szLabelS.seg_eq : SegEq ty gl laws_szLabelS.F laws_szLabelS.md laws_szLabelS.T laws_szLabelS.spec laws_szLabelS.lb laws_szLabelS.st laws_szLabelS.step := by
  intro n goto y; cases y <;> kernel_rfl
theorem laws_szLabelS.text : Text Go.Proofs.Tryz.prog laws_szLabelS.F laws_szLabelS.spec := textOf Go.Proofs.Tryz.f64
theorem laws_szLabelS.ok : CtrOK Go.Proofs.Tryz.prog gl laws_szLabelS.spec :=
  ctr_okS tabs laws_szLabelS.text laws_szLabelS.seg_eq (fun n x => ⟨.p0 x.1 x.2.1, rfl, rfl, rfl⟩) (consC laws_szLabel.ok (nilC))

/-! loop.example/g00039/laws.szSampleS -/
def laws_szSampleS.T : List Ctr := []
def laws_szSampleS.md : List (Nat × List Md) := []
noncomputable def laws_szSampleS.F : Fun := ⟨(Go.Proofs.Tryz.f65.body).getD .skip, [.v (.sl false (.pair (.int .i64) (.pair (.int .i64) .unit))), .v (.int .i64)], [(.tmp 4, (.int .i64))], [], 0, []⟩
inductive laws_szSampleS.Pt where
  | p0 (a0 : List ((Int) × ((Int) × (Unit)))) (a1 : Int)
def laws_szSampleS.lb : laws_szSampleS.Pt → Nat
  | .p0 _ _ => 0
def laws_szSampleS.st : laws_szSampleS.Pt → St
  | .p0 a0 a1 => enter [.v (.sl false (.pair (.int .i64) (.pair (.int .i64) .unit))) a0, .v (.int .i64) a1] 0
def laws_szSampleS.step (n : Nat) (K : laws_szSampleS.Pt → Option (Tup [(.int .i64)])) : laws_szSampleS.Pt → Option (Tup [(.int .i64)])
  | .p0 a0 a1 => cond (decide ((IntKind.wrap .i64 (a1 - ((List.length a0) : Int))) < (0 : Int))) (some (-(1 : Int))) (some (IntKind.wrap .i64 (a1 - ((List.length a0) : Int))))
def laws_szSampleS (n : Nat) (a0 : List ((Int) × ((Int) × (Unit)))) (a1 : Int) : Option (Tup [(.int .i64)]) := goRec laws_szSampleS.step n (.p0 a0 a1)
def laws_szSampleS.spec : Ctr := ⟨65, [.v (.sl false (.pair (.int .i64) (.pair (.int .i64) .unit))), .v (.int .i64)], [(.int .i64)], [], none, fun n x => laws_szSampleS n x.1 x.2.1⟩
theorem laws_szSampleS.seg_eq : SegEq ty gl laws_szSampleS.F laws_szSampleS.md laws_szSampleS.T laws_szSampleS.spec laws_szSampleS.lb laws_szSampleS.st laws_szSampleS.step := by
  intro n goto y; cases y <;> kernel_rfl
theorem laws_szSampleS.text : Text Go.Proofs.Tryz.prog laws_szSampleS.F laws_szSampleS.spec := textOf Go.Proofs.Tryz.f65
theorem laws_szSampleS.ok : CtrOK Go.Proofs.Tryz.prog gl laws_szSampleS.spec :=
  ctr_okS tabs laws_szSampleS.text laws_szSampleS.seg_eq (fun n x => ⟨.p0 x.1 x.2.1, rfl, rfl, rfl⟩) (nilC)

/-! loop.example/g00039/laws.szSeries -/
def laws_szSeries.T : List Ctr := [laws_szLabelS.spec, laws_szSampleS.spec]
def laws_szSeries.md : List (Nat × List Md) := []
noncomputable def laws_szSeries.F : Fun := ⟨(Go.Proofs.Tryz.f30.body).getD .skip, [.v (.pair (.sl false (.pair .str (.pair .str .unit))) (.pair (.sl false (.pair (.int .i64) (.pair (.int .i64) .unit))) .unit)), .v (.int .i64)], [(.tmp 4, (.int .i64))], [], 0, []⟩
inductive laws_szSeries.Pt where
  | p0 (a0 : (List ((ByteArray) × ((ByteArray) × (Unit)))) × ((List ((Int) × ((Int) × (Unit)))) × (Unit))) (a1 : Int)
def laws_szSeries.lb : laws_szSeries.Pt → Nat
  | .p0 _ _ => 0
def laws_szSeries.st : laws_szSeries.Pt → St
  | .p0 a0 a1 => enter [.v (.pair (.sl false (.pair .str (.pair .str .unit))) (.pair (.sl false (.pair (.int .i64) (.pair (.int .i64) .unit))) .unit)) a0, .v (.int .i64) a1] 0
def laws_szSeries.step (n : Nat) (K : laws_szSeries.Pt → Option (Tup [(.int .i64)])) : laws_szSeries.Pt → Option (Tup [(.int .i64)])
  | .p0 a0 a1 => (laws_szLabelS n a0.1 a1).bind fun (r5 : Int) => cond (decide (r5 < (0 : Int))) (some (-(1 : Int))) ((laws_szSampleS n a0.2.1 r5).bind fun (r6 : Int) => cond (decide (r6 < (0 : Int))) (some (-(1 : Int))) (some r6))
def laws_szSeries (n : Nat) (a0 : (List ((ByteArray) × ((ByteArray) × (Unit)))) × ((List ((Int) × ((Int) × (Unit)))) × (Unit))) (a1 : Int) : Option (Tup [(.int .i64)]) := goRec laws_szSeries.step n (.p0 a0 a1)
def laws_szSeries.spec : Ctr := ⟨30, [.v (.pair (.sl false (.pair .str (.pair .str .unit))) (.pair (.sl false (.pair (.int .i64) (.pair (.int .i64) .unit))) .unit)), .v (.int .i64)], [(.int .i64)], [], none, fun n x => laws_szSeries n x.1 x.2.1⟩
theorem laws_szSeries.seg_eq : SegEq ty gl laws_szSeries.F laws_szSeries.md laws_szSeries.T laws_szSeries.spec laws_szSeries.lb laws_szSeries.st laws_szSeries.step := by
  intro n goto y; cases y <;> kernel_rfl
theorem laws_szSeries.text : Text Go.Proofs.Tryz.prog laws_szSeries.F laws_szSeries.spec := textOf Go.Proofs.Tryz.f30
theorem laws_szSeries.ok : CtrOK Go.Proofs.Tryz.prog gl laws_szSeries.spec :=
  ctr_okS tabs laws_szSeries.text laws_szSeries.seg_eq (fun n x => ⟨.p0 x.1 x.2.1, rfl, rfl, rfl⟩) (consC laws_szLabelS.ok (consC laws_szSampleS.ok (nilC)))

/-! loop.example/g00039/laws.szSeriesS -/
def laws_szSeriesS.T : List Ctr := [laws_szSeries.spec]
def laws_szSeriesS.md : List (Nat × List Md) := []
noncomputable def laws_szSeriesS.F : Fun := ⟨(Go.Proofs.Tryz.f5.body).getD .skip, [.v (.sl false (.pair (.sl false (.pair .str (.pair .str .unit))) (.pair (.sl false (.pair (.int .i64) (.pair (.int .i64) .unit))) .unit))), .v (.int .i64)], [(.tmp 4, (.int .i64))], [], 0, [(17, ⟨[0, 1, 5], [], [], false⟩)]⟩
inductive laws_szSeriesS.Pt where
  | p0 (a0 : List ((List ((ByteArray) × ((ByteArray) × (Unit)))) × ((List ((Int) × ((Int) × (Unit)))) × (Unit)))) (a1 : Int)
  | p17 (y1 : List ((List ((ByteArray) × ((ByteArray) × (Unit)))) × ((List ((Int) × ((Int) × (Unit)))) × (Unit)))) (y2 : Int) (y3 : Int)
def laws_szSeriesS.lb : laws_szSeriesS.Pt → Nat
  | .p0 _ _ => 0
  | .p17 _ _ _ => 17
def laws_szSeriesS.st : laws_szSeriesS.Pt → St
  | .p0 a0 a1 => enter [.v (.sl false (.pair (.sl false (.pair .str (.pair .str .unit))) (.pair (.sl false (.pair (.int .i64) (.pair (.int .i64) .unit))) .unit))) a0, .v (.int .i64) a1] 0
  | .p17 y1 y2 y3 => ⟨[(0, .im (.sl false (.pair (.sl false (.pair .str (.pair .str .unit))) (.pair (.sl false (.pair (.int .i64) (.pair (.int .i64) .unit))) .unit))) y1), (1, .im (.int .i64) y2), (5, .im (.int .i64) y3)], [], 0⟩
def laws_szSeriesS.step (n : Nat) (K : laws_szSeriesS.Pt → Option (Tup [(.int .i64)])) : laws_szSeriesS.Pt → Option (Tup [(.int .i64)])
  | .p0 a0 a1 => cond (decide ((IntKind.wrap .i64 (a1 - ((List.length a0) : Int))) < (0 : Int))) (some (-(1 : Int))) (K (.p17 a0 (IntKind.wrap .i64 (a1 - ((List.length a0) : Int))) (0 : Int)))
  | .p17 y1 y2 y3 => cond (decide (y3 < ((List.length y1) : Int))) (cond (inB y3 (List.length y1)) ((laws_szSeries n ((List.getD y1 (Int.toNat y3) default).1, ((List.getD y1 (Int.toNat y3) default).2.1, ())) y2).bind fun (r6 : Int) => cond (decide (r6 < (0 : Int))) (some (-(1 : Int))) (K (.p17 y1 r6 (IntKind.wrap .i64 (y3 + (1 : Int)))))) (none)) (some y2)
def laws_szSeriesS (n : Nat) (a0 : List ((List ((ByteArray) × ((ByteArray) × (Unit)))) × ((List ((Int) × ((Int) × (Unit)))) × (Unit)))) (a1 : Int) : Option (Tup [(.int .i64)]) := goRec laws_szSeriesS.step n (.p0 a0 a1)
def laws_szSeriesS.spec : Ctr := ⟨5, [.v (.sl false (.pair (.sl false (.pair .str (.pair .str .unit))) (.pair (.sl false (.pair (.int .i64) (.pair (.int .i64) .unit))) .unit))), .v (.int .i64)], [(.int .i64)], [], none, fun n x => laws_szSeriesS n x.1 x.2.1⟩
theorem laws_szSeriesS.seg_eq : SegEq ty gl laws_szSeriesS.F laws_szSeriesS.md laws_szSeriesS.T laws_szSeriesS.spec laws_szSeriesS.lb laws_szSeriesS.st laws_szSeriesS.step := by
  intro n goto y; cases y <;> kernel_rfl
theorem laws_szSeriesS.text : Text Go.Proofs.Tryz.prog laws_szSeriesS.F laws_szSeriesS.spec := textOf Go.Proofs.Tryz.f5
theorem laws_szSeriesS.ok : CtrOK Go.Proofs.Tryz.prog gl laws_szSeriesS.spec :=
  ctr_okS tabs laws_szSeriesS.text laws_szSeriesS.seg_eq (fun n x => ⟨.p0 x.1 x.2.1, rfl, rfl, rfl⟩) (consC laws_szSeries.ok (nilC))

/-! loop.example/g00039/laws.szHead -/
def laws_szHead.T : List Ctr := [laws_szSeriesS.spec]
def laws_szHead.md : List (Nat × List Md) := []
noncomputable def laws_szHead.F : Fun := ⟨(Go.Proofs.Tryz.f16.body).getD .skip, [.v (.pair (.int .i64) (.pair (.int .i64) (.pair (.int .i64) (.pair (.sl false (.pair (.sl false (.pair .str (.pair .str .unit))) (.pair (.sl false (.pair (.int .i64) (.pair (.int .i64) .unit))) .unit))) .unit)))), .v (.int .i64)], [(.tmp 4, (.int .i64))], [], 0, []⟩
inductive laws_szHead.Pt where
  | p0 (a0 : (Int) × ((Int) × ((Int) × ((List ((List ((ByteArray) × ((ByteArray) × (Unit)))) × ((List ((Int) × ((Int) × (Unit)))) × (Unit)))) × (Unit))))) (a1 : Int)
def laws_szHead.lb : laws_szHead.Pt → Nat
  | .p0 _ _ => 0
def laws_szHead.st : laws_szHead.Pt → St
  | .p0 a0 a1 => enter [.v (.pair (.int .i64) (.pair (.int .i64) (.pair (.int .i64) (.pair (.sl false (.pair (.sl false (.pair .str (.pair .str .unit))) (.pair (.sl false (.pair (.int .i64) (.pair (.int .i64) .unit))) .unit))) .unit)))) a0, .v (.int .i64) a1] 0
def laws_szHead.step (n : Nat) (K : laws_szHead.Pt → Option (Tup [(.int .i64)])) : laws_szHead.Pt → Option (Tup [(.int .i64)])
  | .p0 a0 a1 => (laws_szSeriesS n a0.2.2.2.1 a1).bind fun (r5 : Int) => cond (decide (r5 < (0 : Int))) (some (-(1 : Int))) (some r5)
def laws_szHead (n : Nat) (a0 : (Int) × ((Int) × ((Int) × ((List ((List ((ByteArray) × ((ByteArray) × (Unit)))) × ((List ((Int) × ((Int) × (Unit)))) × (Unit)))) × (Unit))))) (a1 : Int) : Option (Tup [(.int .i64)]) := goRec laws_szHead.step n (.p0 a0 a1)
def laws_szHead.spec : Ctr := ⟨16, [.v (.pair (.int .i64) (.pair (.int .i64) (.pair (.int .i64) (.pair (.sl false (.pair (.sl false (.pair .str (.pair .str .unit))) (.pair (.sl false (.pair (.int .i64) (.pair (.int .i64) .unit))) .unit))) .unit)))), .v (.int .i64)], [(.int .i64)], [], none, fun n x => laws_szHead n x.1 x.2.1⟩
theorem laws_szHead.seg_eq : SegEq ty gl laws_szHead.F laws_szHead.md laws_szHead.T laws_szHead.spec laws_szHead.lb laws_szHead.st laws_szHead.step := by
  intro n goto y; cases y <;> kernel_rfl
theorem laws_szHead.text : Text Go.Proofs.Tryz.prog laws_szHead.F laws_szHead.spec := textOf Go.Proofs.Tryz.f16
theorem laws_szHead.ok : CtrOK Go.Proofs.Tryz.prog gl laws_szHead.spec :=
  ctr_okS tabs laws_szHead.text laws_szHead.seg_eq (fun n x => ⟨.p0 x.1 x.2.1, rfl, rfl, rfl⟩) (consC laws_szSeriesS.ok (nilC))

/-! loop.example/g00039/laws.szPut -/
def laws_szPut.T : List Ctr := [laws_szLabelS.spec]
def laws_szPut.md : List (Nat × List Md) := []
noncomputable def laws_szPut.F : Fun := ⟨(Go.Proofs.Tryz.f55.body).getD .skip, [.v (.pair (.sl false (.pair .str (.pair .str .unit))) (.pair (.int .i64) (.pair (.int .i64) .unit))), .v (.int .i64)], [(.tmp 4, (.int .i64))], [], 0, []⟩
inductive laws_szPut.Pt where
  | p0 (a0 : (List ((ByteArray) × ((ByteArray) × (Unit)))) × ((Int) × ((Int) × (Unit)))) (a1 : Int)
def laws_szPut.lb : laws_szPut.Pt → Nat
  | .p0 _ _ => 0
def laws_szPut.st : laws_szPut.Pt → St
  | .p0 a0 a1 => enter [.v (.pair (.sl false (.pair .str (.pair .str .unit))) (.pair (.int .i64) (.pair (.int .i64) .unit))) a0, .v (.int .i64) a1] 0
def laws_szPut.step (n : Nat) (K : laws_szPut.Pt → Option (Tup [(.int .i64)])) : laws_szPut.Pt → Option (Tup [(.int .i64)])
  | .p0 a0 a1 => (laws_szLabelS n a0.1 a1).bind fun (r5 : Int) => cond (decide (r5 < (0 : Int))) (some (-(1 : Int))) (some r5)
def laws_szPut (n : Nat) (a0 : (List ((ByteArray) × ((ByteArray) × (Unit)))) × ((Int) × ((Int) × (Unit)))) (a1 : Int) : Option (Tup [(.int .i64)]) := goRec laws_szPut.step n (.p0 a0 a1)
def laws_szPut.spec : Ctr := ⟨55, [.v (.pair (.sl false (.pair .str (.pair .str .unit))) (.pair (.int .i64) (.pair (.int .i64) .unit))), .v (.int .i64)], [(.int .i64)], [], none, fun n x => laws_szPut n x.1 x.2.1⟩
theorem laws_szPut.seg_eq : SegEq ty gl laws_szPut.F laws_szPut.md laws_szPut.T laws_szPut.spec laws_szPut.lb laws_szPut.st laws_szPut.step := by
  intro n goto y; cases y <;> kernel_rfl
theorem laws_szPut.text : Text Go.Proofs.Tryz.prog laws_szPut.F laws_szPut.spec := textOf Go.Proofs.Tryz.f55
theorem laws_szPut.ok : CtrOK Go.Proofs.Tryz.prog gl laws_szPut.spec :=
  ctr_okS tabs laws_szPut.text laws_szPut.seg_eq (fun n x => ⟨.p0 x.1 x.2.1, rfl, rfl, rfl⟩) (consC laws_szLabelS.ok (nilC))

/-! loop.example/g00039/laws.szPutS -/
def laws_szPutS.T : List Ctr := [laws_szPut.spec]
def laws_szPutS.md : List (Nat × List Md) := []
noncomputable def laws_szPutS.F : Fun := ⟨(Go.Proofs.Tryz.f17.body).getD .skip, [.v (.sl false (.pair (.sl false (.pair .str (.pair .str .unit))) (.pair (.int .i64) (.pair (.int .i64) .unit)))), .v (.int .i64)], [(.tmp 4, (.int .i64))], [], 0, [(17, ⟨[0, 1, 5], [], [], false⟩)]⟩
inductive laws_szPutS.Pt where
  | p0 (a0 : List ((List ((ByteArray) × ((ByteArray) × (Unit)))) × ((Int) × ((Int) × (Unit))))) (a1 : Int)
  | p17 (y1 : List ((List ((ByteArray) × ((ByteArray) × (Unit)))) × ((Int) × ((Int) × (Unit))))) (y2 : Int) (y3 : Int)
def laws_szPutS.lb : laws_szPutS.Pt → Nat
  | .p0 _ _ => 0
  | .p17 _ _ _ => 17
def laws_szPutS.st : laws_szPutS.Pt → St
  | .p0 a0 a1 => enter [.v (.sl false (.pair (.sl false (.pair .str (.pair .str .unit))) (.pair (.int .i64) (.pair (.int .i64) .unit)))) a0, .v (.int .i64) a1] 0
  | .p17 y1 y2 y3 => ⟨[(0, .im (.sl false (.pair (.sl false (.pair .str (.pair .str .unit))) (.pair (.int .i64) (.pair (.int .i64) .unit)))) y1), (1, .im (.int .i64) y2), (5, .im (.int .i64) y3)], [], 0⟩
def laws_szPutS.step (n : Nat) (K : laws_szPutS.Pt → Option (Tup [(.int .i64)])) : laws_szPutS.Pt → Option (Tup [(.int .i64)])
  | .p0 a0 a1 => cond (decide ((IntKind.wrap .i64 (a1 - ((List.length a0) : Int))) < (0 : Int))) (some (-(1 : Int))) (K (.p17 a0 (IntKind.wrap .i64 (a1 - ((List.length a0) : Int))) (0 : Int)))
  | .p17 y1 y2 y3 => cond (decide (y3 < ((List.length y1) : Int))) (cond (inB y3 (List.length y1)) ((laws_szPut n ((List.getD y1 (Int.toNat y3) default).1, (List.getD y1 (Int.toNat y3) default).2) y2).bind fun (r6 : Int) => cond (decide (r6 < (0 : Int))) (some (-(1 : Int))) (K (.p17 y1 r6 (IntKind.wrap .i64 (y3 + (1 : Int)))))) (none)) (some y2)
def laws_szPutS (n : Nat) (a0 : List ((List ((ByteArray) × ((ByteArray) × (Unit)))) × ((Int) × ((Int) × (Unit))))) (a1 : Int) : Option (Tup [(.int .i64)]) := goRec laws_szPutS.step n (.p0 a0 a1)
def laws_szPutS.spec : Ctr := ⟨17, [.v (.sl false (.pair (.sl false (.pair .str (.pair .str .unit))) (.pair (.int .i64) (.pair (.int .i64) .unit)))), .v (.int .i64)], [(.int .i64)], [], none, fun n x => laws_szPutS n x.1 x.2.1⟩
theorem laws_szPutS.seg_eq : SegEq ty gl laws_szPutS.F laws_szPutS.md laws_szPutS.T laws_szPutS.spec laws_szPutS.lb laws_szPutS.st laws_szPutS.step := by
  intro n goto y; cases y <;> kernel_rfl
theorem laws_szPutS.text : Text Go.Proofs.Tryz.prog laws_szPutS.F laws_szPutS.spec := textOf Go.Proofs.Tryz.f17
theorem laws_szPutS.ok : CtrOK Go.Proofs.Tryz.prog gl laws_szPutS.spec :=
  ctr_okS tabs laws_szPutS.text laws_szPutS.seg_eq (fun n x => ⟨.p0 x.1 x.2.1, rfl, rfl, rfl⟩) (consC laws_szPut.ok (nilC))

/-! loop.example/g00039/laws.toLabel -/
def laws_toLabel.T : List Ctr := []
def laws_toLabel.md : List (Nat × List Md) := []
noncomputable def laws_toLabel.F : Fun := ⟨(Go.Proofs.Tryz.f113.body).getD .skip, [.v (.pair .str (.pair .str .unit))], [(.cell 2 86, (.pair .str (.pair .str .unit)))], [], 0, []⟩
inductive laws_toLabel.Pt where
  | p0 (a0 : (ByteArray) × ((ByteArray) × (Unit)))
def laws_toLabel.lb : laws_toLabel.Pt → Nat
  | .p0 _ => 0
def laws_toLabel.st : laws_toLabel.Pt → St
  | .p0 a0 => enter [.v (.pair .str (.pair .str .unit)) a0] 0
def laws_toLabel.step (n : Nat) (K : laws_toLabel.Pt → Option (Tup [(.pair .str (.pair .str .unit))])) : laws_toLabel.Pt → Option (Tup [(.pair .str (.pair .str .unit))])
  | .p0 a0 => some a0
def laws_toLabel (n : Nat) (a0 : (ByteArray) × ((ByteArray) × (Unit))) : Option (Tup [(.pair .str (.pair .str .unit))]) := goRec laws_toLabel.step n (.p0 a0)
def laws_toLabel.spec : Ctr := ⟨113, [.v (.pair .str (.pair .str .unit))], [(.pair .str (.pair .str .unit))], [], none, fun n x => laws_toLabel n x.1⟩
theorem laws_toLabel.seg_eq : SegEq ty gl laws_toLabel.F laws_toLabel.md laws_toLabel.T laws_toLabel.spec laws_toLabel.lb laws_toLabel.st laws_toLabel.step := by
  intro n goto y; cases y <;> kernel_rfl
theorem laws_toLabel.text : Text Go.Proofs.Tryz.prog laws_toLabel.F laws_toLabel.spec := textOf Go.Proofs.Tryz.f113
theorem laws_toLabel.ok : CtrOK Go.Proofs.Tryz.prog gl laws_toLabel.spec :=
  ctr_okS tabs laws_toLabel.text laws_toLabel.seg_eq (fun n x => ⟨.p0 x.1, rfl, rfl, rfl⟩) (nilC)

/-! loop.example/g00039/laws.toLabelS -/
def laws_toLabelS.T : List Ctr := [laws_toLabel.spec]
def laws_toLabelS.md : List (Nat × List Md) := []
noncomputable def laws_toLabelS.F : Fun := ⟨(Go.Proofs.Tryz.f75.body).getD .skip, [.v (.sl false (.pair .str (.pair .str .unit)))], [(.tmp 2, (.sl false (.pair .str (.pair .str .unit))))], [], 0, [(9, ⟨[0, 3, 4], [(3, (.pair .str (.pair .str .unit)))], [], false⟩)]⟩
inductive laws_toLabelS.Pt where
  | p0 (a0 : List ((ByteArray) × ((ByteArray) × (Unit))))
  | p9 (y1 : List ((ByteArray) × ((ByteArray) × (Unit)))) (y2 : Int) (y3 : List ((ByteArray) × ((ByteArray) × (Unit))))
def laws_toLabelS.lb : laws_toLabelS.Pt → Nat
  | .p0 _ => 0
  | .p9 _ _ _ => 9
def laws_toLabelS.st : laws_toLabelS.Pt → St
  | .p0 a0 => enter [.v (.sl false (.pair .str (.pair .str .unit))) a0] 0
  | .p9 y1 y2 y3 => ⟨[(0, .im (.sl false (.pair .str (.pair .str .unit))) y1), (3, .hs 0 [] none 0), (4, .im (.int .i64) y2)], [(0, .arr false (.pair .str (.pair .str .unit)) y3 0)], 1⟩
def laws_toLabelS.step (n : Nat) (K : laws_toLabelS.Pt → Option (Tup [(.sl false (.pair .str (.pair .str .unit)))])) : laws_toLabelS.Pt → Option (Tup [(.sl false (.pair .str (.pair .str .unit)))])
  | .p0 a0 => cond (inC ((List.length a0) : Int) ((List.length a0) : Int) 1000000000) (K (.p9 a0 (0 : Int) (List.replicate (Int.toNat ((List.length a0) : Int)) (default : (ByteArray) × ((ByteArray) × (Unit)))))) (none)
  | .p9 y1 y2 y3 => cond (decide (y2 < ((List.length y1) : Int))) (cond (inB y2 (List.length y1)) ((laws_toLabel n (List.getD y1 (Int.toNat y2) default)).bind fun r6 => cond (inB y2 (List.length y3)) (K (.p9 y1 (IntKind.wrap .i64 (y2 + (1 : Int))) (List.set y3 (0 + (Int.toNat y2)) r6))) (none)) (none)) (some y3)
def laws_toLabelS (n : Nat) (a0 : List ((ByteArray) × ((ByteArray) × (Unit)))) : Option (Tup [(.sl false (.pair .str (.pair .str .unit)))]) := goRec laws_toLabelS.step n (.p0 a0)
def laws_toLabelS.spec : Ctr := ⟨75, [.v (.sl false (.pair .str (.pair .str .unit)))], [(.sl false (.pair .str (.pair .str .unit)))], [], none, fun n x => laws_toLabelS n x.1⟩
theorem laws_toLabelS.seg_eq : SegEq ty gl laws_toLabelS.F laws_toLabelS.md laws_toLabelS.T laws_toLabelS.spec laws_toLabelS.lb laws_toLabelS.st laws_toLabelS.step := by
  intro n goto y; cases y <;> kernel_rfl
theorem laws_toLabelS.text : Text Go.Proofs.Tryz.prog laws_toLabelS.F laws_toLabelS.spec := textOf Go.Proofs.Tryz.f75
theorem laws_toLabelS.ok : CtrOK Go.Proofs.Tryz.prog gl laws_toLabelS.spec :=
  ctr_okS tabs laws_toLabelS.text laws_toLabelS.seg_eq (fun n x => ⟨.p0 x.1, rfl, rfl, rfl⟩) (consC laws_toLabel.ok (nilC))

/-! loop.example/g00039/laws.toSample -/
def laws_toSample.T : List Ctr := []
def laws_toSample.md : List (Nat × List Md) := []
noncomputable def laws_toSample.F : Fun := ⟨(Go.Proofs.Tryz.f114.body).getD .skip, [.v (.pair (.int .i64) (.pair (.int .i64) .unit))], [(.cell 2 82, (.pair (.int .i64) (.pair (.int .i64) .unit)))], [], 0, []⟩
inductive laws_toSample.Pt where
  | p0 (a0 : (Int) × ((Int) × (Unit)))
def laws_toSample.lb : laws_toSample.Pt → Nat
  | .p0 _ => 0
def laws_toSample.st : laws_toSample.Pt → St
  | .p0 a0 => enter [.v (.pair (.int .i64) (.pair (.int .i64) .unit)) a0] 0
def laws_toSample.step (n : Nat) (K : laws_toSample.Pt → Option (Tup [(.pair (.int .i64) (.pair (.int .i64) .unit))])) : laws_toSample.Pt → Option (Tup [(.pair (.int .i64) (.pair (.int .i64) .unit))])
  | .p0 a0 => some a0
def laws_toSample (n : Nat) (a0 : (Int) × ((Int) × (Unit))) : Option (Tup [(.pair (.int .i64) (.pair (.int .i64) .unit))]) := goRec laws_toSample.step n (.p0 a0)
def laws_toSample.spec : Ctr := ⟨114, [.v (.pair (.int .i64) (.pair (.int .i64) .unit))], [(.pair (.int .i64) (.pair (.int .i64) .unit))], [], none, fun n x => laws_toSample n x.1⟩
theorem laws_toSample.seg_eq : SegEq ty gl laws_toSample.F laws_toSample.md laws_toSample.T laws_toSample.spec laws_toSample.lb laws_toSample.st laws_toSample.step := by
  intro n goto y; cases y <;> kernel_rfl
theorem laws_toSample.text : Text Go.Proofs.Tryz.prog laws_toSample.F laws_toSample.spec := textOf Go.Proofs.Tryz.f114
theorem laws_toSample.ok : CtrOK Go.Proofs.Tryz.prog gl laws_toSample.spec :=
  ctr_okS tabs laws_toSample.text laws_toSample.seg_eq (fun n x => ⟨.p0 x.1, rfl, rfl, rfl⟩) (nilC)

/-! loop.example/g00039/laws.toSampleS -/
def laws_toSampleS.T : List Ctr := [laws_toSample.spec]
def laws_toSampleS.md : List (Nat × List Md) := []
noncomputable def laws_toSampleS.F : Fun := ⟨(Go.Proofs.Tryz.f76.body).getD .skip, [.v (.sl false (.pair (.int .i64) (.pair (.int .i64) .unit)))], [(.tmp 2, (.sl false (.pair (.int .i64) (.pair (.int .i64) .unit))))], [], 0, [(9, ⟨[0, 3, 4], [(3, (.pair (.int .i64) (.pair (.int .i64) .unit)))], [], false⟩)]⟩
inductive laws_toSampleS.Pt where
  | p0 (a0 : List ((Int) × ((Int) × (Unit))))
  | p9 (y1 : List ((Int) × ((Int) × (Unit)))) (y2 : Int) (y3 : List ((Int) × ((Int) × (Unit))))
def laws_toSampleS.lb : laws_toSampleS.Pt → Nat
  | .p0 _ => 0
  | .p9 _ _ _ => 9
def laws_toSampleS.st : laws_toSampleS.Pt → St
  | .p0 a0 => enter [.v (.sl false (.pair (.int .i64) (.pair (.int .i64) .unit))) a0] 0
  | .p9 y1 y2 y3 => ⟨[(0, .im (.sl false (.pair (.int .i64) (.pair (.int .i64) .unit))) y1), (3, .hs 0 [] none 0), (4, .im (.int .i64) y2)], [(0, .arr false (.pair (.int .i64) (.pair (.int .i64) .unit)) y3 0)], 1⟩
def laws_toSampleS.step (n : Nat) (K : laws_toSampleS.Pt → Option (Tup [(.sl false (.pair (.int .i64) (.pair (.int .i64) .unit)))])) : laws_toSampleS.Pt → Option (Tup [(.sl false (.pair (.int .i64) (.pair (.int .i64) .unit)))])
  | .p0 a0 => cond (inC ((List.length a0) : Int) ((List.length a0) : Int) 1000000000) (K (.p9 a0 (0 : Int) (List.replicate (Int.toNat ((List.length a0) : Int)) (default : (Int) × ((Int) × (Unit)))))) (none)
  | .p9 y1 y2 y3 => cond (decide (y2 < ((List.length y1) : Int))) (cond (inB y2 (List.length y1)) ((laws_toSample n (List.getD y1 (Int.toNat y2) default)).bind fun r6 => cond (inB y2 (List.length y3)) (K (.p9 y1 (IntKind.wrap .i64 (y2 + (1 : Int))) (List.set y3 (0 + (Int.toNat y2)) r6))) (none)) (none)) (some y3)
def laws_toSampleS (n : Nat) (a0 : List ((Int) × ((Int) × (Unit)))) : Option (Tup [(.sl false (.pair (.int .i64) (.pair (.int .i64) .unit)))]) := goRec laws_toSampleS.step n (.p0 a0)
def laws_toSampleS.spec : Ctr := ⟨76, [.v (.sl false (.pair (.int .i64) (.pair (.int .i64) .unit)))], [(.sl false (.pair (.int .i64) (.pair (.int .i64) .unit)))], [], none, fun n x => laws_toSampleS n x.1⟩
theorem laws_toSampleS.seg_eq : SegEq ty gl laws_toSampleS.F laws_toSampleS.md laws_toSampleS.T laws_toSampleS.spec laws_toSampleS.lb laws_toSampleS.st laws_toSampleS.step := by
  intro n goto y; cases y <;> kernel_rfl
theorem laws_toSampleS.text : Text Go.Proofs.Tryz.prog laws_toSampleS.F laws_toSampleS.spec := textOf Go.Proofs.Tryz.f76
theorem laws_toSampleS.ok : CtrOK Go.Proofs.Tryz.prog gl laws_toSampleS.spec :=
  ctr_okS tabs laws_toSampleS.text laws_toSampleS.seg_eq (fun n x => ⟨.p0 x.1, rfl, rfl, rfl⟩) (consC laws_toSample.ok (nilC))

/-! loop.example/g00039/laws.toSeries -/
def laws_toSeries.T : List Ctr := [laws_toLabelS.spec, laws_toSampleS.spec]
def laws_toSeries.md : List (Nat × List Md) := []
noncomputable def laws_toSeries.F : Fun := ⟨(Go.Proofs.Tryz.f35.body).getD .skip, [.v (.pair (.sl false (.pair .str (.pair .str .unit))) (.pair (.sl false (.pair (.int .i64) (.pair (.int .i64) .unit))) .unit))], [(.cell 2 73, (.pair (.sl false (.pair .str (.pair .str .unit))) (.pair (.sl false (.pair (.int .i64) (.pair (.int .i64) .unit))) .unit)))], [], 0, []⟩
inductive laws_toSeries.Pt where
  | p0 (a0 : (List ((ByteArray) × ((ByteArray) × (Unit)))) × ((List ((Int) × ((Int) × (Unit)))) × (Unit)))
def laws_toSeries.lb : laws_toSeries.Pt → Nat
  | .p0 _ => 0
def laws_toSeries.st : laws_toSeries.Pt → St
  | .p0 a0 => enter [.v (.pair (.sl false (.pair .str (.pair .str .unit))) (.pair (.sl false (.pair (.int .i64) (.pair (.int .i64) .unit))) .unit)) a0] 0
def laws_toSeries.step (n : Nat) (K : laws_toSeries.Pt → Option (Tup [(.pair (.sl false (.pair .str (.pair .str .unit))) (.pair (.sl false (.pair (.int .i64) (.pair (.int .i64) .unit))) .unit))])) : laws_toSeries.Pt → Option (Tup [(.pair (.sl false (.pair .str (.pair .str .unit))) (.pair (.sl false (.pair (.int .i64) (.pair (.int .i64) .unit))) .unit))])
  | .p0 a0 => (laws_toLabelS n a0.1).bind fun r4 => (laws_toSampleS n a0.2.1).bind fun r5 => some (r4, (r5, ()))
def laws_toSeries (n : Nat) (a0 : (List ((ByteArray) × ((ByteArray) × (Unit)))) × ((List ((Int) × ((Int) × (Unit)))) × (Unit))) : Option (Tup [(.pair (.sl false (.pair .str (.pair .str .unit))) (.pair (.sl false (.pair (.int .i64) (.pair (.int .i64) .unit))) .unit))]) := goRec laws_toSeries.step n (.p0 a0)
def laws_toSeries.spec : Ctr := ⟨35, [.v (.pair (.sl false (.pair .str (.pair .str .unit))) (.pair (.sl false (.pair (.int .i64) (.pair (.int .i64) .unit))) .unit))], [(.pair (.sl false (.pair .str (.pair .str .unit))) (.pair (.sl false (.pair (.int .i64) (.pair (.int .i64) .unit))) .unit))], [], none, fun n x => laws_toSeries n x.1⟩
theorem laws_toSeries.seg_eq : SegEq ty gl laws_toSeries.F laws_toSeries.md laws_toSeries.T laws_toSeries.spec laws_toSeries.lb laws_toSeries.st laws_toSeries.step := by
  intro n goto y; cases y <;> kernel_rfl
theorem laws_toSeries.text : Text Go.Proofs.Tryz.prog laws_toSeries.F laws_toSeries.spec := textOf Go.Proofs.Tryz.f35
theorem laws_toSeries.ok : CtrOK Go.Proofs.Tryz.prog gl laws_toSeries.spec :=
  ctr_okS tabs laws_toSeries.text laws_toSeries.seg_eq (fun n x => ⟨.p0 x.1, rfl, rfl, rfl⟩) (consC laws_toLabelS.ok (consC laws_toSampleS.ok (nilC)))

/-! loop.example/g00039/laws.toSeriesS -/
def laws_toSeriesS.T : List Ctr := [laws_toSeries.spec]
def laws_toSeriesS.md : List (Nat × List Md) := []
noncomputable def laws_toSeriesS.F : Fun := ⟨(Go.Proofs.Tryz.f8.body).getD .skip, [.v (.sl false (.pair (.sl false (.pair .str (.pair .str .unit))) (.pair (.sl false (.pair (.int .i64) (.pair (.int .i64) .unit))) .unit)))], [(.tmp 2, (.sl false (.pair (.sl false (.pair .str (.pair .str .unit))) (.pair (.sl false (.pair (.int .i64) (.pair (.int .i64) .unit))) .unit))))], [], 0, [(9, ⟨[0, 3, 4], [(3, (.pair (.sl false (.pair .str (.pair .str .unit))) (.pair (.sl false (.pair (.int .i64) (.pair (.int .i64) .unit))) .unit)))], [], false⟩)]⟩
inductive laws_toSeriesS.Pt where
  | p0 (a0 : List ((List ((ByteArray) × ((ByteArray) × (Unit)))) × ((List ((Int) × ((Int) × (Unit)))) × (Unit))))
  | p9 (y1 : List ((List ((ByteArray) × ((ByteArray) × (Unit)))) × ((List ((Int) × ((Int) × (Unit)))) × (Unit)))) (y2 : Int) (y3 : List ((List ((ByteArray) × ((ByteArray) × (Unit)))) × ((List ((Int) × ((Int) × (Unit)))) × (Unit))))
def laws_toSeriesS.lb : laws_toSeriesS.Pt → Nat
  | .p0 _ => 0
  | .p9 _ _ _ => 9
def laws_toSeriesS.st : laws_toSeriesS.Pt → St
  | .p0 a0 => enter [.v (.sl false (.pair (.sl false (.pair .str (.pair .str .unit))) (.pair (.sl false (.pair (.int .i64) (.pair (.int .i64) .unit))) .unit))) a0] 0
  | .p9 y1 y2 y3 => ⟨[(0, .im (.sl false (.pair (.sl false (.pair .str (.pair .str .unit))) (.pair (.sl false (.pair (.int .i64) (.pair (.int .i64) .unit))) .unit))) y1), (3, .hs 0 [] none 0), (4, .im (.int .i64) y2)], [(0, .arr false (.pair (.sl false (.pair .str (.pair .str .unit))) (.pair (.sl false (.pair (.int .i64) (.pair (.int .i64) .unit))) .unit)) y3 0)], 1⟩
def laws_toSeriesS.step (n : Nat) (K : laws_toSeriesS.Pt → Option (Tup [(.sl false (.pair (.sl false (.pair .str (.pair .str .unit))) (.pair (.sl false (.pair (.int .i64) (.pair (.int .i64) .unit))) .unit)))])) : laws_toSeriesS.Pt → Option (Tup [(.sl false (.pair (.sl false (.pair .str (.pair .str .unit))) (.pair (.sl false (.pair (.int .i64) (.pair (.int .i64) .unit))) .unit)))])
  | .p0 a0 => cond (inC ((List.length a0) : Int) ((List.length a0) : Int) 1000000000) (K (.p9 a0 (0 : Int) (List.replicate (Int.toNat ((List.length a0) : Int)) (default : (List ((ByteArray) × ((ByteArray) × (Unit)))) × ((List ((Int) × ((Int) × (Unit)))) × (Unit)))))) (none)
  | .p9 y1 y2 y3 => cond (decide (y2 < ((List.length y1) : Int))) (cond (inB y2 (List.length y1)) ((laws_toSeries n ((List.getD y1 (Int.toNat y2) default).1, ((List.getD y1 (Int.toNat y2) default).2.1, ()))).bind fun r6 => cond (inB y2 (List.length y3)) (K (.p9 y1 (IntKind.wrap .i64 (y2 + (1 : Int))) (List.set y3 (0 + (Int.toNat y2)) r6))) (none)) (none)) (some y3)
def laws_toSeriesS (n : Nat) (a0 : List ((List ((ByteArray) × ((ByteArray) × (Unit)))) × ((List ((Int) × ((Int) × (Unit)))) × (Unit)))) : Option (Tup [(.sl false (.pair (.sl false (.pair .str (.pair .str .unit))) (.pair (.sl false (.pair (.int .i64) (.pair (.int .i64) .unit))) .unit)))]) := goRec laws_toSeriesS.step n (.p0 a0)
def laws_toSeriesS.spec : Ctr := ⟨8, [.v (.sl false (.pair (.sl false (.pair .str (.pair .str .unit))) (.pair (.sl false (.pair (.int .i64) (.pair (.int .i64) .unit))) .unit)))], [(.sl false (.pair (.sl false (.pair .str (.pair .str .unit))) (.pair (.sl false (.pair (.int .i64) (.pair (.int .i64) .unit))) .unit)))], [], none, fun n x => laws_toSeriesS n x.1⟩
theorem laws_toSeriesS.seg_eq : SegEq ty gl laws_toSeriesS.F laws_toSeriesS.md laws_toSeriesS.T laws_toSeriesS.spec laws_toSeriesS.lb laws_toSeriesS.st laws_toSeriesS.step := by
  intro n goto y; cases y <;> kernel_rfl
theorem laws_toSeriesS.text : Text Go.Proofs.Tryz.prog laws_toSeriesS.F laws_toSeriesS.spec := textOf Go.Proofs.Tryz.f8
theorem laws_toSeriesS.ok : CtrOK Go.Proofs.Tryz.prog gl laws_toSeriesS.spec :=
  ctr_okS tabs laws_toSeriesS.text laws_toSeriesS.seg_eq (fun n x => ⟨.p0 x.1, rfl, rfl, rfl⟩) (consC laws_toSeries.ok (nilC))

/-! loop.example/g00039/laws.toHead -/
def laws_toHead.T : List Ctr := [laws_toSeriesS.spec]
def laws_toHead.md : List (Nat × List Md) := []
noncomputable def laws_toHead.F : Fun := ⟨(Go.Proofs.Tryz.f19.body).getD .skip, [.v (.pair (.int .i64) (.pair (.int .i64) (.pair (.int .i64) (.pair (.sl false (.pair (.sl false (.pair .str (.pair .str .unit))) (.pair (.sl false (.pair (.int .i64) (.pair (.int .i64) .unit))) .unit))) .unit))))], [(.cell 2 42, (.pair (.int .i64) (.pair (.int .i64) (.pair (.int .i64) (.pair (.sl false (.pair (.sl false (.pair .str (.pair .str .unit))) (.pair (.sl false (.pair (.int .i64) (.pair (.int .i64) .unit))) .unit))) .unit)))))], [], 0, []⟩
inductive laws_toHead.Pt where
  | p0 (a0 : (Int) × ((Int) × ((Int) × ((List ((List ((ByteArray) × ((ByteArray) × (Unit)))) × ((List ((Int) × ((Int) × (Unit)))) × (Unit)))) × (Unit)))))
def laws_toHead.lb : laws_toHead.Pt → Nat
  | .p0 _ => 0
def laws_toHead.st : laws_toHead.Pt → St
  | .p0 a0 => enter [.v (.pair (.int .i64) (.pair (.int .i64) (.pair (.int .i64) (.pair (.sl false (.pair (.sl false (.pair .str (.pair .str .unit))) (.pair (.sl false (.pair (.int .i64) (.pair (.int .i64) .unit))) .unit))) .unit)))) a0] 0
def laws_toHead.step (n : Nat) (K : laws_toHead.Pt → Option (Tup [(.pair (.int .i64) (.pair (.int .i64) (.pair (.int .i64) (.pair (.sl false (.pair (.sl false (.pair .str (.pair .str .unit))) (.pair (.sl false (.pair (.int .i64) (.pair (.int .i64) .unit))) .unit))) .unit))))])) : laws_toHead.Pt → Option (Tup [(.pair (.int .i64) (.pair (.int .i64) (.pair (.int .i64) (.pair (.sl false (.pair (.sl false (.pair .str (.pair .str .unit))) (.pair (.sl false (.pair (.int .i64) (.pair (.int .i64) .unit))) .unit))) .unit))))])
  | .p0 a0 => (laws_toSeriesS n a0.2.2.2.1).bind fun r4 => some (a0.1, (a0.2.1, (a0.2.2.1, (r4, ()))))
def laws_toHead (n : Nat) (a0 : (Int) × ((Int) × ((Int) × ((List ((List ((ByteArray) × ((ByteArray) × (Unit)))) × ((List ((Int) × ((Int) × (Unit)))) × (Unit)))) × (Unit))))) : Option (Tup [(.pair (.int .i64) (.pair (.int .i64) (.pair (.int .i64) (.pair (.sl false (.pair (.sl false (.pair .str (.pair .str .unit))) (.pair (.sl false (.pair (.int .i64) (.pair (.int .i64) .unit))) .unit))) .unit))))]) := goRec laws_toHead.step n (.p0 a0)
def laws_toHead.spec : Ctr := ⟨19, [.v (.pair (.int .i64) (.pair (.int .i64) (.pair (.int .i64) (.pair (.sl false (.pair (.sl false (.pair .str (.pair .str .unit))) (.pair (.sl false (.pair (.int .i64) (.pair (.int .i64) .unit))) .unit))) .unit))))], [(.pair (.int .i64) (.pair (.int .i64) (.pair (.int .i64) (.pair (.sl false (.pair (.sl false (.pair .str (.pair .str .unit))) (.pair (.sl false (.pair (.int .i64) (.pair (.int .i64) .unit))) .unit))) .unit))))], [], none, fun n x => laws_toHead n x.1⟩
theorem laws_toHead.seg_eq : SegEq ty gl laws_toHead.F laws_toHead.md laws_toHead.T laws_toHead.spec laws_toHead.lb laws_toHead.st laws_toHead.step := by
  intro n goto y; cases y <;> kernel_rfl
theorem laws_toHead.text : Text Go.Proofs.Tryz.prog laws_toHead.F laws_toHead.spec := textOf Go.Proofs.Tryz.f19
theorem laws_toHead.ok : CtrOK Go.Proofs.Tryz.prog gl laws_toHead.spec :=
  ctr_okS tabs laws_toHead.text laws_toHead.seg_eq (fun n x => ⟨.p0 x.1, rfl, rfl, rfl⟩) (consC laws_toSeriesS.ok (nilC))

/-! loop.example/g00039/laws.toPut -/
def laws_toPut.T : List Ctr := [laws_toLabelS.spec]
def laws_toPut.md : List (Nat × List Md) := []
noncomputable def laws_toPut.F : Fun := ⟨(Go.Proofs.Tryz.f59.body).getD .skip, [.v (.pair (.sl false (.pair .str (.pair .str .unit))) (.pair (.int .i64) (.pair (.int .i64) .unit)))], [(.cell 2 98, (.pair (.sl false (.pair .str (.pair .str .unit))) (.pair (.int .i64) (.pair (.int .i64) .unit))))], [], 0, []⟩
inductive laws_toPut.Pt where
  | p0 (a0 : (List ((ByteArray) × ((ByteArray) × (Unit)))) × ((Int) × ((Int) × (Unit))))
def laws_toPut.lb : laws_toPut.Pt → Nat
  | .p0 _ => 0
def laws_toPut.st : laws_toPut.Pt → St
  | .p0 a0 => enter [.v (.pair (.sl false (.pair .str (.pair .str .unit))) (.pair (.int .i64) (.pair (.int .i64) .unit))) a0] 0
def laws_toPut.step (n : Nat) (K : laws_toPut.Pt → Option (Tup [(.pair (.sl false (.pair .str (.pair .str .unit))) (.pair (.int .i64) (.pair (.int .i64) .unit)))])) : laws_toPut.Pt → Option (Tup [(.pair (.sl false (.pair .str (.pair .str .unit))) (.pair (.int .i64) (.pair (.int .i64) .unit)))])
  | .p0 a0 => (laws_toLabelS n a0.1).bind fun r4 => some (r4, a0.2)
def laws_toPut (n : Nat) (a0 : (List ((ByteArray) × ((ByteArray) × (Unit)))) × ((Int) × ((Int) × (Unit)))) : Option (Tup [(.pair (.sl false (.pair .str (.pair .str .unit))) (.pair (.int .i64) (.pair (.int .i64) .unit)))]) := goRec laws_toPut.step n (.p0 a0)
def laws_toPut.spec : Ctr := ⟨59, [.v (.pair (.sl false (.pair .str (.pair .str .unit))) (.pair (.int .i64) (.pair (.int .i64) .unit)))], [(.pair (.sl false (.pair .str (.pair .str .unit))) (.pair (.int .i64) (.pair (.int .i64) .unit)))], [], none, fun n x => laws_toPut n x.1⟩
theorem laws_toPut.seg_eq : SegEq ty gl laws_toPut.F laws_toPut.md laws_toPut.T laws_toPut.spec laws_toPut.lb laws_toPut.st laws_toPut.step := by
  intro n goto y; cases y <;> kernel_rfl
theorem laws_toPut.text : Text Go.Proofs.Tryz.prog laws_toPut.F laws_toPut.spec := textOf Go.Proofs.Tryz.f59
theorem laws_toPut.ok : CtrOK Go.Proofs.Tryz.prog gl laws_toPut.spec :=
  ctr_okS tabs laws_toPut.text laws_toPut.seg_eq (fun n x => ⟨.p0 x.1, rfl, rfl, rfl⟩) (consC laws_toLabelS.ok (nilC))

/-! loop.example/g00039/laws.toPutS -/
def laws_toPutS.T : List Ctr := [laws_toPut.spec]
def laws_toPutS.md : List (Nat × List Md) := []
noncomputable def laws_toPutS.F : Fun := ⟨(Go.Proofs.Tryz.f20.body).getD .skip, [.v (.sl false (.pair (.sl false (.pair .str (.pair .str .unit))) (.pair (.int .i64) (.pair (.int .i64) .unit))))], [(.tmp 2, (.sl false (.pair (.sl false (.pair .str (.pair .str .unit))) (.pair (.int .i64) (.pair (.int .i64) .unit)))))], [], 0, [(9, ⟨[0, 3, 4], [(3, (.pair (.sl false (.pair .str (.pair .str .unit))) (.pair (.int .i64) (.pair (.int .i64) .unit))))], [], false⟩)]⟩
inductive laws_toPutS.Pt where
  | p0 (a0 : List ((List ((ByteArray) × ((ByteArray) × (Unit)))) × ((Int) × ((Int) × (Unit)))))
  | p9 (y1 : List ((List ((ByteArray) × ((ByteArray) × (Unit)))) × ((Int) × ((Int) × (Unit))))) (y2 : Int) (y3 : List ((List ((ByteArray) × ((ByteArray) × (Unit)))) × ((Int) × ((Int) × (Unit)))))
def laws_toPutS.lb : laws_toPutS.Pt → Nat
  | .p0 _ => 0
  | .p9 _ _ _ => 9
def laws_toPutS.st : laws_toPutS.Pt → St
  | .p0 a0 => enter [.v (.sl false (.pair (.sl false (.pair .str (.pair .str .unit))) (.pair (.int .i64) (.pair (.int .i64) .unit)))) a0] 0
  | .p9 y1 y2 y3 => ⟨[(0, .im (.sl false (.pair (.sl false (.pair .str (.pair .str .unit))) (.pair (.int .i64) (.pair (.int .i64) .unit)))) y1), (3, .hs 0 [] none 0), (4, .im (.int .i64) y2)], [(0, .arr false (.pair (.sl false (.pair .str (.pair .str .unit))) (.pair (.int .i64) (.pair (.int .i64) .unit))) y3 0)], 1⟩
def laws_toPutS.step (n : Nat) (K : laws_toPutS.Pt → Option (Tup [(.sl false (.pair (.sl false (.pair .str (.pair .str .unit))) (.pair (.int .i64) (.pair (.int .i64) .unit))))])) : laws_toPutS.Pt → Option (Tup [(.sl false (.pair (.sl false (.pair .str (.pair .str .unit))) (.pair (.int .i64) (.pair (.int .i64) .unit))))])
  | .p0 a0 => cond (inC ((List.length a0) : Int) ((List.length a0) : Int) 1000000000) (K (.p9 a0 (0 : Int) (List.replicate (Int.toNat ((List.length a0) : Int)) (default : (List ((ByteArray) × ((ByteArray) × (Unit)))) × ((Int) × ((Int) × (Unit))))))) (none)
  | .p9 y1 y2 y3 => cond (decide (y2 < ((List.length y1) : Int))) (cond (inB y2 (List.length y1)) ((laws_toPut n ((List.getD y1 (Int.toNat y2) default).1, (List.getD y1 (Int.toNat y2) default).2)).bind fun r6 => cond (inB y2 (List.length y3)) (K (.p9 y1 (IntKind.wrap .i64 (y2 + (1 : Int))) (List.set y3 (0 + (Int.toNat y2)) (r6.1, r6.2)))) (none)) (none)) (some y3)
def laws_toPutS (n : Nat) (a0 : List ((List ((ByteArray) × ((ByteArray) × (Unit)))) × ((Int) × ((Int) × (Unit))))) : Option (Tup [(.sl false (.pair (.sl false (.pair .str (.pair .str .unit))) (.pair (.int .i64) (.pair (.int .i64) .unit))))]) := goRec laws_toPutS.step n (.p0 a0)
def laws_toPutS.spec : Ctr := ⟨20, [.v (.sl false (.pair (.sl false (.pair .str (.pair .str .unit))) (.pair (.int .i64) (.pair (.int .i64) .unit))))], [(.sl false (.pair (.sl false (.pair .str (.pair .str .unit))) (.pair (.int .i64) (.pair (.int .i64) .unit))))], [], none, fun n x => laws_toPutS n x.1⟩
theorem laws_toPutS.seg_eq : SegEq ty gl laws_toPutS.F laws_toPutS.md laws_toPutS.T laws_toPutS.spec laws_toPutS.lb laws_toPutS.st laws_toPutS.step := by
  intro n goto y; cases y <;> kernel_rfl
theorem laws_toPutS.text : Text Go.Proofs.Tryz.prog laws_toPutS.F laws_toPutS.spec := textOf Go.Proofs.Tryz.f20
theorem laws_toPutS.ok : CtrOK Go.Proofs.Tryz.prog gl laws_toPutS.spec :=
  ctr_okS tabs laws_toPutS.text laws_toPutS.seg_eq (fun n x => ⟨.p0 x.1, rfl, rfl, rfl⟩) (consC laws_toPut.ok (nilC))

/-! loop.example/g00039/spec.l3Time -/
def spec_l3Time.T : List Ctr := []
def spec_l3Time.md : List (Nat × List Md) := []
noncomputable def spec_l3Time.F : Fun := ⟨(Go.Proofs.Tryz.f91.body).getD .skip, [.v (.int .i64)], [(.tmp 2, .bool)], [], 0, []⟩
inductive spec_l3Time.Pt where
  | p0 (a0 : Int)
def spec_l3Time.lb : spec_l3Time.Pt → Nat
  | .p0 _ => 0
def spec_l3Time.st : spec_l3Time.Pt → St
  | .p0 a0 => enter [.v (.int .i64) a0] 0
def spec_l3Time.step (n : Nat) (K : spec_l3Time.Pt → Option (Tup [.bool])) : spec_l3Time.Pt → Option (Tup [.bool])
  | .p0 a0 => cond (decide ((0 : Int) ≤ a0)) (some (decide (a0 ≤ (1000000000000 : Int)))) (some false)
def spec_l3Time (n : Nat) (a0 : Int) : Option (Tup [.bool]) := goRec spec_l3Time.step n (.p0 a0)
def spec_l3Time.spec : Ctr := ⟨91, [.v (.int .i64)], [.bool], [], none, fun n x => spec_l3Time n x.1⟩
theorem spec_l3Time.seg_eq : SegEq ty gl spec_l3Time.F spec_l3Time.md spec_l3Time.T spec_l3Time.spec spec_l3Time.lb spec_l3Time.st spec_l3Time.step := by
  intro n goto y; cases y <;> kernel_rfl
theorem spec_l3Time.text : Text Go.Proofs.Tryz.prog spec_l3Time.F spec_l3Time.spec := textOf Go.Proofs.Tryz.f91
theorem spec_l3Time.ok : CtrOK Go.Proofs.Tryz.prog gl spec_l3Time.spec :=
  ctr_okS tabs spec_l3Time.text spec_l3Time.seg_eq (fun n x => ⟨.p0 x.1, rfl, rfl, rfl⟩) (nilC)

/-! loop.example/g00039/spec.l2Digit -/
def spec_l2Digit.T : List Ctr := []
def spec_l2Digit.md : List (Nat × List Md) := []
noncomputable def spec_l2Digit.F : Fun := ⟨(Go.Proofs.Tryz.f109.body).getD .skip, [.v (.int .u8)], [(.tmp 2, .bool)], [], 0, []⟩
inductive spec_l2Digit.Pt where
  | p0 (a0 : Int)
def spec_l2Digit.lb : spec_l2Digit.Pt → Nat
  | .p0 _ => 0
def spec_l2Digit.st : spec_l2Digit.Pt → St
  | .p0 a0 => enter [.v (.int .u8) a0] 0
def spec_l2Digit.step (n : Nat) (K : spec_l2Digit.Pt → Option (Tup [.bool])) : spec_l2Digit.Pt → Option (Tup [.bool])
  | .p0 a0 => cond (decide ((48 : Int) ≤ a0)) (some (decide (a0 ≤ (57 : Int)))) (some false)
def spec_l2Digit (n : Nat) (a0 : Int) : Option (Tup [.bool]) := goRec spec_l2Digit.step n (.p0 a0)
def spec_l2Digit.spec : Ctr := ⟨109, [.v (.int .u8)], [.bool], [], none, fun n x => spec_l2Digit n x.1⟩
theorem spec_l2Digit.seg_eq : SegEq ty gl spec_l2Digit.F spec_l2Digit.md spec_l2Digit.T spec_l2Digit.spec spec_l2Digit.lb spec_l2Digit.st spec_l2Digit.step := by
  intro n goto y; cases y <;> kernel_rfl
theorem spec_l2Digit.text : Text Go.Proofs.Tryz.prog spec_l2Digit.F spec_l2Digit.spec := textOf Go.Proofs.Tryz.f109
theorem spec_l2Digit.ok : CtrOK Go.Proofs.Tryz.prog gl spec_l2Digit.spec :=
  ctr_okS tabs spec_l2Digit.text spec_l2Digit.seg_eq (fun n x => ⟨.p0 x.1, rfl, rfl, rfl⟩) (nilC)

/-! loop.example/g00039/spec.l2Letter -/
def spec_l2Letter.T : List Ctr := []
def spec_l2Letter.md : List (Nat × List Md) := []
noncomputable def spec_l2Letter.F : Fun := ⟨(Go.Proofs.Tryz.f110.body).getD .skip, [.v (.int .u8)], [(.tmp 2, .bool)], [], 0, []⟩
inductive spec_l2Letter.Pt where
  | p0 (a0 : Int)
def spec_l2Letter.lb : spec_l2Letter.Pt → Nat
  | .p0 _ => 0
def spec_l2Letter.st : spec_l2Letter.Pt → St
  | .p0 a0 => enter [.v (.int .u8) a0] 0
def spec_l2Letter.step (n : Nat) (K : spec_l2Letter.Pt → Option (Tup [.bool])) : spec_l2Letter.Pt → Option (Tup [.bool])
  | .p0 a0 => cond (decide ((97 : Int) ≤ a0)) (cond (decide (a0 ≤ (122 : Int))) (some true) (cond (decide ((65 : Int) ≤ a0)) (some (decide (a0 ≤ (90 : Int)))) (some false))) (cond (decide ((65 : Int) ≤ a0)) (some (decide (a0 ≤ (90 : Int)))) (some false))
def spec_l2Letter (n : Nat) (a0 : Int) : Option (Tup [.bool]) := goRec spec_l2Letter.step n (.p0 a0)
def spec_l2Letter.spec : Ctr := ⟨110, [.v (.int .u8)], [.bool], [], none, fun n x => spec_l2Letter n x.1⟩
theorem spec_l2Letter.seg_eq : SegEq ty gl spec_l2Letter.F spec_l2Letter.md spec_l2Letter.T spec_l2Letter.spec spec_l2Letter.lb spec_l2Letter.st spec_l2Letter.step := by
  intro n goto y; cases y <;> kernel_rfl
theorem spec_l2Letter.text : Text Go.Proofs.Tryz.prog spec_l2Letter.F spec_l2Letter.spec := textOf Go.Proofs.Tryz.f110
theorem spec_l2Letter.ok : CtrOK Go.Proofs.Tryz.prog gl spec_l2Letter.spec :=
  ctr_okS tabs spec_l2Letter.text spec_l2Letter.seg_eq (fun n x => ⟨.p0 x.1, rfl, rfl, rfl⟩) (nilC)

/-! loop.example/g00039/spec.l2Name -/
def spec_l2Name.T : List Ctr := [spec_l2Digit.spec, spec_l2Letter.spec]
def spec_l2Name.md : List (Nat × List Md) := []
noncomputable def spec_l2Name.F : Fun := ⟨(Go.Proofs.Tryz.f70.body).getD .skip, [.v .str], [(.tmp 2, .bool)], [], 0, [(4, ⟨[0, 16], [], [], false⟩), (15, ⟨[0, 3], [], [], false⟩), (24, ⟨[0, 3, 40], [], [], false⟩)]⟩
inductive spec_l2Name.Pt where
  | p0 (a0 : ByteArray)
  | p4 (y1 : ByteArray) (y2 : Bool)
  | p15 (y1 : ByteArray) (y2 : Int)
  | p24 (y1 : ByteArray) (y2 : Int) (y3 : Bool)
def spec_l2Name.lb : spec_l2Name.Pt → Nat
  | .p0 _ => 0
  | .p4 _ _ => 4
  | .p15 _ _ => 15
  | .p24 _ _ _ => 24
def spec_l2Name.st : spec_l2Name.Pt → St
  | .p0 a0 => enter [.v .str a0] 0
  | .p4 y1 y2 => ⟨[(0, .im .str y1), (16, .im .bool y2)], [], 0⟩
  | .p15 y1 y2 => ⟨[(0, .im .str y1), (3, .im (.int .i64) y2)], [], 0⟩
  | .p24 y1 y2 y3 => ⟨[(0, .im .str y1), (3, .im (.int .i64) y2), (40, .im .bool y3)], [], 0⟩
def spec_l2Name.step (n : Nat) (K : spec_l2Name.Pt → Option (Tup [.bool])) : spec_l2Name.Pt → Option (Tup [.bool])
  | .p0 a0 => cond (decide (((ByteArray.size a0) : Int) < (1 : Int))) (K (.p4 a0 true)) (cond (decide ((40 : Int) < ((ByteArray.size a0) : Int))) (K (.p4 a0 true)) (cond (inB (0 : Int) (ByteArray.size a0)) ((spec_l2Digit n (bt a0 (0 : Int))).bind fun r4 => K (.p4 a0 r4)) (none)))
  | .p4 y1 y2 => cond y2 (some false) (K (.p15 y1 (0 : Int)))
  | .p15 y1 y2 => cond (decide (y2 < ((ByteArray.size y1) : Int))) (cond (inB y2 (ByteArray.size y1)) ((spec_l2Letter n (bt y1 y2)).bind fun r5 => cond (!r5) (cond (inB y2 (ByteArray.size y1)) ((spec_l2Digit n (bt y1 y2)).bind fun r6 => cond (!r6) (cond (inB y2 (ByteArray.size y1)) (K (.p24 y1 y2 (!(decide ((bt y1 y2) = (95 : Int)))))) (none)) (K (.p24 y1 y2 false))) (none)) (K (.p24 y1 y2 false))) (none)) (some true)
  | .p24 y1 y2 y3 => cond y3 (some false) (K (.p15 y1 (IntKind.wrap .i64 (y2 + (1 : Int)))))
def spec_l2Name (n : Nat) (a0 : ByteArray) : Option (Tup [.bool]) := goRec spec_l2Name.step n (.p0 a0)
def spec_l2Name.spec : Ctr := ⟨70, [.v .str], [.bool], [], none, fun n x => spec_l2Name n x.1⟩
theorem spec_l2Name.seg_eq : SegEq ty gl spec_l2Name.F spec_l2Name.md spec_l2Name.T spec_l2Name.spec spec_l2Name.lb spec_l2Name.st spec_l2Name.step := by
  intro n goto y; cases y <;> kernel_rfl
theorem spec_l2Name.text : Text Go.Proofs.Tryz.prog spec_l2Name.F spec_l2Name.spec := textOf Go.Proofs.Tryz.f70
theorem spec_l2Name.ok : CtrOK Go.Proofs.Tryz.prog gl spec_l2Name.spec :=
  ctr_okS tabs spec_l2Name.text spec_l2Name.seg_eq (fun n x => ⟨.p0 x.1, rfl, rfl, rfl⟩) (consC spec_l2Digit.ok (consC spec_l2Letter.ok (nilC)))

/-! loop.example/g00039/spec.l2Printed -/
def spec_l2Printed.T : List Ctr := []
def spec_l2Printed.md : List (Nat × List Md) := []
noncomputable def spec_l2Printed.F : Fun := ⟨(Go.Proofs.Tryz.f71.body).getD .skip, [.v .str], [(.tmp 2, .bool)], [], 0, [(7, ⟨[0, 3], [], [], false⟩)]⟩
inductive spec_l2Printed.Pt where
  | p0 (a0 : ByteArray)
  | p7 (y1 : ByteArray) (y2 : Int)
def spec_l2Printed.lb : spec_l2Printed.Pt → Nat
  | .p0 _ => 0
  | .p7 _ _ => 7
def spec_l2Printed.st : spec_l2Printed.Pt → St
  | .p0 a0 => enter [.v .str a0] 0
  | .p7 y1 y2 => ⟨[(0, .im .str y1), (3, .im (.int .i64) y2)], [], 0⟩
def spec_l2Printed.step (n : Nat) (K : spec_l2Printed.Pt → Option (Tup [.bool])) : spec_l2Printed.Pt → Option (Tup [.bool])
  | .p0 a0 => K (.p7 a0 (0 : Int))
  | .p7 y1 y2 => cond (decide (y2 < ((ByteArray.size y1) : Int))) (cond (inB y2 (ByteArray.size y1)) (cond (decide ((bt y1 y2) < (32 : Int))) (some false) (cond (inB y2 (ByteArray.size y1)) (cond (decide ((126 : Int) < (bt y1 y2))) (some false) (K (.p7 y1 (IntKind.wrap .i64 (y2 + (1 : Int)))))) (none))) (none)) (some true)
def spec_l2Printed (n : Nat) (a0 : ByteArray) : Option (Tup [.bool]) := goRec spec_l2Printed.step n (.p0 a0)
def spec_l2Printed.spec : Ctr := ⟨71, [.v .str], [.bool], [], none, fun n x => spec_l2Printed n x.1⟩
theorem spec_l2Printed.seg_eq : SegEq ty gl spec_l2Printed.F spec_l2Printed.md spec_l2Printed.T spec_l2Printed.spec spec_l2Printed.lb spec_l2Printed.st spec_l2Printed.step := by
  intro n goto y; cases y <;> kernel_rfl
theorem spec_l2Printed.text : Text Go.Proofs.Tryz.prog spec_l2Printed.F spec_l2Printed.spec := textOf Go.Proofs.Tryz.f71
theorem spec_l2Printed.ok : CtrOK Go.Proofs.Tryz.prog gl spec_l2Printed.spec :=
  ctr_okS tabs spec_l2Printed.text spec_l2Printed.seg_eq (fun n x => ⟨.p0 x.1, rfl, rfl, rfl⟩) (nilC)

/-! loop.example/g00039/spec.l2Value -/
def spec_l2Value.T : List Ctr := [spec_l2Printed.spec]
def spec_l2Value.md : List (Nat × List Md) := []
noncomputable def spec_l2Value.F : Fun := ⟨(Go.Proofs.Tryz.f136.body).getD .skip, [.v .str], [(.tmp 2, .bool)], [], 0, []⟩
inductive spec_l2Value.Pt where
  | p0 (a0 : ByteArray)
def spec_l2Value.lb : spec_l2Value.Pt → Nat
  | .p0 _ => 0
def spec_l2Value.st : spec_l2Value.Pt → St
  | .p0 a0 => enter [.v .str a0] 0
def spec_l2Value.step (n : Nat) (K : spec_l2Value.Pt → Option (Tup [.bool])) : spec_l2Value.Pt → Option (Tup [.bool])
  | .p0 a0 => cond (decide ((1 : Int) ≤ ((ByteArray.size a0) : Int))) (cond (decide (((ByteArray.size a0) : Int) ≤ (100 : Int))) ((spec_l2Printed n a0).bind fun r4 => some r4) (some false)) (some false)
def spec_l2Value (n : Nat) (a0 : ByteArray) : Option (Tup [.bool]) := goRec spec_l2Value.step n (.p0 a0)
def spec_l2Value.spec : Ctr := ⟨136, [.v .str], [.bool], [], none, fun n x => spec_l2Value n x.1⟩
theorem spec_l2Value.seg_eq : SegEq ty gl spec_l2Value.F spec_l2Value.md spec_l2Value.T spec_l2Value.spec spec_l2Value.lb spec_l2Value.st spec_l2Value.step := by
  intro n goto y; cases y <;> kernel_rfl
theorem spec_l2Value.text : Text Go.Proofs.Tryz.prog spec_l2Value.F spec_l2Value.spec := textOf Go.Proofs.Tryz.f136
theorem spec_l2Value.ok : CtrOK Go.Proofs.Tryz.prog gl spec_l2Value.spec :=
  ctr_okS tabs spec_l2Value.text spec_l2Value.seg_eq (fun n x => ⟨.p0 x.1, rfl, rfl, rfl⟩) (consC spec_l2Printed.ok (nilC))

/-! loop.example/g00039/spec.l2CmpNum -/
def spec_l2CmpNum.T : List Ctr := []
def spec_l2CmpNum.md : List (Nat × List Md) := []
noncomputable def spec_l2CmpNum.F : Fun := ⟨(Go.Proofs.Tryz.f108.body).getD .skip, [.v (.int .i64), .v (.int .i64)], [(.tmp 4, (.int .i64))], [], 0, []⟩
inductive spec_l2CmpNum.Pt where
  | p0 (a0 : Int) (a1 : Int)
def spec_l2CmpNum.lb : spec_l2CmpNum.Pt → Nat
  | .p0 _ _ => 0
def spec_l2CmpNum.st : spec_l2CmpNum.Pt → St
  | .p0 a0 a1 => enter [.v (.int .i64) a0, .v (.int .i64) a1] 0
def spec_l2CmpNum.step (n : Nat) (K : spec_l2CmpNum.Pt → Option (Tup [(.int .i64)])) : spec_l2CmpNum.Pt → Option (Tup [(.int .i64)])
  | .p0 a0 a1 => cond (decide (a0 < a1)) (some (-(1 : Int))) (cond (decide (a1 < a0)) (some (1 : Int)) (some (0 : Int)))
def spec_l2CmpNum (n : Nat) (a0 : Int) (a1 : Int) : Option (Tup [(.int .i64)]) := goRec spec_l2CmpNum.step n (.p0 a0 a1)
def spec_l2CmpNum.spec : Ctr := ⟨108, [.v (.int .i64), .v (.int .i64)], [(.int .i64)], [], none, fun n x => spec_l2CmpNum n x.1 x.2.1⟩
theorem spec_l2CmpNum.seg_eq : SegEq ty gl spec_l2CmpNum.F spec_l2CmpNum.md spec_l2CmpNum.T spec_l2CmpNum.spec spec_l2CmpNum.lb spec_l2CmpNum.st spec_l2CmpNum.step := by
  intro n goto y; cases y <;> kernel_rfl
theorem spec_l2CmpNum.text : Text Go.Proofs.Tryz.prog spec_l2CmpNum.F spec_l2CmpNum.spec := textOf Go.Proofs.Tryz.f108
theorem spec_l2CmpNum.ok : CtrOK Go.Proofs.Tryz.prog gl spec_l2CmpNum.spec :=
  ctr_okS tabs spec_l2CmpNum.text spec_l2CmpNum.seg_eq (fun n x => ⟨.p0 x.1 x.2.1, rfl, rfl, rfl⟩) (nilC)

/-! loop.example/g00039/spec.l2CmpText -/
def spec_l2CmpText.T : List Ctr := [spec_l2CmpNum.spec]
def spec_l2CmpText.md : List (Nat × List Md) := []
noncomputable def spec_l2CmpText.F : Fun := ⟨(Go.Proofs.Tryz.f107.body).getD .skip, [.v .str, .v .str], [(.tmp 4, (.int .i64))], [], 0, [(7, ⟨[0, 1, 5], [], [], false⟩), (9, ⟨[0, 1, 5, 15], [], [], false⟩)]⟩
inductive spec_l2CmpText.Pt where
  | p0 (a0 : ByteArray) (a1 : ByteArray)
  | p7 (y1 : ByteArray) (y2 : ByteArray) (y3 : Int)
  | p9 (y1 : ByteArray) (y2 : ByteArray) (y3 : Int) (y4 : Bool)
def spec_l2CmpText.lb : spec_l2CmpText.Pt → Nat
  | .p0 _ _ => 0
  | .p7 _ _ _ => 7
  | .p9 _ _ _ _ => 9
def spec_l2CmpText.st : spec_l2CmpText.Pt → St
  | .p0 a0 a1 => enter [.v .str a0, .v .str a1] 0
  | .p7 y1 y2 y3 => ⟨[(0, .im .str y1), (1, .im .str y2), (5, .im (.int .i64) y3)], [], 0⟩
  | .p9 y1 y2 y3 y4 => ⟨[(0, .im .str y1), (1, .im .str y2), (5, .im (.int .i64) y3), (15, .im .bool y4)], [], 0⟩
def spec_l2CmpText.step (n : Nat) (K : spec_l2CmpText.Pt → Option (Tup [(.int .i64)])) : spec_l2CmpText.Pt → Option (Tup [(.int .i64)])
  | .p0 a0 a1 => K (.p7 a0 a1 (0 : Int))
  | .p7 y1 y2 y3 => cond (decide (y3 < ((ByteArray.size y1) : Int))) (K (.p9 y1 y2 y3 (decide (y3 < ((ByteArray.size y2) : Int))))) (K (.p9 y1 y2 y3 false))
  | .p9 y1 y2 y3 y4 => cond y4 (cond (inB y3 (ByteArray.size y1)) (cond (inB y3 (ByteArray.size y2)) (cond (!(decide ((bt y1 y3) = (bt y2 y3)))) (cond (inB y3 (ByteArray.size y1)) (cond (inB y3 (ByteArray.size y2)) ((spec_l2CmpNum n (IntKind.wrap .i64 (bt y1 y3)) (IntKind.wrap .i64 (bt y2 y3))).bind fun (r7 : Int) => some r7) (none)) (none)) (K (.p7 y1 y2 (IntKind.wrap .i64 (y3 + (1 : Int)))))) (none)) (none)) ((spec_l2CmpNum n ((ByteArray.size y1) : Int) ((ByteArray.size y2) : Int)).bind fun (r7 : Int) => some r7)
def spec_l2CmpText (n : Nat) (a0 : ByteArray) (a1 : ByteArray) : Option (Tup [(.int .i64)]) := goRec spec_l2CmpText.step n (.p0 a0 a1)
def spec_l2CmpText.spec : Ctr := ⟨107, [.v .str, .v .str], [(.int .i64)], [], none, fun n x => spec_l2CmpText n x.1 x.2.1⟩
theorem spec_l2CmpText.seg_eq : SegEq ty gl spec_l2CmpText.F spec_l2CmpText.md spec_l2CmpText.T spec_l2CmpText.spec spec_l2CmpText.lb spec_l2CmpText.st spec_l2CmpText.step := by
  intro n goto y; cases y <;> kernel_rfl
theorem spec_l2CmpText.text : Text Go.Proofs.Tryz.prog spec_l2CmpText.F spec_l2CmpText.spec := textOf Go.Proofs.Tryz.f107
theorem spec_l2CmpText.ok : CtrOK Go.Proofs.Tryz.prog gl spec_l2CmpText.spec :=
  ctr_okS tabs spec_l2CmpText.text spec_l2CmpText.seg_eq (fun n x => ⟨.p0 x.1 x.2.1, rfl, rfl, rfl⟩) (consC spec_l2CmpNum.ok (nilC))

/-! loop.example/g00039/spec.GoodLabels -/
def spec_GoodLabels.T : List Ctr := [spec_l2Name.spec, spec_l2Value.spec, spec_l2CmpText.spec]
def spec_GoodLabels.md : List (Nat × List Md) := []
noncomputable def spec_GoodLabels.F : Fun := ⟨(Go.Proofs.Tryz.f105.body).getD .skip, [.v (.sl false (.pair .str (.pair .str .unit)))], [(.tmp 2, .bool)], [], 0, [(15, ⟨[0, 8, 9, 10], [(8, (.pair .str (.pair .str .unit)))], [], false⟩), (26, ⟨[0, 8, 9, 10, 40], [(8, (.pair .str (.pair .str .unit)))], [], false⟩)]⟩
inductive spec_GoodLabels.Pt where
  | p0 (a0 : List ((ByteArray) × ((ByteArray) × (Unit))))
  | p15 (y1 : List ((ByteArray) × ((ByteArray) × (Unit)))) (y2 : List ((ByteArray) × ((ByteArray) × (Unit)))) (y3 : Int) (y4 : Int)
  | p26 (y1 : List ((ByteArray) × ((ByteArray) × (Unit)))) (y2 : List ((ByteArray) × ((ByteArray) × (Unit)))) (y3 : Int) (y4 : Int) (y5 : Bool)
def spec_GoodLabels.lb : spec_GoodLabels.Pt → Nat
  | .p0 _ => 0
  | .p15 _ _ _ _ => 15
  | .p26 _ _ _ _ _ => 26
def spec_GoodLabels.st : spec_GoodLabels.Pt → St
  | .p0 a0 => enter [.v (.sl false (.pair .str (.pair .str .unit))) a0] 0
  | .p15 y1 y2 y3 y4 => ⟨[(0, .im (.sl false (.pair .str (.pair .str .unit))) y1), (8, .im (.sl false (.pair .str (.pair .str .unit))) y2), (9, .im (.int .i64) y3), (10, .im (.int .i64) y4)], [], 0⟩
  | .p26 y1 y2 y3 y4 y5 => ⟨[(0, .im (.sl false (.pair .str (.pair .str .unit))) y1), (8, .im (.sl false (.pair .str (.pair .str .unit))) y2), (9, .im (.int .i64) y3), (10, .im (.int .i64) y4), (40, .im .bool y5)], [], 0⟩
def spec_GoodLabels.step (n : Nat) (K : spec_GoodLabels.Pt → Option (Tup [.bool])) : spec_GoodLabels.Pt → Option (Tup [.bool])
  | .p0 a0 => cond (decide ((20 : Int) < ((List.length a0) : Int))) (some false) (K (.p15 a0 a0 ((List.length a0) : Int) (0 : Int)))
  | .p15 y1 y2 y3 y4 => cond (decide (y4 < y3)) (cond (inB y4 (List.length y2)) ((spec_l2Name n (List.getD y2 (Int.toNat y4) default).1).bind fun r7 => cond (!r7) (K (.p26 y1 y2 y3 y4 true)) ((spec_l2Value n (List.getD y2 (Int.toNat y4) default).2.1).bind fun r8 => cond (!r8) (K (.p26 y1 y2 y3 y4 true)) (cond (decide ((0 : Int) < y4)) (cond (inB (IntKind.wrap .i64 (y4 - (1 : Int))) (List.length y1)) ((spec_l2CmpText n (List.getD y1 (Int.toNat (IntKind.wrap .i64 (y4 - (1 : Int)))) default).1 (List.getD y2 (Int.toNat y4) default).1).bind fun (r9 : Int) => K (.p26 y1 y2 y3 y4 (decide ((0 : Int) ≤ r9)))) (none)) (K (.p26 y1 y2 y3 y4 false))))) (none)) (some true)
  | .p26 y1 y2 y3 y4 y5 => cond y5 (some false) (K (.p15 y1 y2 y3 (IntKind.wrap .i64 (y4 + (1 : Int)))))
def spec_GoodLabels (n : Nat) (a0 : List ((ByteArray) × ((ByteArray) × (Unit)))) : Option (Tup [.bool]) := goRec spec_GoodLabels.step n (.p0 a0)
def spec_GoodLabels.spec : Ctr := ⟨105, [.v (.sl false (.pair .str (.pair .str .unit)))], [.bool], [], none, fun n x => spec_GoodLabels n x.1⟩
theorem spec_GoodLabels.seg_eq : SegEq ty gl spec_GoodLabels.F spec_GoodLabels.md spec_GoodLabels.T spec_GoodLabels.spec spec_GoodLabels.lb spec_GoodLabels.st spec_GoodLabels.step := by
  intro n goto y; cases y <;> kernel_rfl
theorem spec_GoodLabels.text : Text Go.Proofs.Tryz.prog spec_GoodLabels.F spec_GoodLabels.spec := textOf Go.Proofs.Tryz.f105
theorem spec_GoodLabels.ok : CtrOK Go.Proofs.Tryz.prog gl spec_GoodLabels.spec :=
  ctr_okS tabs spec_GoodLabels.text spec_GoodLabels.seg_eq (fun n x => ⟨.p0 x.1, rfl, rfl, rfl⟩) (consC spec_l2Name.ok (consC spec_l2Value.ok (consC spec_l2CmpText.ok (nilC))))

/-! loop.example/g00039/spec.l2Of -/
def spec_l2Of.T : List Ctr := []
def spec_l2Of.md : List (Nat × List Md) := []
noncomputable def spec_l2Of.F : Fun := ⟨(Go.Proofs.Tryz.f106.body).getD .skip, [.v (.sl false (.pair .str (.pair .str .unit))), .v .str], [(.tmp 4, .str)], [], 0, [(7, ⟨[1, 7, 8, 9], [(7, (.pair .str (.pair .str .unit)))], [], false⟩)]⟩
inductive spec_l2Of.Pt where
  | p0 (a0 : List ((ByteArray) × ((ByteArray) × (Unit)))) (a1 : ByteArray)
  | p7 (y1 : ByteArray) (y2 : List ((ByteArray) × ((ByteArray) × (Unit)))) (y3 : Int) (y4 : Int)
def spec_l2Of.lb : spec_l2Of.Pt → Nat
  | .p0 _ _ => 0
  | .p7 _ _ _ _ => 7
def spec_l2Of.st : spec_l2Of.Pt → St
  | .p0 a0 a1 => enter [.v (.sl false (.pair .str (.pair .str .unit))) a0, .v .str a1] 0
  | .p7 y1 y2 y3 y4 => ⟨[(1, .im .str y1), (7, .im (.sl false (.pair .str (.pair .str .unit))) y2), (8, .im (.int .i64) y3), (9, .im (.int .i64) y4)], [], 0⟩
def spec_l2Of.step (n : Nat) (K : spec_l2Of.Pt → Option (Tup [.str])) : spec_l2Of.Pt → Option (Tup [.str])
  | .p0 a0 a1 => K (.p7 a1 a0 ((List.length a0) : Int) (0 : Int))
  | .p7 y1 y2 y3 y4 => cond (decide (y4 < y3)) (cond (inB y4 (List.length y2)) (cond (seq (List.getD y2 (Int.toNat y4) default).1 y1) (some (List.getD y2 (Int.toNat y4) default).2.1) (K (.p7 y1 y2 y3 (IntKind.wrap .i64 (y4 + (1 : Int)))))) (none)) (some (⟨#[]⟩ : ByteArray))
def spec_l2Of (n : Nat) (a0 : List ((ByteArray) × ((ByteArray) × (Unit)))) (a1 : ByteArray) : Option (Tup [.str]) := goRec spec_l2Of.step n (.p0 a0 a1)
def spec_l2Of.spec : Ctr := ⟨106, [.v (.sl false (.pair .str (.pair .str .unit))), .v .str], [.str], [], none, fun n x => spec_l2Of n x.1 x.2.1⟩
theorem spec_l2Of.seg_eq : SegEq ty gl spec_l2Of.F spec_l2Of.md spec_l2Of.T spec_l2Of.spec spec_l2Of.lb spec_l2Of.st spec_l2Of.step := by
  intro n goto y; cases y <;> kernel_rfl
theorem spec_l2Of.text : Text Go.Proofs.Tryz.prog spec_l2Of.F spec_l2Of.spec := textOf Go.Proofs.Tryz.f106
theorem spec_l2Of.ok : CtrOK Go.Proofs.Tryz.prog gl spec_l2Of.spec :=
  ctr_okS tabs spec_l2Of.text spec_l2Of.seg_eq (fun n x => ⟨.p0 x.1 x.2.1, rfl, rfl, rfl⟩) (nilC)

/-! loop.example/g00039/spec.l7Named -/
def spec_l7Named.T : List Ctr := [spec_GoodLabels.spec, spec_l2Of.spec]
def spec_l7Named.md : List (Nat × List Md) := []
noncomputable def spec_l7Named.F : Fun := ⟨(Go.Proofs.Tryz.f67.body).getD .skip, [.v (.sl false (.pair .str (.pair .str .unit)))], [(.tmp 2, .bool)], [], 0, []⟩
inductive spec_l7Named.Pt where
  | p0 (a0 : List ((ByteArray) × ((ByteArray) × (Unit))))
def spec_l7Named.lb : spec_l7Named.Pt → Nat
  | .p0 _ => 0
def spec_l7Named.st : spec_l7Named.Pt → St
  | .p0 a0 => enter [.v (.sl false (.pair .str (.pair .str .unit))) a0] 0
def spec_l7Named.step (n : Nat) (K : spec_l7Named.Pt → Option (Tup [.bool])) : spec_l7Named.Pt → Option (Tup [.bool])
  | .p0 a0 => (spec_GoodLabels n a0).bind fun r4 => cond r4 ((spec_l2Of n a0 (⟨#[95, 110, 97, 109, 101]⟩ : ByteArray)).bind fun r5 => some (!(seq r5 (⟨#[]⟩ : ByteArray)))) (some false)
def spec_l7Named (n : Nat) (a0 : List ((ByteArray) × ((ByteArray) × (Unit)))) : Option (Tup [.bool]) := goRec spec_l7Named.step n (.p0 a0)
def spec_l7Named.spec : Ctr := ⟨67, [.v (.sl false (.pair .str (.pair .str .unit)))], [.bool], [], none, fun n x => spec_l7Named n x.1⟩
theorem spec_l7Named.seg_eq : SegEq ty gl spec_l7Named.F spec_l7Named.md spec_l7Named.T spec_l7Named.spec spec_l7Named.lb spec_l7Named.st spec_l7Named.step := by
  intro n goto y; cases y <;> kernel_rfl
theorem spec_l7Named.text : Text Go.Proofs.Tryz.prog spec_l7Named.F spec_l7Named.spec := textOf Go.Proofs.Tryz.f67
theorem spec_l7Named.ok : CtrOK Go.Proofs.Tryz.prog gl spec_l7Named.spec :=
  ctr_okS tabs spec_l7Named.text spec_l7Named.seg_eq (fun n x => ⟨.p0 x.1, rfl, rfl, rfl⟩) (consC spec_GoodLabels.ok (consC spec_l2Of.ok (nilC)))

/-! loop.example/g00039/spec.GoodSamples -/
def spec_GoodSamples.T : List Ctr := [spec_l3Time.spec]
def spec_GoodSamples.md : List (Nat × List Md) := []
noncomputable def spec_GoodSamples.F : Fun := ⟨(Go.Proofs.Tryz.f68.body).getD .skip, [.v (.sl false (.pair (.int .i64) (.pair (.int .i64) .unit)))], [(.tmp 2, .bool)], [], 0, [(7, ⟨[0, 5, 6, 7], [(5, (.pair (.int .i64) (.pair (.int .i64) .unit)))], [], false⟩), (18, ⟨[0, 5, 6, 7, 30], [(5, (.pair (.int .i64) (.pair (.int .i64) .unit)))], [], false⟩)]⟩
inductive spec_GoodSamples.Pt where
  | p0 (a0 : List ((Int) × ((Int) × (Unit))))
  | p7 (y1 : List ((Int) × ((Int) × (Unit)))) (y2 : List ((Int) × ((Int) × (Unit)))) (y3 : Int) (y4 : Int)
  | p18 (y1 : List ((Int) × ((Int) × (Unit)))) (y2 : List ((Int) × ((Int) × (Unit)))) (y3 : Int) (y4 : Int) (y5 : Bool)
def spec_GoodSamples.lb : spec_GoodSamples.Pt → Nat
  | .p0 _ => 0
  | .p7 _ _ _ _ => 7
  | .p18 _ _ _ _ _ => 18
def spec_GoodSamples.st : spec_GoodSamples.Pt → St
  | .p0 a0 => enter [.v (.sl false (.pair (.int .i64) (.pair (.int .i64) .unit))) a0] 0
  | .p7 y1 y2 y3 y4 => ⟨[(0, .im (.sl false (.pair (.int .i64) (.pair (.int .i64) .unit))) y1), (5, .im (.sl false (.pair (.int .i64) (.pair (.int .i64) .unit))) y2), (6, .im (.int .i64) y3), (7, .im (.int .i64) y4)], [], 0⟩
  | .p18 y1 y2 y3 y4 y5 => ⟨[(0, .im (.sl false (.pair (.int .i64) (.pair (.int .i64) .unit))) y1), (5, .im (.sl false (.pair (.int .i64) (.pair (.int .i64) .unit))) y2), (6, .im (.int .i64) y3), (7, .im (.int .i64) y4), (30, .im .bool y5)], [], 0⟩
def spec_GoodSamples.step (n : Nat) (K : spec_GoodSamples.Pt → Option (Tup [.bool])) : spec_GoodSamples.Pt → Option (Tup [.bool])
  | .p0 a0 => K (.p7 a0 a0 ((List.length a0) : Int) (0 : Int))
  | .p7 y1 y2 y3 y4 => cond (decide (y4 < y3)) (cond (inB y4 (List.length y2)) ((spec_l3Time n (List.getD y2 (Int.toNat y4) default).1).bind fun r7 => cond (!r7) (K (.p18 y1 y2 y3 y4 true)) (cond (decide ((0 : Int) < y4)) (cond (inB (IntKind.wrap .i64 (y4 - (1 : Int))) (List.length y1)) (K (.p18 y1 y2 y3 y4 (decide ((List.getD y2 (Int.toNat y4) default).1 ≤ (List.getD y1 (Int.toNat (IntKind.wrap .i64 (y4 - (1 : Int)))) default).1)))) (none)) (K (.p18 y1 y2 y3 y4 false)))) (none)) (some (decide (((List.length y1) : Int) ≤ (2000 : Int))))
  | .p18 y1 y2 y3 y4 y5 => cond y5 (some false) (K (.p7 y1 y2 y3 (IntKind.wrap .i64 (y4 + (1 : Int)))))
def spec_GoodSamples (n : Nat) (a0 : List ((Int) × ((Int) × (Unit)))) : Option (Tup [.bool]) := goRec spec_GoodSamples.step n (.p0 a0)
def spec_GoodSamples.spec : Ctr := ⟨68, [.v (.sl false (.pair (.int .i64) (.pair (.int .i64) .unit)))], [.bool], [], none, fun n x => spec_GoodSamples n x.1⟩
theorem spec_GoodSamples.seg_eq : SegEq ty gl spec_GoodSamples.F spec_GoodSamples.md spec_GoodSamples.T spec_GoodSamples.spec spec_GoodSamples.lb spec_GoodSamples.st spec_GoodSamples.step := by
  intro n goto y; cases y <;> kernel_rfl
theorem spec_GoodSamples.text : Text Go.Proofs.Tryz.prog spec_GoodSamples.F spec_GoodSamples.spec := textOf Go.Proofs.Tryz.f68
theorem spec_GoodSamples.ok : CtrOK Go.Proofs.Tryz.prog gl spec_GoodSamples.spec :=
  ctr_okS tabs spec_GoodSamples.text spec_GoodSamples.seg_eq (fun n x => ⟨.p0 x.1, rfl, rfl, rfl⟩) (consC spec_l3Time.ok (nilC))

/-! loop.example/g00039/spec.l2Cmp -/
def spec_l2Cmp.T : List Ctr := [spec_l2CmpNum.spec, spec_l2CmpText.spec]
def spec_l2Cmp.md : List (Nat × List Md) := []
noncomputable def spec_l2Cmp.F : Fun := ⟨(Go.Proofs.Tryz.f69.body).getD .skip, [.v (.sl false (.pair .str (.pair .str .unit))), .v (.sl false (.pair .str (.pair .str .unit)))], [(.tmp 4, (.int .i64))], [], 0, [(7, ⟨[0, 1, 5], [], [], false⟩), (9, ⟨[0, 1, 5, 17], [], [], false⟩)]⟩
inductive spec_l2Cmp.Pt where
  | p0 (a0 : List ((ByteArray) × ((ByteArray) × (Unit)))) (a1 : List ((ByteArray) × ((ByteArray) × (Unit))))
  | p7 (y1 : List ((ByteArray) × ((ByteArray) × (Unit)))) (y2 : List ((ByteArray) × ((ByteArray) × (Unit)))) (y3 : Int)
  | p9 (y1 : List ((ByteArray) × ((ByteArray) × (Unit)))) (y2 : List ((ByteArray) × ((ByteArray) × (Unit)))) (y3 : Int) (y4 : Bool)
def spec_l2Cmp.lb : spec_l2Cmp.Pt → Nat
  | .p0 _ _ => 0
  | .p7 _ _ _ => 7
  | .p9 _ _ _ _ => 9
def spec_l2Cmp.st : spec_l2Cmp.Pt → St
  | .p0 a0 a1 => enter [.v (.sl false (.pair .str (.pair .str .unit))) a0, .v (.sl false (.pair .str (.pair .str .unit))) a1] 0
  | .p7 y1 y2 y3 => ⟨[(0, .im (.sl false (.pair .str (.pair .str .unit))) y1), (1, .im (.sl false (.pair .str (.pair .str .unit))) y2), (5, .im (.int .i64) y3)], [], 0⟩
  | .p9 y1 y2 y3 y4 => ⟨[(0, .im (.sl false (.pair .str (.pair .str .unit))) y1), (1, .im (.sl false (.pair .str (.pair .str .unit))) y2), (5, .im (.int .i64) y3), (17, .im .bool y4)], [], 0⟩
def spec_l2Cmp.step (n : Nat) (K : spec_l2Cmp.Pt → Option (Tup [(.int .i64)])) : spec_l2Cmp.Pt → Option (Tup [(.int .i64)])
  | .p0 a0 a1 => K (.p7 a0 a1 (0 : Int))
  | .p7 y1 y2 y3 => cond (decide (y3 < ((List.length y1) : Int))) (K (.p9 y1 y2 y3 (decide (y3 < ((List.length y2) : Int))))) (K (.p9 y1 y2 y3 false))
  | .p9 y1 y2 y3 y4 => cond y4 (cond (inB y3 (List.length y1)) (cond (inB y3 (List.length y2)) ((spec_l2CmpText n (List.getD y1 (Int.toNat y3) default).1 (List.getD y2 (Int.toNat y3) default).1).bind fun (r7 : Int) => cond (!(decide (r7 = (0 : Int)))) (some r7) (cond (inB y3 (List.length y1)) (cond (inB y3 (List.length y2)) ((spec_l2CmpText n (List.getD y1 (Int.toNat y3) default).2.1 (List.getD y2 (Int.toNat y3) default).2.1).bind fun (r8 : Int) => cond (!(decide (r8 = (0 : Int)))) (some r8) (K (.p7 y1 y2 (IntKind.wrap .i64 (y3 + (1 : Int)))))) (none)) (none))) (none)) (none)) ((spec_l2CmpNum n ((List.length y1) : Int) ((List.length y2) : Int)).bind fun (r7 : Int) => some r7)
def spec_l2Cmp (n : Nat) (a0 : List ((ByteArray) × ((ByteArray) × (Unit)))) (a1 : List ((ByteArray) × ((ByteArray) × (Unit)))) : Option (Tup [(.int .i64)]) := goRec spec_l2Cmp.step n (.p0 a0 a1)
def spec_l2Cmp.spec : Ctr := ⟨69, [.v (.sl false (.pair .str (.pair .str .unit))), .v (.sl false (.pair .str (.pair .str .unit)))], [(.int .i64)], [], none, fun n x => spec_l2Cmp n x.1 x.2.1⟩
theorem spec_l2Cmp.seg_eq : SegEq ty gl spec_l2Cmp.F spec_l2Cmp.md spec_l2Cmp.T spec_l2Cmp.spec spec_l2Cmp.lb spec_l2Cmp.st spec_l2Cmp.step := by
  intro n goto y; cases y <;> kernel_rfl
theorem spec_l2Cmp.text : Text Go.Proofs.Tryz.prog spec_l2Cmp.F spec_l2Cmp.spec := textOf Go.Proofs.Tryz.f69
theorem spec_l2Cmp.ok : CtrOK Go.Proofs.Tryz.prog gl spec_l2Cmp.spec :=
  ctr_okS tabs spec_l2Cmp.text spec_l2Cmp.seg_eq (fun n x => ⟨.p0 x.1 x.2.1, rfl, rfl, rfl⟩) (consC spec_l2CmpNum.ok (consC spec_l2CmpText.ok (nilC)))

/-! loop.example/g00039/spec.GoodSeries -/
def spec_GoodSeries.T : List Ctr := [spec_l7Named.spec, spec_GoodSamples.spec, spec_l2Cmp.spec]
def spec_GoodSeries.md : List (Nat × List Md) := []
noncomputable def spec_GoodSeries.F : Fun := ⟨(Go.Proofs.Tryz.f32.body).getD .skip, [.v (.sl false (.pair (.sl false (.pair .str (.pair .str .unit))) (.pair (.sl false (.pair (.int .i64) (.pair (.int .i64) .unit))) .unit)))], [(.tmp 2, .bool)], [], 0, [(15, ⟨[0, 8, 9, 10], [(8, (.pair (.sl false (.pair .str (.pair .str .unit))) (.pair (.sl false (.pair (.int .i64) (.pair (.int .i64) .unit))) .unit)))], [], false⟩), (26, ⟨[0, 8, 9, 10, 46], [(8, (.pair (.sl false (.pair .str (.pair .str .unit))) (.pair (.sl false (.pair (.int .i64) (.pair (.int .i64) .unit))) .unit)))], [], false⟩)]⟩
inductive spec_GoodSeries.Pt where
  | p0 (a0 : List ((List ((ByteArray) × ((ByteArray) × (Unit)))) × ((List ((Int) × ((Int) × (Unit)))) × (Unit))))
  | p15 (y1 : List ((List ((ByteArray) × ((ByteArray) × (Unit)))) × ((List ((Int) × ((Int) × (Unit)))) × (Unit)))) (y2 : List ((List ((ByteArray) × ((ByteArray) × (Unit)))) × ((List ((Int) × ((Int) × (Unit)))) × (Unit)))) (y3 : Int) (y4 : Int)
  | p26 (y1 : List ((List ((ByteArray) × ((ByteArray) × (Unit)))) × ((List ((Int) × ((Int) × (Unit)))) × (Unit)))) (y2 : List ((List ((ByteArray) × ((ByteArray) × (Unit)))) × ((List ((Int) × ((Int) × (Unit)))) × (Unit)))) (y3 : Int) (y4 : Int) (y5 : Bool)
def spec_GoodSeries.lb : spec_GoodSeries.Pt → Nat
  | .p0 _ => 0
  | .p15 _ _ _ _ => 15
  | .p26 _ _ _ _ _ => 26
def spec_GoodSeries.st : spec_GoodSeries.Pt → St
  | .p0 a0 => enter [.v (.sl false (.pair (.sl false (.pair .str (.pair .str .unit))) (.pair (.sl false (.pair (.int .i64) (.pair (.int .i64) .unit))) .unit))) a0] 0
  | .p15 y1 y2 y3 y4 => ⟨[(0, .im (.sl false (.pair (.sl false (.pair .str (.pair .str .unit))) (.pair (.sl false (.pair (.int .i64) (.pair (.int .i64) .unit))) .unit))) y1), (8, .im (.sl false (.pair (.sl false (.pair .str (.pair .str .unit))) (.pair (.sl false (.pair (.int .i64) (.pair (.int .i64) .unit))) .unit))) y2), (9, .im (.int .i64) y3), (10, .im (.int .i64) y4)], [], 0⟩
  | .p26 y1 y2 y3 y4 y5 => ⟨[(0, .im (.sl false (.pair (.sl false (.pair .str (.pair .str .unit))) (.pair (.sl false (.pair (.int .i64) (.pair (.int .i64) .unit))) .unit))) y1), (8, .im (.sl false (.pair (.sl false (.pair .str (.pair .str .unit))) (.pair (.sl false (.pair (.int .i64) (.pair (.int .i64) .unit))) .unit))) y2), (9, .im (.int .i64) y3), (10, .im (.int .i64) y4), (46, .im .bool y5)], [], 0⟩
def spec_GoodSeries.step (n : Nat) (K : spec_GoodSeries.Pt → Option (Tup [.bool])) : spec_GoodSeries.Pt → Option (Tup [.bool])
  | .p0 a0 => cond (decide ((200 : Int) < ((List.length a0) : Int))) (some false) (K (.p15 a0 a0 ((List.length a0) : Int) (0 : Int)))
  | .p15 y1 y2 y3 y4 => cond (decide (y4 < y3)) (cond (inB y4 (List.length y2)) ((spec_l7Named n (List.getD y2 (Int.toNat y4) default).1).bind fun r7 => cond (!r7) (K (.p26 y1 y2 y3 y4 true)) ((spec_GoodSamples n (List.getD y2 (Int.toNat y4) default).2.1).bind fun r8 => cond (!r8) (K (.p26 y1 y2 y3 y4 true)) (cond (decide (((List.length (List.getD y2 (Int.toNat y4) default).2.1) : Int) = (0 : Int))) (K (.p26 y1 y2 y3 y4 true)) (cond (decide ((0 : Int) < y4)) (cond (inB (IntKind.wrap .i64 (y4 - (1 : Int))) (List.length y1)) ((spec_l2Cmp n (List.getD y1 (Int.toNat (IntKind.wrap .i64 (y4 - (1 : Int)))) default).1 (List.getD y2 (Int.toNat y4) default).1).bind fun (r9 : Int) => K (.p26 y1 y2 y3 y4 (decide ((0 : Int) ≤ r9)))) (none)) (K (.p26 y1 y2 y3 y4 false)))))) (none)) (some true)
  | .p26 y1 y2 y3 y4 y5 => cond y5 (some false) (K (.p15 y1 y2 y3 (IntKind.wrap .i64 (y4 + (1 : Int)))))
def spec_GoodSeries (n : Nat) (a0 : List ((List ((ByteArray) × ((ByteArray) × (Unit)))) × ((List ((Int) × ((Int) × (Unit)))) × (Unit)))) : Option (Tup [.bool]) := goRec spec_GoodSeries.step n (.p0 a0)
def spec_GoodSeries.spec : Ctr := ⟨32, [.v (.sl false (.pair (.sl false (.pair .str (.pair .str .unit))) (.pair (.sl false (.pair (.int .i64) (.pair (.int .i64) .unit))) .unit)))], [.bool], [], none, fun n x => spec_GoodSeries n x.1⟩
theorem spec_GoodSeries.seg_eq : SegEq ty gl spec_GoodSeries.F spec_GoodSeries.md spec_GoodSeries.T spec_GoodSeries.spec spec_GoodSeries.lb spec_GoodSeries.st spec_GoodSeries.step := by
  intro n goto y; cases y <;> kernel_rfl
theorem spec_GoodSeries.text : Text Go.Proofs.Tryz.prog spec_GoodSeries.F spec_GoodSeries.spec := textOf Go.Proofs.Tryz.f32
theorem spec_GoodSeries.ok : CtrOK Go.Proofs.Tryz.prog gl spec_GoodSeries.spec :=
  ctr_okS tabs spec_GoodSeries.text spec_GoodSeries.seg_eq (fun n x => ⟨.p0 x.1, rfl, rfl, rfl⟩) (consC spec_l7Named.ok (consC spec_GoodSamples.ok (consC spec_l2Cmp.ok (nilC))))

/-! loop.example/g00039/spec.GoodHead -/
def spec_GoodHead.T : List Ctr := [spec_l3Time.spec, spec_GoodSeries.spec]
def spec_GoodHead.md : List (Nat × List Md) := []
noncomputable def spec_GoodHead.F : Fun := ⟨(Go.Proofs.Tryz.f56.body).getD .skip, [.v (.pair (.int .i64) (.pair (.int .i64) (.pair (.int .i64) (.pair (.sl false (.pair (.sl false (.pair .str (.pair .str .unit))) (.pair (.sl false (.pair (.int .i64) (.pair (.int .i64) .unit))) .unit))) .unit))))], [(.tmp 2, .bool)], [], 0, [(4, ⟨[1, 42], [], [(1, 3, (.pair (.sl false (.pair .str (.pair .str .unit))) (.pair (.sl false (.pair (.int .i64) (.pair (.int .i64) .unit))) .unit)))], false⟩), (15, ⟨[1, 44, 45, 46], [(44, (.pair (.sl false (.pair .str (.pair .str .unit))) (.pair (.sl false (.pair (.int .i64) (.pair (.int .i64) .unit))) .unit)))], [(1, 3, (.pair (.sl false (.pair .str (.pair .str .unit))) (.pair (.sl false (.pair (.int .i64) (.pair (.int .i64) .unit))) .unit)))], false⟩)]⟩
inductive spec_GoodHead.Pt where
  | p0 (a0 : (Int) × ((Int) × ((Int) × ((List ((List ((ByteArray) × ((ByteArray) × (Unit)))) × ((List ((Int) × ((Int) × (Unit)))) × (Unit)))) × (Unit)))))
  | p4 (y1 : Bool) (y2 : Int) (y3 : Int) (y4 : Int) (y5 : List ((List ((ByteArray) × ((ByteArray) × (Unit)))) × ((List ((Int) × ((Int) × (Unit)))) × (Unit))))
  | p15 (y1 : List ((List ((ByteArray) × ((ByteArray) × (Unit)))) × ((List ((Int) × ((Int) × (Unit)))) × (Unit)))) (y2 : Int) (y3 : Int) (y4 : Int) (y5 : Int) (y6 : Int) (y7 : List ((List ((ByteArray) × ((ByteArray) × (Unit)))) × ((List ((Int) × ((Int) × (Unit)))) × (Unit))))
def spec_GoodHead.lb : spec_GoodHead.Pt → Nat
  | .p0 _ => 0
  | .p4 _ _ _ _ _ => 4
  | .p15 _ _ _ _ _ _ _ => 15
def spec_GoodHead.st : spec_GoodHead.Pt → St
  | .p0 a0 => enter [.v (.pair (.int .i64) (.pair (.int .i64) (.pair (.int .i64) (.pair (.sl false (.pair (.sl false (.pair .str (.pair .str .unit))) (.pair (.sl false (.pair (.int .i64) (.pair (.int .i64) .unit))) .unit))) .unit)))) a0] 0
  | .p4 y1 y2 y3 y4 y5 => ⟨[(1, .po 0 0), (42, .im .bool y1)], [(0, .obj [.im (.int .i64) y2, .im (.int .i64) y3, .im (.int .i64) y4, .im (.sl false (.pair (.sl false (.pair .str (.pair .str .unit))) (.pair (.sl false (.pair (.int .i64) (.pair (.int .i64) .unit))) .unit))) y5])], 1⟩
  | .p15 y1 y2 y3 y4 y5 y6 y7 => ⟨[(1, .po 0 0), (44, .im (.sl false (.pair (.sl false (.pair .str (.pair .str .unit))) (.pair (.sl false (.pair (.int .i64) (.pair (.int .i64) .unit))) .unit))) y1), (45, .im (.int .i64) y2), (46, .im (.int .i64) y3)], [(0, .obj [.im (.int .i64) y4, .im (.int .i64) y5, .im (.int .i64) y6, .im (.sl false (.pair (.sl false (.pair .str (.pair .str .unit))) (.pair (.sl false (.pair (.int .i64) (.pair (.int .i64) .unit))) .unit))) y7])], 1⟩
def spec_GoodHead.step (n : Nat) (K : spec_GoodHead.Pt → Option (Tup [.bool])) : spec_GoodHead.Pt → Option (Tup [.bool])
  | .p0 a0 => (spec_l3Time n a0.1).bind fun r4 => cond (!r4) (K (.p4 true a0.1 a0.2.1 a0.2.2.1 a0.2.2.2.1)) (cond (decide (a0.2.1 < (0 : Int))) (K (.p4 true a0.1 a0.2.1 a0.2.2.1 a0.2.2.2.1)) (cond (decide ((200 : Int) < a0.2.1)) (K (.p4 true a0.1 a0.2.1 a0.2.2.1 a0.2.2.2.1)) ((spec_GoodSeries n a0.2.2.2.1).bind fun r5 => cond (!r5) (K (.p4 true a0.1 a0.2.1 a0.2.2.1 a0.2.2.2.1)) (cond (decide (a0.2.1 < ((List.length a0.2.2.2.1) : Int))) (K (.p4 true a0.1 a0.2.1 a0.2.2.1 a0.2.2.2.1)) (cond (decide (a0.2.2.1 < (-(1 : Int)))) (K (.p4 true a0.1 a0.2.1 a0.2.2.1 a0.2.2.2.1)) (K (.p4 (decide ((1000000000000 : Int) < a0.2.2.1)) a0.1 a0.2.1 a0.2.2.1 a0.2.2.2.1)))))))
  | .p4 y1 y2 y3 y4 y5 => cond y1 (some false) (K (.p15 y5 ((List.length y5) : Int) (0 : Int) y2 y3 y4 y5))
  | .p15 y1 y2 y3 y4 y5 y6 y7 => cond (decide (y3 < y2)) (cond (inB y3 (List.length y1)) (cond (inB (IntKind.wrap .i64 (((List.length (List.getD y1 (Int.toNat y3) default).2.1) : Int) - (1 : Int))) (List.length (List.getD y1 (Int.toNat y3) default).2.1)) (cond (decide (y6 < (List.getD (List.getD y1 (Int.toNat y3) default).2.1 (Int.toNat (IntKind.wrap .i64 (((List.length (List.getD y1 (Int.toNat y3) default).2.1) : Int) - (1 : Int)))) default).1)) (some false) (K (.p15 y1 y2 (IntKind.wrap .i64 (y3 + (1 : Int))) y4 y5 y6 y7))) (none)) (none)) (some true)
def spec_GoodHead (n : Nat) (a0 : (Int) × ((Int) × ((Int) × ((List ((List ((ByteArray) × ((ByteArray) × (Unit)))) × ((List ((Int) × ((Int) × (Unit)))) × (Unit)))) × (Unit))))) : Option (Tup [.bool]) := goRec spec_GoodHead.step n (.p0 a0)
def spec_GoodHead.spec : Ctr := ⟨56, [.v (.pair (.int .i64) (.pair (.int .i64) (.pair (.int .i64) (.pair (.sl false (.pair (.sl false (.pair .str (.pair .str .unit))) (.pair (.sl false (.pair (.int .i64) (.pair (.int .i64) .unit))) .unit))) .unit))))], [.bool], [], none, fun n x => spec_GoodHead n x.1⟩
theorem spec_GoodHead.seg_eq : SegEq ty gl spec_GoodHead.F spec_GoodHead.md spec_GoodHead.T spec_GoodHead.spec spec_GoodHead.lb spec_GoodHead.st spec_GoodHead.step := by
  intro n goto y; cases y <;> kernel_rfl
theorem spec_GoodHead.text : Text Go.Proofs.Tryz.prog spec_GoodHead.F spec_GoodHead.spec := textOf Go.Proofs.Tryz.f56
theorem spec_GoodHead.ok : CtrOK Go.Proofs.Tryz.prog gl spec_GoodHead.spec :=
  ctr_okS tabs spec_GoodHead.text spec_GoodHead.seg_eq (fun n x => ⟨.p0 x.1, rfl, rfl, rfl⟩) (consC spec_l3Time.ok (consC spec_GoodSeries.ok (nilC)))

/-! loop.example/g00039/spec.l3Copy -/
def spec_l3Copy.T : List Ctr := []
def spec_l3Copy.md : List (Nat × List Md) := []
noncomputable def spec_l3Copy.F : Fun := ⟨(Go.Proofs.Tryz.f74.body).getD .skip, [.v (.sl false (.pair .str (.pair .str .unit)))], [(.tmp 2, (.sl false (.pair .str (.pair .str .unit))))], [], 0, []⟩
inductive spec_l3Copy.Pt where
  | p0 (a0 : List ((ByteArray) × ((ByteArray) × (Unit))))
def spec_l3Copy.lb : spec_l3Copy.Pt → Nat
  | .p0 _ => 0
def spec_l3Copy.st : spec_l3Copy.Pt → St
  | .p0 a0 => enter [.v (.sl false (.pair .str (.pair .str .unit))) a0] 0
def spec_l3Copy.step (n : Nat) (K : spec_l3Copy.Pt → Option (Tup [(.sl false (.pair .str (.pair .str .unit)))])) : spec_l3Copy.Pt → Option (Tup [(.sl false (.pair .str (.pair .str .unit)))])
  | .p0 a0 => cond (room ((List.length ([] : List ((ByteArray) × ((ByteArray) × (Unit))))) + (List.length a0))) (some (([] : List ((ByteArray) × ((ByteArray) × (Unit)))) ++ a0)) (none)
def spec_l3Copy (n : Nat) (a0 : List ((ByteArray) × ((ByteArray) × (Unit)))) : Option (Tup [(.sl false (.pair .str (.pair .str .unit)))]) := goRec spec_l3Copy.step n (.p0 a0)
def spec_l3Copy.spec : Ctr := ⟨74, [.v (.sl false (.pair .str (.pair .str .unit)))], [(.sl false (.pair .str (.pair .str .unit)))], [], none, fun n x => spec_l3Copy n x.1⟩
theorem spec_l3Copy.seg_eq : SegEq ty gl spec_l3Copy.F spec_l3Copy.md spec_l3Copy.T spec_l3Copy.spec spec_l3Copy.lb spec_l3Copy.st spec_l3Copy.step := by
  intro n goto y; cases y <;> kernel_rfl
theorem spec_l3Copy.text : Text Go.Proofs.Tryz.prog spec_l3Copy.F spec_l3Copy.spec := textOf Go.Proofs.Tryz.f74
theorem spec_l3Copy.ok : CtrOK Go.Proofs.Tryz.prog gl spec_l3Copy.spec :=
  ctr_okS tabs spec_l3Copy.text spec_l3Copy.seg_eq (fun n x => ⟨.p0 x.1, rfl, rfl, rfl⟩) (nilC)

/-! loop.example/g00039/spec.l7CopySamples -/
def spec_l7CopySamples.T : List Ctr := []
def spec_l7CopySamples.md : List (Nat × List Md) := []
noncomputable def spec_l7CopySamples.F : Fun := ⟨(Go.Proofs.Tryz.f92.body).getD .skip, [.v (.sl false (.pair (.int .i64) (.pair (.int .i64) .unit)))], [(.tmp 2, (.sl false (.pair (.int .i64) (.pair (.int .i64) .unit))))], [], 0, []⟩
inductive spec_l7CopySamples.Pt where
  | p0 (a0 : List ((Int) × ((Int) × (Unit))))
def spec_l7CopySamples.lb : spec_l7CopySamples.Pt → Nat
  | .p0 _ => 0
def spec_l7CopySamples.st : spec_l7CopySamples.Pt → St
  | .p0 a0 => enter [.v (.sl false (.pair (.int .i64) (.pair (.int .i64) .unit))) a0] 0
def spec_l7CopySamples.step (n : Nat) (K : spec_l7CopySamples.Pt → Option (Tup [(.sl false (.pair (.int .i64) (.pair (.int .i64) .unit)))])) : spec_l7CopySamples.Pt → Option (Tup [(.sl false (.pair (.int .i64) (.pair (.int .i64) .unit)))])
  | .p0 a0 => cond (room ((List.length ([] : List ((Int) × ((Int) × (Unit))))) + (List.length a0))) (some (([] : List ((Int) × ((Int) × (Unit)))) ++ a0)) (none)
def spec_l7CopySamples (n : Nat) (a0 : List ((Int) × ((Int) × (Unit)))) : Option (Tup [(.sl false (.pair (.int .i64) (.pair (.int .i64) .unit)))]) := goRec spec_l7CopySamples.step n (.p0 a0)
def spec_l7CopySamples.spec : Ctr := ⟨92, [.v (.sl false (.pair (.int .i64) (.pair (.int .i64) .unit)))], [(.sl false (.pair (.int .i64) (.pair (.int .i64) .unit)))], [], none, fun n x => spec_l7CopySamples n x.1⟩
theorem spec_l7CopySamples.seg_eq : SegEq ty gl spec_l7CopySamples.F spec_l7CopySamples.md spec_l7CopySamples.T spec_l7CopySamples.spec spec_l7CopySamples.lb spec_l7CopySamples.st spec_l7CopySamples.step := by
  intro n goto y; cases y <;> kernel_rfl
theorem spec_l7CopySamples.text : Text Go.Proofs.Tryz.prog spec_l7CopySamples.F spec_l7CopySamples.spec := textOf Go.Proofs.Tryz.f92
theorem spec_l7CopySamples.ok : CtrOK Go.Proofs.Tryz.prog gl spec_l7CopySamples.spec :=
  ctr_okS tabs spec_l7CopySamples.text spec_l7CopySamples.seg_eq (fun n x => ⟨.p0 x.1, rfl, rfl, rfl⟩) (nilC)

/-! loop.example/g00039/spec.l7Copy -/
def spec_l7Copy.T : List Ctr := [spec_l3Copy.spec, spec_l7CopySamples.spec]
def spec_l7Copy.md : List (Nat × List Md) := []
noncomputable def spec_l7Copy.F : Fun := ⟨(Go.Proofs.Tryz.f57.body).getD .skip, [.v (.sl false (.pair (.sl false (.pair .str (.pair .str .unit))) (.pair (.sl false (.pair (.int .i64) (.pair (.int .i64) .unit))) .unit)))], [(.tmp 2, (.sl false (.pair (.sl false (.pair .str (.pair .str .unit))) (.pair (.sl false (.pair (.int .i64) (.pair (.int .i64) .unit))) .unit))))], [], 0, [(9, ⟨[3, 6, 7, 8], [(3, (.pair (.sl false (.pair .str (.pair .str .unit))) (.pair (.sl false (.pair (.int .i64) (.pair (.int .i64) .unit))) .unit))), (6, (.pair (.sl false (.pair .str (.pair .str .unit))) (.pair (.sl false (.pair (.int .i64) (.pair (.int .i64) .unit))) .unit)))], [], false⟩)]⟩
inductive spec_l7Copy.Pt where
  | p0 (a0 : List ((List ((ByteArray) × ((ByteArray) × (Unit)))) × ((List ((Int) × ((Int) × (Unit)))) × (Unit))))
  | p9 (y1 : List ((List ((ByteArray) × ((ByteArray) × (Unit)))) × ((List ((Int) × ((Int) × (Unit)))) × (Unit)))) (y2 : Int) (y3 : Int) (y4 : List ((List ((ByteArray) × ((ByteArray) × (Unit)))) × ((List ((Int) × ((Int) × (Unit)))) × (Unit))))
def spec_l7Copy.lb : spec_l7Copy.Pt → Nat
  | .p0 _ => 0
  | .p9 _ _ _ _ => 9
def spec_l7Copy.st : spec_l7Copy.Pt → St
  | .p0 a0 => enter [.v (.sl false (.pair (.sl false (.pair .str (.pair .str .unit))) (.pair (.sl false (.pair (.int .i64) (.pair (.int .i64) .unit))) .unit))) a0] 0
  | .p9 y1 y2 y3 y4 => ⟨[(3, .hs 0 [] none 0), (6, .im (.sl false (.pair (.sl false (.pair .str (.pair .str .unit))) (.pair (.sl false (.pair (.int .i64) (.pair (.int .i64) .unit))) .unit))) y1), (7, .im (.int .i64) y2), (8, .im (.int .i64) y3)], [(0, .arr true (.pair (.sl false (.pair .str (.pair .str .unit))) (.pair (.sl false (.pair (.int .i64) (.pair (.int .i64) .unit))) .unit)) y4 0)], 1⟩
def spec_l7Copy.step (n : Nat) (K : spec_l7Copy.Pt → Option (Tup [(.sl false (.pair (.sl false (.pair .str (.pair .str .unit))) (.pair (.sl false (.pair (.int .i64) (.pair (.int .i64) .unit))) .unit)))])) : spec_l7Copy.Pt → Option (Tup [(.sl false (.pair (.sl false (.pair .str (.pair .str .unit))) (.pair (.sl false (.pair (.int .i64) (.pair (.int .i64) .unit))) .unit)))])
  | .p0 a0 => K (.p9 a0 ((List.length a0) : Int) (0 : Int) ([] : List ((List ((ByteArray) × ((ByteArray) × (Unit)))) × ((List ((Int) × ((Int) × (Unit)))) × (Unit)))))
  | .p9 y1 y2 y3 y4 => cond (decide (y3 < y2)) (cond (inB y3 (List.length y1)) ((spec_l3Copy n (List.getD y1 (Int.toNat y3) default).1).bind fun r7 => (spec_l7CopySamples n (List.getD y1 (Int.toNat y3) default).2.1).bind fun r8 => cond (room ((List.length y4) + (List.length [(r7, (r8, ()))]))) (K (.p9 y1 y2 (IntKind.wrap .i64 (y3 + (1 : Int))) (y4 ++ [(r7, (r8, ()))]))) (none)) (none)) (some y4)
def spec_l7Copy (n : Nat) (a0 : List ((List ((ByteArray) × ((ByteArray) × (Unit)))) × ((List ((Int) × ((Int) × (Unit)))) × (Unit)))) : Option (Tup [(.sl false (.pair (.sl false (.pair .str (.pair .str .unit))) (.pair (.sl false (.pair (.int .i64) (.pair (.int .i64) .unit))) .unit)))]) := goRec spec_l7Copy.step n (.p0 a0)
def spec_l7Copy.spec : Ctr := ⟨57, [.v (.sl false (.pair (.sl false (.pair .str (.pair .str .unit))) (.pair (.sl false (.pair (.int .i64) (.pair (.int .i64) .unit))) .unit)))], [(.sl false (.pair (.sl false (.pair .str (.pair .str .unit))) (.pair (.sl false (.pair (.int .i64) (.pair (.int .i64) .unit))) .unit)))], [], none, fun n x => spec_l7Copy n x.1⟩
theorem spec_l7Copy.seg_eq : SegEq ty gl spec_l7Copy.F spec_l7Copy.md spec_l7Copy.T spec_l7Copy.spec spec_l7Copy.lb spec_l7Copy.st spec_l7Copy.step := by
  intro n goto y; cases y <;> kernel_rfl
theorem spec_l7Copy.text : Text Go.Proofs.Tryz.prog spec_l7Copy.F spec_l7Copy.spec := textOf Go.Proofs.Tryz.f57
theorem spec_l7Copy.ok : CtrOK Go.Proofs.Tryz.prog gl spec_l7Copy.spec :=
  ctr_okS tabs spec_l7Copy.text spec_l7Copy.seg_eq (fun n x => ⟨.p0 x.1, rfl, rfl, rfl⟩) (consC spec_l3Copy.ok (consC spec_l7CopySamples.ok (nilC)))

/-! loop.example/g00039/spec.l7Place -/
def spec_l7Place.T : List Ctr := [spec_l2Cmp.spec]
def spec_l7Place.md : List (Nat × List Md) := []
noncomputable def spec_l7Place.F : Fun := ⟨(Go.Proofs.Tryz.f93.body).getD .skip, [.v (.sl false (.pair (.sl false (.pair .str (.pair .str .unit))) (.pair (.sl false (.pair (.int .i64) (.pair (.int .i64) .unit))) .unit))), .v (.sl false (.pair .str (.pair .str .unit)))], [(.tmp 4, (.int .i64)), (.tmp 5, .bool)], [], 0, [(7, ⟨[0, 1, 9, 10, 11], [(9, (.pair (.sl false (.pair .str (.pair .str .unit))) (.pair (.sl false (.pair (.int .i64) (.pair (.int .i64) .unit))) .unit)))], [], false⟩)]⟩
inductive spec_l7Place.Pt where
  | p0 (a0 : List ((List ((ByteArray) × ((ByteArray) × (Unit)))) × ((List ((Int) × ((Int) × (Unit)))) × (Unit)))) (a1 : List ((ByteArray) × ((ByteArray) × (Unit))))
  | p7 (y1 : List ((List ((ByteArray) × ((ByteArray) × (Unit)))) × ((List ((Int) × ((Int) × (Unit)))) × (Unit)))) (y2 : List ((ByteArray) × ((ByteArray) × (Unit)))) (y3 : List ((List ((ByteArray) × ((ByteArray) × (Unit)))) × ((List ((Int) × ((Int) × (Unit)))) × (Unit)))) (y4 : Int) (y5 : Int)
def spec_l7Place.lb : spec_l7Place.Pt → Nat
  | .p0 _ _ => 0
  | .p7 _ _ _ _ _ => 7
def spec_l7Place.st : spec_l7Place.Pt → St
  | .p0 a0 a1 => enter [.v (.sl false (.pair (.sl false (.pair .str (.pair .str .unit))) (.pair (.sl false (.pair (.int .i64) (.pair (.int .i64) .unit))) .unit))) a0, .v (.sl false (.pair .str (.pair .str .unit))) a1] 0
  | .p7 y1 y2 y3 y4 y5 => ⟨[(0, .im (.sl false (.pair (.sl false (.pair .str (.pair .str .unit))) (.pair (.sl false (.pair (.int .i64) (.pair (.int .i64) .unit))) .unit))) y1), (1, .im (.sl false (.pair .str (.pair .str .unit))) y2), (9, .im (.sl false (.pair (.sl false (.pair .str (.pair .str .unit))) (.pair (.sl false (.pair (.int .i64) (.pair (.int .i64) .unit))) .unit))) y3), (10, .im (.int .i64) y4), (11, .im (.int .i64) y5)], [], 0⟩
def spec_l7Place.step (n : Nat) (K : spec_l7Place.Pt → Option (Tup [(.int .i64), .bool])) : spec_l7Place.Pt → Option (Tup [(.int .i64), .bool])
  | .p0 a0 a1 => K (.p7 a0 a1 a0 ((List.length a0) : Int) (0 : Int))
  | .p7 y1 y2 y3 y4 y5 => cond (decide (y5 < y4)) (cond (inB y5 (List.length y3)) ((spec_l2Cmp n (List.getD y3 (Int.toNat y5) default).1 y2).bind fun (r8 : Int) => cond (decide (r8 = (0 : Int))) (some (y5, true)) (cond (decide ((0 : Int) < r8)) (some (y5, false)) (K (.p7 y1 y2 y3 y4 (IntKind.wrap .i64 (y5 + (1 : Int))))))) (none)) (some (((List.length y1) : Int), false))
def spec_l7Place (n : Nat) (a0 : List ((List ((ByteArray) × ((ByteArray) × (Unit)))) × ((List ((Int) × ((Int) × (Unit)))) × (Unit)))) (a1 : List ((ByteArray) × ((ByteArray) × (Unit)))) : Option (Tup [(.int .i64), .bool]) := goRec spec_l7Place.step n (.p0 a0 a1)
def spec_l7Place.spec : Ctr := ⟨93, [.v (.sl false (.pair (.sl false (.pair .str (.pair .str .unit))) (.pair (.sl false (.pair (.int .i64) (.pair (.int .i64) .unit))) .unit))), .v (.sl false (.pair .str (.pair .str .unit)))], [(.int .i64), .bool], [], none, fun n x => spec_l7Place n x.1 x.2.1⟩
theorem spec_l7Place.seg_eq : SegEq ty gl spec_l7Place.F spec_l7Place.md spec_l7Place.T spec_l7Place.spec spec_l7Place.lb spec_l7Place.st spec_l7Place.step := by
  intro n goto y; cases y <;> kernel_rfl
theorem spec_l7Place.text : Text Go.Proofs.Tryz.prog spec_l7Place.F spec_l7Place.spec := textOf Go.Proofs.Tryz.f93
theorem spec_l7Place.ok : CtrOK Go.Proofs.Tryz.prog gl spec_l7Place.spec :=
  ctr_okS tabs spec_l7Place.text spec_l7Place.seg_eq (fun n x => ⟨.p0 x.1 x.2.1, rfl, rfl, rfl⟩) (consC spec_l2Cmp.ok (nilC))

/-! loop.example/g00039/spec.l6Cut -/
def spec_l6Cut.T : List Ctr := []
def spec_l6Cut.md : List (Nat × List Md) := []
noncomputable def spec_l6Cut.F : Fun := ⟨(Go.Proofs.Tryz.f94.body).getD .skip, [.v (.sl false (.pair (.int .i64) (.pair (.int .i64) .unit))), .v (.int .i64), .v (.int .i64)], [(.tmp 6, (.sl false (.pair (.int .i64) (.pair (.int .i64) .unit))))], [], 0, [(9, ⟨[1, 2, 7, 10, 11, 12], [(7, (.pair (.int .i64) (.pair (.int .i64) .unit))), (10, (.pair (.int .i64) (.pair (.int .i64) .unit)))], [], false⟩)]⟩
inductive spec_l6Cut.Pt where
  | p0 (a0 : List ((Int) × ((Int) × (Unit)))) (a1 : Int) (a2 : Int)
  | p9 (y1 : Int) (y2 : Int) (y3 : List ((Int) × ((Int) × (Unit)))) (y4 : Int) (y5 : Int) (y6 : List ((Int) × ((Int) × (Unit))))
def spec_l6Cut.lb : spec_l6Cut.Pt → Nat
  | .p0 _ _ _ => 0
  | .p9 _ _ _ _ _ _ => 9
def spec_l6Cut.st : spec_l6Cut.Pt → St
  | .p0 a0 a1 a2 => enter [.v (.sl false (.pair (.int .i64) (.pair (.int .i64) .unit))) a0, .v (.int .i64) a1, .v (.int .i64) a2] 0
  | .p9 y1 y2 y3 y4 y5 y6 => ⟨[(1, .im (.int .i64) y1), (2, .im (.int .i64) y2), (7, .hs 0 [] none 0), (10, .im (.sl false (.pair (.int .i64) (.pair (.int .i64) .unit))) y3), (11, .im (.int .i64) y4), (12, .im (.int .i64) y5)], [(0, .arr true (.pair (.int .i64) (.pair (.int .i64) .unit)) y6 0)], 1⟩
def spec_l6Cut.step (n : Nat) (K : spec_l6Cut.Pt → Option (Tup [(.sl false (.pair (.int .i64) (.pair (.int .i64) .unit)))])) : spec_l6Cut.Pt → Option (Tup [(.sl false (.pair (.int .i64) (.pair (.int .i64) .unit)))])
  | .p0 a0 a1 a2 => K (.p9 a1 a2 a0 ((List.length a0) : Int) (0 : Int) ([] : List ((Int) × ((Int) × (Unit)))))
  | .p9 y1 y2 y3 y4 y5 y6 => cond (decide (y5 < y4)) (cond (inB y5 (List.length y3)) (cond (decide (y1 ≤ (List.getD y3 (Int.toNat y5) default).1)) (cond (decide ((List.getD y3 (Int.toNat y5) default).1 ≤ y2)) (cond (room ((List.length y6) + (List.length [(List.getD y3 (Int.toNat y5) default)]))) (K (.p9 y1 y2 y3 y4 (IntKind.wrap .i64 (y5 + (1 : Int))) (y6 ++ [(List.getD y3 (Int.toNat y5) default)]))) (none)) (K (.p9 y1 y2 y3 y4 (IntKind.wrap .i64 (y5 + (1 : Int))) y6))) (K (.p9 y1 y2 y3 y4 (IntKind.wrap .i64 (y5 + (1 : Int))) y6))) (none)) (some y6)
def spec_l6Cut (n : Nat) (a0 : List ((Int) × ((Int) × (Unit)))) (a1 : Int) (a2 : Int) : Option (Tup [(.sl false (.pair (.int .i64) (.pair (.int .i64) .unit)))]) := goRec spec_l6Cut.step n (.p0 a0 a1 a2)
def spec_l6Cut.spec : Ctr := ⟨94, [.v (.sl false (.pair (.int .i64) (.pair (.int .i64) .unit))), .v (.int .i64), .v (.int .i64)], [(.sl false (.pair (.int .i64) (.pair (.int .i64) .unit)))], [], none, fun n x => spec_l6Cut n x.1 x.2.1 x.2.2.1⟩
theorem spec_l6Cut.seg_eq : SegEq ty gl spec_l6Cut.F spec_l6Cut.md spec_l6Cut.T spec_l6Cut.spec spec_l6Cut.lb spec_l6Cut.st spec_l6Cut.step := by
  intro n goto y; cases y <;> kernel_rfl
theorem spec_l6Cut.text : Text Go.Proofs.Tryz.prog spec_l6Cut.F spec_l6Cut.spec := textOf Go.Proofs.Tryz.f94
theorem spec_l6Cut.ok : CtrOK Go.Proofs.Tryz.prog gl spec_l6Cut.spec :=
  ctr_okS tabs spec_l6Cut.text spec_l6Cut.seg_eq (fun n x => ⟨.p0 x.1 x.2.1 x.2.2.1, rfl, rfl, rfl⟩) (nilC)

/-! loop.example/g00039/spec.l6Merge -/
def spec_l6Merge.T : List Ctr := []
def spec_l6Merge.md : List (Nat × List Md) := []
noncomputable def spec_l6Merge.F : Fun := ⟨(Go.Proofs.Tryz.f95.body).getD .skip, [.v (.sl false (.pair (.int .i64) (.pair (.int .i64) .unit))), .v (.sl false (.pair (.int .i64) (.pair (.int .i64) .unit)))], [(.tmp 4, (.sl false (.pair (.int .i64) (.pair (.int .i64) .unit))))], [], 0, [(11, ⟨[0, 1, 5, 6, 7], [(5, (.pair (.int .i64) (.pair (.int .i64) .unit)))], [], false⟩), (13, ⟨[0, 1, 5, 6, 7, 17], [(5, (.pair (.int .i64) (.pair (.int .i64) .unit)))], [], false⟩), (19, ⟨[0, 1, 5, 6, 7, 40], [(5, (.pair (.int .i64) (.pair (.int .i64) .unit)))], [], false⟩), (23, ⟨[0, 1, 5, 6, 7, 57], [(5, (.pair (.int .i64) (.pair (.int .i64) .unit)))], [], false⟩)]⟩
inductive spec_l6Merge.Pt where
  | p0 (a0 : List ((Int) × ((Int) × (Unit)))) (a1 : List ((Int) × ((Int) × (Unit))))
  | p11 (y1 : List ((Int) × ((Int) × (Unit)))) (y2 : List ((Int) × ((Int) × (Unit)))) (y3 : Int) (y4 : Int) (y5 : List ((Int) × ((Int) × (Unit))))
  | p13 (y1 : List ((Int) × ((Int) × (Unit)))) (y2 : List ((Int) × ((Int) × (Unit)))) (y3 : Int) (y4 : Int) (y5 : Bool) (y6 : List ((Int) × ((Int) × (Unit))))
  | p19 (y1 : List ((Int) × ((Int) × (Unit)))) (y2 : List ((Int) × ((Int) × (Unit)))) (y3 : Int) (y4 : Int) (y5 : Bool) (y6 : List ((Int) × ((Int) × (Unit))))
  | p23 (y1 : List ((Int) × ((Int) × (Unit)))) (y2 : List ((Int) × ((Int) × (Unit)))) (y3 : Int) (y4 : Int) (y5 : Bool) (y6 : List ((Int) × ((Int) × (Unit))))
def spec_l6Merge.lb : spec_l6Merge.Pt → Nat
  | .p0 _ _ => 0
  | .p11 _ _ _ _ _ => 11
  | .p13 _ _ _ _ _ _ => 13
  | .p19 _ _ _ _ _ _ => 19
  | .p23 _ _ _ _ _ _ => 23
def spec_l6Merge.st : spec_l6Merge.Pt → St
  | .p0 a0 a1 => enter [.v (.sl false (.pair (.int .i64) (.pair (.int .i64) .unit))) a0, .v (.sl false (.pair (.int .i64) (.pair (.int .i64) .unit))) a1] 0
  | .p11 y1 y2 y3 y4 y5 => ⟨[(0, .im (.sl false (.pair (.int .i64) (.pair (.int .i64) .unit))) y1), (1, .im (.sl false (.pair (.int .i64) (.pair (.int .i64) .unit))) y2), (5, .hs 0 [] none 0), (6, .im (.int .i64) y3), (7, .im (.int .i64) y4)], [(0, .arr true (.pair (.int .i64) (.pair (.int .i64) .unit)) y5 0)], 1⟩
  | .p13 y1 y2 y3 y4 y5 y6 => ⟨[(0, .im (.sl false (.pair (.int .i64) (.pair (.int .i64) .unit))) y1), (1, .im (.sl false (.pair (.int .i64) (.pair (.int .i64) .unit))) y2), (5, .hs 0 [] none 0), (6, .im (.int .i64) y3), (7, .im (.int .i64) y4), (17, .im .bool y5)], [(0, .arr true (.pair (.int .i64) (.pair (.int .i64) .unit)) y6 0)], 1⟩
  | .p19 y1 y2 y3 y4 y5 y6 => ⟨[(0, .im (.sl false (.pair (.int .i64) (.pair (.int .i64) .unit))) y1), (1, .im (.sl false (.pair (.int .i64) (.pair (.int .i64) .unit))) y2), (5, .hs 0 [] none 0), (6, .im (.int .i64) y3), (7, .im (.int .i64) y4), (40, .im .bool y5)], [(0, .arr true (.pair (.int .i64) (.pair (.int .i64) .unit)) y6 0)], 1⟩
  | .p23 y1 y2 y3 y4 y5 y6 => ⟨[(0, .im (.sl false (.pair (.int .i64) (.pair (.int .i64) .unit))) y1), (1, .im (.sl false (.pair (.int .i64) (.pair (.int .i64) .unit))) y2), (5, .hs 0 [] none 0), (6, .im (.int .i64) y3), (7, .im (.int .i64) y4), (57, .im .bool y5)], [(0, .arr true (.pair (.int .i64) (.pair (.int .i64) .unit)) y6 0)], 1⟩
def spec_l6Merge.step (n : Nat) (K : spec_l6Merge.Pt → Option (Tup [(.sl false (.pair (.int .i64) (.pair (.int .i64) .unit)))])) : spec_l6Merge.Pt → Option (Tup [(.sl false (.pair (.int .i64) (.pair (.int .i64) .unit)))])
  | .p0 a0 a1 => K (.p11 a0 a1 (0 : Int) (0 : Int) ([] : List ((Int) × ((Int) × (Unit)))))
  | .p11 y1 y2 y3 y4 y5 => cond (decide (y3 < ((List.length y1) : Int))) (K (.p13 y1 y2 y3 y4 true y5)) (K (.p13 y1 y2 y3 y4 (decide (y4 < ((List.length y2) : Int))) y5))
  | .p13 y1 y2 y3 y4 y5 y6 => cond y5 (cond (decide (y4 = ((List.length y2) : Int))) (K (.p19 y1 y2 y3 y4 true y6)) (cond (decide (y3 < ((List.length y1) : Int))) (cond (inB y3 (List.length y1)) (cond (inB y4 (List.length y2)) (K (.p19 y1 y2 y3 y4 (decide ((List.getD y1 (Int.toNat y3) default).1 ≤ (List.getD y2 (Int.toNat y4) default).1)) y6)) (none)) (none)) (K (.p19 y1 y2 y3 y4 false y6)))) (some y6)
  | .p19 y1 y2 y3 y4 y5 y6 => cond y5 (cond (decide (y4 < ((List.length y2) : Int))) (cond (inB y3 (List.length y1)) (cond (inB y4 (List.length y2)) (K (.p23 y1 y2 y3 y4 (decide ((List.getD y1 (Int.toNat y3) default).1 = (List.getD y2 (Int.toNat y4) default).1)) y6)) (none)) (none)) (K (.p23 y1 y2 y3 y4 false y6))) (cond (inB y4 (List.length y2)) (cond (room ((List.length y6) + (List.length [(List.getD y2 (Int.toNat y4) default)]))) (K (.p11 y1 y2 y3 (IntKind.wrap .i64 (y4 + (1 : Int))) (y6 ++ [(List.getD y2 (Int.toNat y4) default)]))) (none)) (none))
  | .p23 y1 y2 y3 y4 y5 y6 => cond y5 (cond (inB y3 (List.length y1)) (cond (room ((List.length y6) + (List.length [(List.getD y1 (Int.toNat y3) default)]))) (K (.p11 y1 y2 (IntKind.wrap .i64 (y3 + (1 : Int))) (IntKind.wrap .i64 (y4 + (1 : Int))) (y6 ++ [(List.getD y1 (Int.toNat y3) default)]))) (none)) (none)) (cond (inB y3 (List.length y1)) (cond (room ((List.length y6) + (List.length [(List.getD y1 (Int.toNat y3) default)]))) (K (.p11 y1 y2 (IntKind.wrap .i64 (y3 + (1 : Int))) y4 (y6 ++ [(List.getD y1 (Int.toNat y3) default)]))) (none)) (none))
def spec_l6Merge (n : Nat) (a0 : List ((Int) × ((Int) × (Unit)))) (a1 : List ((Int) × ((Int) × (Unit)))) : Option (Tup [(.sl false (.pair (.int .i64) (.pair (.int .i64) .unit)))]) := goRec spec_l6Merge.step n (.p0 a0 a1)
def spec_l6Merge.spec : Ctr := ⟨95, [.v (.sl false (.pair (.int .i64) (.pair (.int .i64) .unit))), .v (.sl false (.pair (.int .i64) (.pair (.int .i64) .unit)))], [(.sl false (.pair (.int .i64) (.pair (.int .i64) .unit)))], [], none, fun n x => spec_l6Merge n x.1 x.2.1⟩
theorem spec_l6Merge.seg_eq : SegEq ty gl spec_l6Merge.F spec_l6Merge.md spec_l6Merge.T spec_l6Merge.spec spec_l6Merge.lb spec_l6Merge.st spec_l6Merge.step := by
  intro n goto y; cases y <;> kernel_rfl
theorem spec_l6Merge.text : Text Go.Proofs.Tryz.prog spec_l6Merge.F spec_l6Merge.spec := textOf Go.Proofs.Tryz.f95
theorem spec_l6Merge.ok : CtrOK Go.Proofs.Tryz.prog gl spec_l6Merge.spec :=
  ctr_okS tabs spec_l6Merge.text spec_l6Merge.seg_eq (fun n x => ⟨.p0 x.1 x.2.1, rfl, rfl, rfl⟩) (nilC)

/-! loop.example/g00039/spec.l7Put -/
def spec_l7Put.T : List Ctr := [spec_l3Time.spec, spec_l7Named.spec, spec_l3Copy.spec, spec_l7Place.spec, spec_l6Cut.spec, spec_l6Merge.spec]
def spec_l7Put.md : List (Nat × List Md) := []
noncomputable def spec_l7Put.F : Fun := ⟨(Go.Proofs.Tryz.f58.body).getD .skip, [.p (.pair (.int .i64) (.pair (.int .i64) (.pair (.int .i64) (.pair (.sl false (.pair (.sl false (.pair .str (.pair .str .unit))) (.pair (.sl false (.pair (.int .i64) (.pair (.int .i64) .unit))) .unit))) .unit)))), .v (.pair (.sl false (.pair .str (.pair .str .unit))) (.pair (.int .i64) (.pair (.int .i64) .unit)))], [(.tmp 4, (.int .i64))], [some (.pair (.int .i64) (.pair (.int .i64) (.pair (.int .i64) (.pair (.sl false (.pair (.sl false (.pair .str (.pair .str .unit))) (.pair (.sl false (.pair (.int .i64) (.pair (.int .i64) .unit))) .unit))) .unit))))], 1, [(31, ⟨[0, 3, 5, 7], [], [(3, 0, (.pair .str (.pair .str .unit)))], false⟩)]⟩
inductive spec_l7Put.Pt where
  | p0 (a0 : (Int) × ((Int) × ((Int) × ((List ((List ((ByteArray) × ((ByteArray) × (Unit)))) × ((List ((Int) × ((Int) × (Unit)))) × (Unit)))) × (Unit))))) (a1 : (List ((ByteArray) × ((ByteArray) × (Unit)))) × ((Int) × ((Int) × (Unit))))
  | p31 (y1 : Int) (y2 : Int) (y3 : Int) (y4 : Int) (y5 : List ((ByteArray) × ((ByteArray) × (Unit)))) (y6 : Int) (y7 : Int) (y8 : Int) (y9 : Int) (y10 : List ((List ((ByteArray) × ((ByteArray) × (Unit)))) × ((List ((Int) × ((Int) × (Unit)))) × (Unit))))
def spec_l7Put.lb : spec_l7Put.Pt → Nat
  | .p0 _ _ => 0
  | .p31 _ _ _ _ _ _ _ _ _ _ => 31
def spec_l7Put.st : spec_l7Put.Pt → St
  | .p0 a0 a1 => enter [.p (.pair (.int .i64) (.pair (.int .i64) (.pair (.int .i64) (.pair (.sl false (.pair (.sl false (.pair .str (.pair .str .unit))) (.pair (.sl false (.pair (.int .i64) (.pair (.int .i64) .unit))) .unit))) .unit)))) a0, .v (.pair (.sl false (.pair .str (.pair .str .unit))) (.pair (.int .i64) (.pair (.int .i64) .unit))) a1] 1
  | .p31 y1 y2 y3 y4 y5 y6 y7 y8 y9 y10 => ⟨[(0, .po 0 0), (3, .po 1 0), (5, .im (.int .i64) y1), (7, .po 2 0)], [(0, .obj [.im (.int .i64) y2, .im (.int .i64) y3, .im (.int .i64) y4, .hs 3 [] none 0]), (1, .obj [.im (.sl false (.pair .str (.pair .str .unit))) y5, .im (.int .i64) y6, .im (.int .i64) y7]), (2, .obj [.im (.int .i64) y8, .im (.int .i64) y9]), (3, .arr false (.pair (.sl false (.pair .str (.pair .str .unit))) (.pair (.sl false (.pair (.int .i64) (.pair (.int .i64) .unit))) .unit)) y10 0)], 4⟩
def spec_l7Put.step (n : Nat) (K : spec_l7Put.Pt → Option (Tup [(.int .i64), (.pair (.int .i64) (.pair (.int .i64) (.pair (.int .i64) (.pair (.sl false (.pair (.sl false (.pair .str (.pair .str .unit))) (.pair (.sl false (.pair (.int .i64) (.pair (.int .i64) .unit))) .unit))) .unit))))])) : spec_l7Put.Pt → Option (Tup [(.int .i64), (.pair (.int .i64) (.pair (.int .i64) (.pair (.int .i64) (.pair (.sl false (.pair (.sl false (.pair .str (.pair .str .unit))) (.pair (.sl false (.pair (.int .i64) (.pair (.int .i64) .unit))) .unit))) .unit))))])
  | .p0 a0 a1 => (spec_l7Named n a1.1).bind fun r5 => cond (!r5) (some ((1 : Int), a0)) ((spec_l3Time n a1.2.1).bind fun r6 => cond (!r6) (some ((2 : Int), a0)) (cond (decide (a1.2.1 < (IntKind.wrap .i64 (a0.2.2.1 - a0.1)))) (some ((3 : Int), a0)) ((spec_l7Place n a0.2.2.2.1 a1.1).bind fun r7 => cond (!r7.2) (cond (decide (a0.2.1 ≤ ((List.length a0.2.2.2.1) : Int))) (some ((4 : Int), a0)) (cond (room ((List.length a0.2.2.2.1) + (List.length [(([] : List ((ByteArray) × ((ByteArray) × (Unit)))), (([] : List ((Int) × ((Int) × (Unit)))), ()))]))) (cond (inC (IntKind.wrap .i64 (r7.1 + (1 : Int))) ((List.length (a0.2.2.2.1 ++ [(([] : List ((ByteArray) × ((ByteArray) × (Unit)))), (([] : List ((Int) × ((Int) × (Unit)))), ()))])) : Int) (List.length (a0.2.2.2.1 ++ [(([] : List ((ByteArray) × ((ByteArray) × (Unit)))), (([] : List ((Int) × ((Int) × (Unit)))), ()))]))) (cond (inC r7.1 ((List.length (a0.2.2.2.1 ++ [(([] : List ((ByteArray) × ((ByteArray) × (Unit)))), (([] : List ((Int) × ((Int) × (Unit)))), ()))])) : Int) (List.length (a0.2.2.2.1 ++ [(([] : List ((ByteArray) × ((ByteArray) × (Unit)))), (([] : List ((Int) × ((Int) × (Unit)))), ()))]))) (cond ((((Nat.beq (0 + (Int.toNat (IntKind.wrap .i64 (r7.1 + (1 : Int))))) ((0 + (Int.toNat r7.1)) + 1)) && (Nat.beq ((0 + (Int.toNat (IntKind.wrap .i64 (r7.1 + (1 : Int))))) + ((Int.toNat ((List.length (a0.2.2.2.1 ++ [(([] : List ((ByteArray) × ((ByteArray) × (Unit)))), (([] : List ((Int) × ((Int) × (Unit)))), ()))])) : Int)) - (Int.toNat (IntKind.wrap .i64 (r7.1 + (1 : Int)))))) (List.length (a0.2.2.2.1 ++ [(([] : List ((ByteArray) × ((ByteArray) × (Unit)))), (([] : List ((Int) × ((Int) × (Unit)))), ()))])))) && (Nat.beq ((0 + (Int.toNat r7.1)) + ((Int.toNat ((List.length (a0.2.2.2.1 ++ [(([] : List ((ByteArray) × ((ByteArray) × (Unit)))), (([] : List ((Int) × ((Int) × (Unit)))), ()))])) : Int)) - (Int.toNat r7.1))) (List.length (a0.2.2.2.1 ++ [(([] : List ((ByteArray) × ((ByteArray) × (Unit)))), (([] : List ((Int) × ((Int) × (Unit)))), ()))])))) && (Nat.blt (0 + (Int.toNat r7.1)) (List.length (a0.2.2.2.1 ++ [(([] : List ((ByteArray) × ((ByteArray) × (Unit)))), (([] : List ((Int) × ((Int) × (Unit)))), ()))])))) ((spec_l3Copy n a1.1).bind fun r8 => cond (inB r7.1 (List.length (shiftL (a0.2.2.2.1 ++ [(([] : List ((ByteArray) × ((ByteArray) × (Unit)))), (([] : List ((Int) × ((Int) × (Unit)))), ()))]) (0 + (Int.toNat r7.1)) (default : (List ((ByteArray) × ((ByteArray) × (Unit)))) × ((List ((Int) × ((Int) × (Unit)))) × (Unit)))))) (cond (Nat.beq (Int.toNat r7.1) (0 + (Int.toNat r7.1))) (K (.p31 r7.1 a0.1 a0.2.1 a0.2.2.1 a1.1 a1.2.1 a1.2.2.1 a1.2.1 a1.2.2.1 (List.set (shiftL (a0.2.2.2.1 ++ [(([] : List ((ByteArray) × ((ByteArray) × (Unit)))), (([] : List ((Int) × ((Int) × (Unit)))), ()))]) (0 + (Int.toNat r7.1)) (default : (List ((ByteArray) × ((ByteArray) × (Unit)))) × ((List ((Int) × ((Int) × (Unit)))) × (Unit)))) (0 + (Int.toNat r7.1)) (r8, (([] : List ((Int) × ((Int) × (Unit)))), ()))))) (none)) (none)) (none)) (none)) (none)) (none))) (K (.p31 r7.1 a0.1 a0.2.1 a0.2.2.1 a1.1 a1.2.1 a1.2.2.1 a1.2.1 a1.2.2.1 a0.2.2.2.1)))))
  | .p31 y1 y2 y3 y4 y5 y6 y7 y8 y9 y10 => cond (inB y1 (List.length y10)) ((spec_l6Cut n (List.getD y10 (0 + (Int.toNat y1)) default).2.1 y6 y6).bind fun r13 => cond (decide ((0 : Int) < ((List.length r13) : Int))) (cond (inB (0 : Int) (List.length r13)) (cond (decide ((List.getD r13 (0 + (Int.toNat (0 : Int))) default).2.1 = y7)) (some ((6 : Int), (y2, (y3, (y4, (y10, ())))))) (some ((5 : Int), (y2, (y3, (y4, (y10, ()))))))) (none)) (cond (inB y1 (List.length y10)) (cond (decide ((2000 : Int) ≤ ((List.length (List.getD y10 (0 + (Int.toNat y1)) default).2.1) : Int))) (some ((7 : Int), (y2, (y3, (y4, (y10, ())))))) (cond (inB y1 (List.length y10)) ((spec_l6Merge n (List.getD y10 (0 + (Int.toNat y1)) default).2.1 [(y8, (y9, ()))]).bind fun r14 => cond (inB y1 (List.length y10)) (cond (decide (y4 < y6)) (some ((0 : Int), (y2, (y3, (y6, ((List.set y10 (0 + (Int.toNat y1)) ((List.getD y10 (0 + (Int.toNat y1)) default).1, (r14, (List.getD y10 (0 + (Int.toNat y1)) default).2.2))), ())))))) (some ((0 : Int), (y2, (y3, (y4, ((List.set y10 (0 + (Int.toNat y1)) ((List.getD y10 (0 + (Int.toNat y1)) default).1, (r14, (List.getD y10 (0 + (Int.toNat y1)) default).2.2))), ()))))))) (none)) (none))) (none))) (none)
def spec_l7Put (n : Nat) (a0 : (Int) × ((Int) × ((Int) × ((List ((List ((ByteArray) × ((ByteArray) × (Unit)))) × ((List ((Int) × ((Int) × (Unit)))) × (Unit)))) × (Unit))))) (a1 : (List ((ByteArray) × ((ByteArray) × (Unit)))) × ((Int) × ((Int) × (Unit)))) : Option (Tup [(.int .i64), (.pair (.int .i64) (.pair (.int .i64) (.pair (.int .i64) (.pair (.sl false (.pair (.sl false (.pair .str (.pair .str .unit))) (.pair (.sl false (.pair (.int .i64) (.pair (.int .i64) .unit))) .unit))) .unit))))]) := goRec spec_l7Put.step n (.p0 a0 a1)
def spec_l7Put.spec : Ctr := ⟨58, [.p (.pair (.int .i64) (.pair (.int .i64) (.pair (.int .i64) (.pair (.sl false (.pair (.sl false (.pair .str (.pair .str .unit))) (.pair (.sl false (.pair (.int .i64) (.pair (.int .i64) .unit))) .unit))) .unit)))), .v (.pair (.sl false (.pair .str (.pair .str .unit))) (.pair (.int .i64) (.pair (.int .i64) .unit)))], [(.int .i64)], [(.pair (.int .i64) (.pair (.int .i64) (.pair (.int .i64) (.pair (.sl false (.pair (.sl false (.pair .str (.pair .str .unit))) (.pair (.sl false (.pair (.int .i64) (.pair (.int .i64) .unit))) .unit))) .unit))))], none, fun n x => spec_l7Put n x.1 x.2.1⟩
theorem spec_l7Put.seg_eq : SegEq ty gl spec_l7Put.F spec_l7Put.md spec_l7Put.T spec_l7Put.spec spec_l7Put.lb spec_l7Put.st spec_l7Put.step := by
  intro n goto y; cases y <;> kernel_rfl
theorem spec_l7Put.text : Text Go.Proofs.Tryz.prog spec_l7Put.F spec_l7Put.spec := textOf Go.Proofs.Tryz.f58
theorem spec_l7Put.ok : CtrOK Go.Proofs.Tryz.prog gl spec_l7Put.spec :=
  ctr_okS tabs spec_l7Put.text spec_l7Put.seg_eq (fun n x => ⟨.p0 x.1 x.2.1, rfl, rfl, rfl⟩) (consC spec_l3Time.ok (consC spec_l7Named.ok (consC spec_l3Copy.ok (consC spec_l7Place.ok (consC spec_l6Cut.ok (consC spec_l6Merge.ok (nilC)))))))

/-! loop.example/g00039/spec.PutAll -/
def spec_PutAll.T : List Ctr := [spec_GoodHead.spec, spec_l7Copy.spec, spec_l7Put.spec]
def spec_PutAll.md : List (Nat × List Md) := [(58, [.p (.pair (.int .i64) (.pair (.int .i64) (.pair (.int .i64) (.pair (.sl false (.pair (.sl false (.pair .str (.pair .str .unit))) (.pair (.sl false (.pair (.int .i64) (.pair (.int .i64) .unit))) .unit))) .unit)))), .v])]
noncomputable def spec_PutAll.F : Fun := ⟨(Go.Proofs.Tryz.f18.body).getD .skip, [.v (.pair (.int .i64) (.pair (.int .i64) (.pair (.int .i64) (.pair (.sl false (.pair (.sl false (.pair .str (.pair .str .unit))) (.pair (.sl false (.pair (.int .i64) (.pair (.int .i64) .unit))) .unit))) .unit)))), .v (.sl false (.pair (.sl false (.pair .str (.pair .str .unit))) (.pair (.int .i64) (.pair (.int .i64) .unit))))], [(.cell 4 42, (.pair (.int .i64) (.pair (.int .i64) (.pair (.int .i64) (.pair (.sl false (.pair (.sl false (.pair .str (.pair .str .unit))) (.pair (.sl false (.pair (.int .i64) (.pair (.int .i64) .unit))) .unit))) .unit))))), (.tmp 5, (.sl false (.int .i64)))], [], 0, [(4, ⟨[1, 2, 4, 16], [], [(2, 3, (.pair (.sl false (.pair .str (.pair .str .unit))) (.pair (.sl false (.pair (.int .i64) (.pair (.int .i64) .unit))) .unit))), (4, 3, (.pair (.sl false (.pair .str (.pair .str .unit))) (.pair (.sl false (.pair (.int .i64) (.pair (.int .i64) .unit))) .unit)))], false⟩), (19, ⟨[2, 4, 6, 22, 23, 24], [(6, (.int .i64)), (22, (.pair (.sl false (.pair .str (.pair .str .unit))) (.pair (.int .i64) (.pair (.int .i64) .unit))))], [(2, 3, (.pair (.sl false (.pair .str (.pair .str .unit))) (.pair (.sl false (.pair (.int .i64) (.pair (.int .i64) .unit))) .unit))), (4, 3, (.pair (.sl false (.pair .str (.pair .str .unit))) (.pair (.sl false (.pair (.int .i64) (.pair (.int .i64) .unit))) .unit)))], false⟩)]⟩
inductive spec_PutAll.Pt where
  | p0 (a0 : (Int) × ((Int) × ((Int) × ((List ((List ((ByteArray) × ((ByteArray) × (Unit)))) × ((List ((Int) × ((Int) × (Unit)))) × (Unit)))) × (Unit))))) (a1 : List ((List ((ByteArray) × ((ByteArray) × (Unit)))) × ((Int) × ((Int) × (Unit)))))
  | p4 (y1 : List ((List ((ByteArray) × ((ByteArray) × (Unit)))) × ((Int) × ((Int) × (Unit))))) (y2 : Bool) (y3 : Int) (y4 : Int) (y5 : Int) (y6 : List ((List ((ByteArray) × ((ByteArray) × (Unit)))) × ((List ((Int) × ((Int) × (Unit)))) × (Unit)))) (y7 : Int) (y8 : Int) (y9 : Int) (y10 : List ((List ((ByteArray) × ((ByteArray) × (Unit)))) × ((List ((Int) × ((Int) × (Unit)))) × (Unit))))
  | p19 (y1 : List ((List ((ByteArray) × ((ByteArray) × (Unit)))) × ((Int) × ((Int) × (Unit))))) (y2 : Int) (y3 : Int) (y4 : Int) (y5 : Int) (y6 : Int) (y7 : Int) (y8 : Int) (y9 : Int) (y10 : List (Int)) (y11 : List ((List ((ByteArray) × ((ByteArray) × (Unit)))) × ((List ((Int) × ((Int) × (Unit)))) × (Unit)))) (y12 : List ((List ((ByteArray) × ((ByteArray) × (Unit)))) × ((List ((Int) × ((Int) × (Unit)))) × (Unit))))
def spec_PutAll.lb : spec_PutAll.Pt → Nat
  | .p0 _ _ => 0
  | .p4 _ _ _ _ _ _ _ _ _ _ => 4
  | .p19 _ _ _ _ _ _ _ _ _ _ _ _ => 19
def spec_PutAll.st : spec_PutAll.Pt → St
  | .p0 a0 a1 => enter [.v (.pair (.int .i64) (.pair (.int .i64) (.pair (.int .i64) (.pair (.sl false (.pair (.sl false (.pair .str (.pair .str .unit))) (.pair (.sl false (.pair (.int .i64) (.pair (.int .i64) .unit))) .unit))) .unit)))) a0, .v (.sl false (.pair (.sl false (.pair .str (.pair .str .unit))) (.pair (.int .i64) (.pair (.int .i64) .unit)))) a1] 0
  | .p4 y1 y2 y3 y4 y5 y6 y7 y8 y9 y10 => ⟨[(1, .im (.sl false (.pair (.sl false (.pair .str (.pair .str .unit))) (.pair (.int .i64) (.pair (.int .i64) .unit)))) y1), (2, .po 0 0), (4, .po 1 0), (16, .im .bool y2)], [(0, .obj [.im (.int .i64) y3, .im (.int .i64) y4, .im (.int .i64) y5, .im (.sl false (.pair (.sl false (.pair .str (.pair .str .unit))) (.pair (.sl false (.pair (.int .i64) (.pair (.int .i64) .unit))) .unit))) y6]), (1, .obj [.im (.int .i64) y7, .im (.int .i64) y8, .im (.int .i64) y9, .hs 2 [] none 0]), (2, .arr true (.pair (.sl false (.pair .str (.pair .str .unit))) (.pair (.sl false (.pair (.int .i64) (.pair (.int .i64) .unit))) .unit)) y10 0)], 3⟩
  | .p19 y1 y2 y3 y4 y5 y6 y7 y8 y9 y10 y11 y12 => ⟨[(2, .po 0 0), (4, .po 1 0), (6, .hs 2 [] none 0), (22, .im (.sl false (.pair (.sl false (.pair .str (.pair .str .unit))) (.pair (.int .i64) (.pair (.int .i64) .unit)))) y1), (23, .im (.int .i64) y2), (24, .im (.int .i64) y3)], [(0, .obj [.im (.int .i64) y4, .im (.int .i64) y5, .im (.int .i64) y6, .hs 3 [] none 0]), (1, .obj [.im (.int .i64) y7, .im (.int .i64) y8, .im (.int .i64) y9, .hs 4 [] none 0]), (2, .arr true (.int .i64) y10 0), (3, .arr false (.pair (.sl false (.pair .str (.pair .str .unit))) (.pair (.sl false (.pair (.int .i64) (.pair (.int .i64) .unit))) .unit)) y11 0), (4, .arr true (.pair (.sl false (.pair .str (.pair .str .unit))) (.pair (.sl false (.pair (.int .i64) (.pair (.int .i64) .unit))) .unit)) y12 0)], 5⟩
def spec_PutAll.step (n : Nat) (K : spec_PutAll.Pt → Option (Tup [(.pair (.int .i64) (.pair (.int .i64) (.pair (.int .i64) (.pair (.sl false (.pair (.sl false (.pair .str (.pair .str .unit))) (.pair (.sl false (.pair (.int .i64) (.pair (.int .i64) .unit))) .unit))) .unit)))), (.sl false (.int .i64))])) : spec_PutAll.Pt → Option (Tup [(.pair (.int .i64) (.pair (.int .i64) (.pair (.int .i64) (.pair (.sl false (.pair (.sl false (.pair .str (.pair .str .unit))) (.pair (.sl false (.pair (.int .i64) (.pair (.int .i64) .unit))) .unit))) .unit)))), (.sl false (.int .i64))])
  | .p0 a0 a1 => (spec_GoodHead n a0).bind fun r5 => cond (!r5) (K (.p4 a1 true a0.1 a0.2.1 a0.2.2.1 a0.2.2.2.1 (default : Int) (default : Int) (default : Int) ([] : List ((List ((ByteArray) × ((ByteArray) × (Unit)))) × ((List ((Int) × ((Int) × (Unit)))) × (Unit)))))) (K (.p4 a1 (decide ((500 : Int) < ((List.length a1) : Int))) a0.1 a0.2.1 a0.2.2.1 a0.2.2.2.1 (default : Int) (default : Int) (default : Int) ([] : List ((List ((ByteArray) × ((ByteArray) × (Unit)))) × ((List ((Int) × ((Int) × (Unit)))) × (Unit))))))
  | .p4 y1 y2 y3 y4 y5 y6 y7 y8 y9 y10 => cond y2 (some ((default : (Int) × ((Int) × ((Int) × ((List ((List ((ByteArray) × ((ByteArray) × (Unit)))) × ((List ((Int) × ((Int) × (Unit)))) × (Unit)))) × (Unit))))), ([] : List (Int)))) ((spec_l7Copy n y6).bind fun r13 => K (.p19 y1 ((List.length y1) : Int) (0 : Int) y3 y4 y5 y7 y8 y9 ([] : List (Int)) r13 y10))
  | .p19 y1 y2 y3 y4 y5 y6 y7 y8 y9 y10 y11 y12 => cond (decide (y3 < y2)) (cond (inB y3 (List.length y1)) ((spec_l7Put n (y4, (y5, (y6, (y11, ())))) ((List.getD y1 (Int.toNat y3) default).1, (List.getD y1 (Int.toNat y3) default).2)).bind fun r15 => cond (room ((List.length y10) + (List.length [r15.1]))) (K (.p19 y1 y2 (IntKind.wrap .i64 (y3 + (1 : Int))) r15.2.1 r15.2.2.1 r15.2.2.2.1 y7 y8 y9 (y10 ++ [r15.1]) r15.2.2.2.2.1 y12)) (none)) (none)) (some ((y4, (y5, (y6, (y11, ())))), y10))
def spec_PutAll (n : Nat) (a0 : (Int) × ((Int) × ((Int) × ((List ((List ((ByteArray) × ((ByteArray) × (Unit)))) × ((List ((Int) × ((Int) × (Unit)))) × (Unit)))) × (Unit))))) (a1 : List ((List ((ByteArray) × ((ByteArray) × (Unit)))) × ((Int) × ((Int) × (Unit))))) : Option (Tup [(.pair (.int .i64) (.pair (.int .i64) (.pair (.int .i64) (.pair (.sl false (.pair (.sl false (.pair .str (.pair .str .unit))) (.pair (.sl false (.pair (.int .i64) (.pair (.int .i64) .unit))) .unit))) .unit)))), (.sl false (.int .i64))]) := goRec spec_PutAll.step n (.p0 a0 a1)
def spec_PutAll.spec : Ctr := ⟨18, [.v (.pair (.int .i64) (.pair (.int .i64) (.pair (.int .i64) (.pair (.sl false (.pair (.sl false (.pair .str (.pair .str .unit))) (.pair (.sl false (.pair (.int .i64) (.pair (.int .i64) .unit))) .unit))) .unit)))), .v (.sl false (.pair (.sl false (.pair .str (.pair .str .unit))) (.pair (.int .i64) (.pair (.int .i64) .unit))))], [(.pair (.int .i64) (.pair (.int .i64) (.pair (.int .i64) (.pair (.sl false (.pair (.sl false (.pair .str (.pair .str .unit))) (.pair (.sl false (.pair (.int .i64) (.pair (.int .i64) .unit))) .unit))) .unit)))), (.sl false (.int .i64))], [], none, fun n x => spec_PutAll n x.1 x.2.1⟩
theorem spec_PutAll.seg_eq : SegEq ty gl spec_PutAll.F spec_PutAll.md spec_PutAll.T spec_PutAll.spec spec_PutAll.lb spec_PutAll.st spec_PutAll.step := by
  intro n goto y; cases y <;> kernel_rfl
theorem spec_PutAll.text : Text Go.Proofs.Tryz.prog spec_PutAll.F spec_PutAll.spec := textOf Go.Proofs.Tryz.f18
theorem spec_PutAll.ok : CtrOK Go.Proofs.Tryz.prog gl spec_PutAll.spec :=
  ctr_okS tabs spec_PutAll.text spec_PutAll.seg_eq (fun n x => ⟨.p0 x.1 x.2.1, rfl, rfl, rfl⟩) (consC spec_GoodHead.ok (consC spec_l7Copy.ok (consC spec_l7Put.ok (nilC))))

/-! loop.example/g00039/impl.isTime -/
def impl_isTime.T : List Ctr := []
def impl_isTime.md : List (Nat × List Md) := []
noncomputable def impl_isTime.F : Fun := ⟨(Go.Proofs.Tryz.f97.body).getD .skip, [.v (.int .i64)], [(.tmp 2, .bool)], [], 0, []⟩
inductive impl_isTime.Pt where
  | p0 (a0 : Int)
def impl_isTime.lb : impl_isTime.Pt → Nat
  | .p0 _ => 0
def impl_isTime.st : impl_isTime.Pt → St
  | .p0 a0 => enter [.v (.int .i64) a0] 0
def impl_isTime.step (n : Nat) (K : impl_isTime.Pt → Option (Tup [.bool])) : impl_isTime.Pt → Option (Tup [.bool])
  | .p0 a0 => cond (decide ((0 : Int) ≤ a0)) (some (decide (a0 ≤ (1000000000000 : Int)))) (some false)
def impl_isTime (n : Nat) (a0 : Int) : Option (Tup [.bool]) := goRec impl_isTime.step n (.p0 a0)
def impl_isTime.spec : Ctr := ⟨97, [.v (.int .i64)], [.bool], [], none, fun n x => impl_isTime n x.1⟩
theorem impl_isTime.seg_eq : SegEq ty gl impl_isTime.F impl_isTime.md impl_isTime.T impl_isTime.spec impl_isTime.lb impl_isTime.st impl_isTime.step := by
  intro n goto y; cases y <;> kernel_rfl
theorem impl_isTime.text : Text Go.Proofs.Tryz.prog impl_isTime.F impl_isTime.spec := textOf Go.Proofs.Tryz.f97
theorem impl_isTime.ok : CtrOK Go.Proofs.Tryz.prog gl impl_isTime.spec :=
  ctr_okS tabs impl_isTime.text impl_isTime.seg_eq (fun n x => ⟨.p0 x.1, rfl, rfl, rfl⟩) (nilC)

/-! loop.example/g00039/impl.goodWindow -/
def impl_goodWindow.T : List Ctr := [impl_isTime.spec]
def impl_goodWindow.md : List (Nat × List Md) := []
noncomputable def impl_goodWindow.F : Fun := ⟨(Go.Proofs.Tryz.f96.body).getD .skip, [.v (.int .i64), .v (.int .i64)], [(.tmp 4, .bool)], [], 0, []⟩
inductive impl_goodWindow.Pt where
  | p0 (a0 : Int) (a1 : Int)
def impl_goodWindow.lb : impl_goodWindow.Pt → Nat
  | .p0 _ _ => 0
def impl_goodWindow.st : impl_goodWindow.Pt → St
  | .p0 a0 a1 => enter [.v (.int .i64) a0, .v (.int .i64) a1] 0
def impl_goodWindow.step (n : Nat) (K : impl_goodWindow.Pt → Option (Tup [.bool])) : impl_goodWindow.Pt → Option (Tup [.bool])
  | .p0 a0 a1 => (impl_isTime n a0).bind fun r5 => cond r5 (cond (decide ((0 : Int) ≤ a1)) (some (decide (a1 ≤ (200 : Int)))) (some false)) (some false)
def impl_goodWindow (n : Nat) (a0 : Int) (a1 : Int) : Option (Tup [.bool]) := goRec impl_goodWindow.step n (.p0 a0 a1)
def impl_goodWindow.spec : Ctr := ⟨96, [.v (.int .i64), .v (.int .i64)], [.bool], [], none, fun n x => impl_goodWindow n x.1 x.2.1⟩
theorem impl_goodWindow.seg_eq : SegEq ty gl impl_goodWindow.F impl_goodWindow.md impl_goodWindow.T impl_goodWindow.spec impl_goodWindow.lb impl_goodWindow.st impl_goodWindow.step := by
  intro n goto y; cases y <;> kernel_rfl
theorem impl_goodWindow.text : Text Go.Proofs.Tryz.prog impl_goodWindow.F impl_goodWindow.spec := textOf Go.Proofs.Tryz.f96
theorem impl_goodWindow.ok : CtrOK Go.Proofs.Tryz.prog gl impl_goodWindow.spec :=
  ctr_okS tabs impl_goodWindow.text impl_goodWindow.seg_eq (fun n x => ⟨.p0 x.1 x.2.1, rfl, rfl, rfl⟩) (consC impl_isTime.ok (nilC))

/-! loop.example/g00039/impl.digitByte -/
def impl_digitByte.T : List Ctr := []
def impl_digitByte.md : List (Nat × List Md) := []
noncomputable def impl_digitByte.F : Fun := ⟨(Go.Proofs.Tryz.f138.body).getD .skip, [.v (.int .u8)], [(.tmp 2, .bool)], [], 0, []⟩
inductive impl_digitByte.Pt where
  | p0 (a0 : Int)
def impl_digitByte.lb : impl_digitByte.Pt → Nat
  | .p0 _ => 0
def impl_digitByte.st : impl_digitByte.Pt → St
  | .p0 a0 => enter [.v (.int .u8) a0] 0
def impl_digitByte.step (n : Nat) (K : impl_digitByte.Pt → Option (Tup [.bool])) : impl_digitByte.Pt → Option (Tup [.bool])
  | .p0 a0 => cond (decide ((48 : Int) ≤ a0)) (some (decide (a0 ≤ (57 : Int)))) (some false)
def impl_digitByte (n : Nat) (a0 : Int) : Option (Tup [.bool]) := goRec impl_digitByte.step n (.p0 a0)
def impl_digitByte.spec : Ctr := ⟨138, [.v (.int .u8)], [.bool], [], none, fun n x => impl_digitByte n x.1⟩
theorem impl_digitByte.seg_eq : SegEq ty gl impl_digitByte.F impl_digitByte.md impl_digitByte.T impl_digitByte.spec impl_digitByte.lb impl_digitByte.st impl_digitByte.step := by
  intro n goto y; cases y <;> kernel_rfl
theorem impl_digitByte.text : Text Go.Proofs.Tryz.prog impl_digitByte.F impl_digitByte.spec := textOf Go.Proofs.Tryz.f138
theorem impl_digitByte.ok : CtrOK Go.Proofs.Tryz.prog gl impl_digitByte.spec :=
  ctr_okS tabs impl_digitByte.text impl_digitByte.seg_eq (fun n x => ⟨.p0 x.1, rfl, rfl, rfl⟩) (nilC)

/-! loop.example/g00039/impl.letterByte -/
def impl_letterByte.T : List Ctr := []
def impl_letterByte.md : List (Nat × List Md) := []
noncomputable def impl_letterByte.F : Fun := ⟨(Go.Proofs.Tryz.f147.body).getD .skip, [.v (.int .u8)], [(.tmp 2, .bool)], [], 0, []⟩
inductive impl_letterByte.Pt where
  | p0 (a0 : Int)
def impl_letterByte.lb : impl_letterByte.Pt → Nat
  | .p0 _ => 0
def impl_letterByte.st : impl_letterByte.Pt → St
  | .p0 a0 => enter [.v (.int .u8) a0] 0
def impl_letterByte.step (n : Nat) (K : impl_letterByte.Pt → Option (Tup [.bool])) : impl_letterByte.Pt → Option (Tup [.bool])
  | .p0 a0 => cond (decide ((97 : Int) ≤ a0)) (cond (decide (a0 ≤ (122 : Int))) (some true) (cond (decide ((65 : Int) ≤ a0)) (some (decide (a0 ≤ (90 : Int)))) (some false))) (cond (decide ((65 : Int) ≤ a0)) (some (decide (a0 ≤ (90 : Int)))) (some false))
def impl_letterByte (n : Nat) (a0 : Int) : Option (Tup [.bool]) := goRec impl_letterByte.step n (.p0 a0)
def impl_letterByte.spec : Ctr := ⟨147, [.v (.int .u8)], [.bool], [], none, fun n x => impl_letterByte n x.1⟩
theorem impl_letterByte.seg_eq : SegEq ty gl impl_letterByte.F impl_letterByte.md impl_letterByte.T impl_letterByte.spec impl_letterByte.lb impl_letterByte.st impl_letterByte.step := by
  intro n goto y; cases y <;> kernel_rfl
theorem impl_letterByte.text : Text Go.Proofs.Tryz.prog impl_letterByte.F impl_letterByte.spec := textOf Go.Proofs.Tryz.f147
theorem impl_letterByte.ok : CtrOK Go.Proofs.Tryz.prog gl impl_letterByte.spec :=
  ctr_okS tabs impl_letterByte.text impl_letterByte.seg_eq (fun n x => ⟨.p0 x.1, rfl, rfl, rfl⟩) (nilC)

/-! loop.example/g00039/impl.wordByte -/
def impl_wordByte.T : List Ctr := [impl_digitByte.spec, impl_letterByte.spec]
def impl_wordByte.md : List (Nat × List Md) := []
noncomputable def impl_wordByte.F : Fun := ⟨(Go.Proofs.Tryz.f139.body).getD .skip, [.v (.int .u8)], [(.tmp 2, .bool)], [], 0, []⟩
inductive impl_wordByte.Pt where
  | p0 (a0 : Int)
def impl_wordByte.lb : impl_wordByte.Pt → Nat
  | .p0 _ => 0
def impl_wordByte.st : impl_wordByte.Pt → St
  | .p0 a0 => enter [.v (.int .u8) a0] 0
def impl_wordByte.step (n : Nat) (K : impl_wordByte.Pt → Option (Tup [.bool])) : impl_wordByte.Pt → Option (Tup [.bool])
  | .p0 a0 => (impl_letterByte n a0).bind fun r4 => cond r4 (some true) ((impl_digitByte n a0).bind fun r5 => cond r5 (some true) (some (decide (a0 = (95 : Int)))))
def impl_wordByte (n : Nat) (a0 : Int) : Option (Tup [.bool]) := goRec impl_wordByte.step n (.p0 a0)
def impl_wordByte.spec : Ctr := ⟨139, [.v (.int .u8)], [.bool], [], none, fun n x => impl_wordByte n x.1⟩
theorem impl_wordByte.seg_eq : SegEq ty gl impl_wordByte.F impl_wordByte.md impl_wordByte.T impl_wordByte.spec impl_wordByte.lb impl_wordByte.st impl_wordByte.step := by
  intro n goto y; cases y <;> kernel_rfl
theorem impl_wordByte.text : Text Go.Proofs.Tryz.prog impl_wordByte.F impl_wordByte.spec := textOf Go.Proofs.Tryz.f139
theorem impl_wordByte.ok : CtrOK Go.Proofs.Tryz.prog gl impl_wordByte.spec :=
  ctr_okS tabs impl_wordByte.text impl_wordByte.seg_eq (fun n x => ⟨.p0 x.1, rfl, rfl, rfl⟩) (consC impl_digitByte.ok (consC impl_letterByte.ok (nilC)))

/-! loop.example/g00039/impl.isName -/
def impl_isName.T : List Ctr := [impl_digitByte.spec, impl_wordByte.spec]
def impl_isName.md : List (Nat × List Md) := []
noncomputable def impl_isName.F : Fun := ⟨(Go.Proofs.Tryz.f116.body).getD .skip, [.v .str], [(.tmp 2, .bool)], [], 0, [(4, ⟨[0, 15], [], [], false⟩), (15, ⟨[0, 17, 18], [], [], false⟩)]⟩
inductive impl_isName.Pt where
  | p0 (a0 : ByteArray)
  | p4 (y1 : ByteArray) (y2 : Bool)
  | p15 (y1 : ByteArray) (y2 : Int) (y3 : Int)
def impl_isName.lb : impl_isName.Pt → Nat
  | .p0 _ => 0
  | .p4 _ _ => 4
  | .p15 _ _ _ => 15
def impl_isName.st : impl_isName.Pt → St
  | .p0 a0 => enter [.v .str a0] 0
  | .p4 y1 y2 => ⟨[(0, .im .str y1), (15, .im .bool y2)], [], 0⟩
  | .p15 y1 y2 y3 => ⟨[(0, .im .str y1), (17, .im (.int .i64) y2), (18, .im (.int .i64) y3)], [], 0⟩
def impl_isName.step (n : Nat) (K : impl_isName.Pt → Option (Tup [.bool])) : impl_isName.Pt → Option (Tup [.bool])
  | .p0 a0 => cond (seq a0 (⟨#[]⟩ : ByteArray)) (K (.p4 a0 true)) (cond (decide ((40 : Int) < ((ByteArray.size a0) : Int))) (K (.p4 a0 true)) (cond (inB (0 : Int) (ByteArray.size a0)) ((impl_digitByte n (bt a0 (0 : Int))).bind fun r4 => K (.p4 a0 r4)) (none)))
  | .p4 y1 y2 => cond y2 (some false) (K (.p15 y1 ((ByteArray.size y1) : Int) (0 : Int)))
  | .p15 y1 y2 y3 => cond (decide (y3 < y2)) (cond (inB y3 (ByteArray.size y1)) ((impl_wordByte n (bt y1 y3)).bind fun r6 => cond (!r6) (some false) (K (.p15 y1 y2 (IntKind.wrap .i64 (y3 + (1 : Int)))))) (none)) (some true)
def impl_isName (n : Nat) (a0 : ByteArray) : Option (Tup [.bool]) := goRec impl_isName.step n (.p0 a0)
def impl_isName.spec : Ctr := ⟨116, [.v .str], [.bool], [], none, fun n x => impl_isName n x.1⟩
theorem impl_isName.seg_eq : SegEq ty gl impl_isName.F impl_isName.md impl_isName.T impl_isName.spec impl_isName.lb impl_isName.st impl_isName.step := by
  intro n goto y; cases y <;> kernel_rfl
theorem impl_isName.text : Text Go.Proofs.Tryz.prog impl_isName.F impl_isName.spec := textOf Go.Proofs.Tryz.f116
theorem impl_isName.ok : CtrOK Go.Proofs.Tryz.prog gl impl_isName.spec :=
  ctr_okS tabs impl_isName.text impl_isName.seg_eq (fun n x => ⟨.p0 x.1, rfl, rfl, rfl⟩) (consC impl_digitByte.ok (consC impl_wordByte.ok (nilC)))

/-! loop.example/g00039/impl.printed -/
def impl_printed.T : List Ctr := []
def impl_printed.md : List (Nat × List Md) := []
noncomputable def impl_printed.F : Fun := ⟨(Go.Proofs.Tryz.f122.body).getD .skip, [.v .str, .v (.int .i64)], [(.tmp 4, .bool)], [], 0, [(15, ⟨[0, 11, 12], [], [], false⟩)]⟩
inductive impl_printed.Pt where
  | p0 (a0 : ByteArray) (a1 : Int)
  | p15 (y1 : ByteArray) (y2 : Int) (y3 : Int)
def impl_printed.lb : impl_printed.Pt → Nat
  | .p0 _ _ => 0
  | .p15 _ _ _ => 15
def impl_printed.st : impl_printed.Pt → St
  | .p0 a0 a1 => enter [.v .str a0, .v (.int .i64) a1] 0
  | .p15 y1 y2 y3 => ⟨[(0, .im .str y1), (11, .im (.int .i64) y2), (12, .im (.int .i64) y3)], [], 0⟩
def impl_printed.step (n : Nat) (K : impl_printed.Pt → Option (Tup [.bool])) : impl_printed.Pt → Option (Tup [.bool])
  | .p0 a0 a1 => cond (decide (a1 < ((ByteArray.size a0) : Int))) (some false) (K (.p15 a0 ((ByteArray.size a0) : Int) (0 : Int)))
  | .p15 y1 y2 y3 => cond (decide (y3 < y2)) (cond (inB y3 (ByteArray.size y1)) (cond (decide ((bt y1 y3) < (32 : Int))) (some false) (cond (inB y3 (ByteArray.size y1)) (cond (decide ((126 : Int) < (bt y1 y3))) (some false) (K (.p15 y1 y2 (IntKind.wrap .i64 (y3 + (1 : Int)))))) (none))) (none)) (some true)
def impl_printed (n : Nat) (a0 : ByteArray) (a1 : Int) : Option (Tup [.bool]) := goRec impl_printed.step n (.p0 a0 a1)
def impl_printed.spec : Ctr := ⟨122, [.v .str, .v (.int .i64)], [.bool], [], none, fun n x => impl_printed n x.1 x.2.1⟩
theorem impl_printed.seg_eq : SegEq ty gl impl_printed.F impl_printed.md impl_printed.T impl_printed.spec impl_printed.lb impl_printed.st impl_printed.step := by
  intro n goto y; cases y <;> kernel_rfl
theorem impl_printed.text : Text Go.Proofs.Tryz.prog impl_printed.F impl_printed.spec := textOf Go.Proofs.Tryz.f122
theorem impl_printed.ok : CtrOK Go.Proofs.Tryz.prog gl impl_printed.spec :=
  ctr_okS tabs impl_printed.text impl_printed.seg_eq (fun n x => ⟨.p0 x.1 x.2.1, rfl, rfl, rfl⟩) (nilC)

/-! loop.example/g00039/impl.isValue -/
def impl_isValue.T : List Ctr := [impl_printed.spec]
def impl_isValue.md : List (Nat × List Md) := []
noncomputable def impl_isValue.F : Fun := ⟨(Go.Proofs.Tryz.f117.body).getD .skip, [.v .str], [(.tmp 2, .bool)], [], 0, []⟩
inductive impl_isValue.Pt where
  | p0 (a0 : ByteArray)
def impl_isValue.lb : impl_isValue.Pt → Nat
  | .p0 _ => 0
def impl_isValue.st : impl_isValue.Pt → St
  | .p0 a0 => enter [.v .str a0] 0
def impl_isValue.step (n : Nat) (K : impl_isValue.Pt → Option (Tup [.bool])) : impl_isValue.Pt → Option (Tup [.bool])
  | .p0 a0 => cond (!(seq a0 (⟨#[]⟩ : ByteArray))) ((impl_printed n a0 (100 : Int)).bind fun r4 => some r4) (some false)
def impl_isValue (n : Nat) (a0 : ByteArray) : Option (Tup [.bool]) := goRec impl_isValue.step n (.p0 a0)
def impl_isValue.spec : Ctr := ⟨117, [.v .str], [.bool], [], none, fun n x => impl_isValue n x.1⟩
theorem impl_isValue.seg_eq : SegEq ty gl impl_isValue.F impl_isValue.md impl_isValue.T impl_isValue.spec impl_isValue.lb impl_isValue.st impl_isValue.step := by
  intro n goto y; cases y <;> kernel_rfl
theorem impl_isValue.text : Text Go.Proofs.Tryz.prog impl_isValue.F impl_isValue.spec := textOf Go.Proofs.Tryz.f117
theorem impl_isValue.ok : CtrOK Go.Proofs.Tryz.prog gl impl_isValue.spec :=
  ctr_okS tabs impl_isValue.text impl_isValue.seg_eq (fun n x => ⟨.p0 x.1, rfl, rfl, rfl⟩) (consC impl_printed.ok (nilC))

/-! loop.example/g00039/impl.GoodLabels -/
def impl_GoodLabels.T : List Ctr := [impl_isName.spec, impl_isValue.spec]
def impl_GoodLabels.md : List (Nat × List Md) := []
noncomputable def impl_GoodLabels.F : Fun := ⟨(Go.Proofs.Tryz.f78.body).getD .skip, [.v (.sl false (.pair .str (.pair .str .unit)))], [(.tmp 2, .bool)], [], 0, [(15, ⟨[0, 8, 9, 10], [(8, (.pair .str (.pair .str .unit)))], [], false⟩), (26, ⟨[0, 8, 9, 10, 39], [(8, (.pair .str (.pair .str .unit)))], [], false⟩)]⟩
inductive impl_GoodLabels.Pt where
  | p0 (a0 : List ((ByteArray) × ((ByteArray) × (Unit))))
  | p15 (y1 : List ((ByteArray) × ((ByteArray) × (Unit)))) (y2 : List ((ByteArray) × ((ByteArray) × (Unit)))) (y3 : Int) (y4 : Int)
  | p26 (y1 : List ((ByteArray) × ((ByteArray) × (Unit)))) (y2 : List ((ByteArray) × ((ByteArray) × (Unit)))) (y3 : Int) (y4 : Int) (y5 : Bool)
def impl_GoodLabels.lb : impl_GoodLabels.Pt → Nat
  | .p0 _ => 0
  | .p15 _ _ _ _ => 15
  | .p26 _ _ _ _ _ => 26
def impl_GoodLabels.st : impl_GoodLabels.Pt → St
  | .p0 a0 => enter [.v (.sl false (.pair .str (.pair .str .unit))) a0] 0
  | .p15 y1 y2 y3 y4 => ⟨[(0, .im (.sl false (.pair .str (.pair .str .unit))) y1), (8, .im (.sl false (.pair .str (.pair .str .unit))) y2), (9, .im (.int .i64) y3), (10, .im (.int .i64) y4)], [], 0⟩
  | .p26 y1 y2 y3 y4 y5 => ⟨[(0, .im (.sl false (.pair .str (.pair .str .unit))) y1), (8, .im (.sl false (.pair .str (.pair .str .unit))) y2), (9, .im (.int .i64) y3), (10, .im (.int .i64) y4), (39, .im .bool y5)], [], 0⟩
def impl_GoodLabels.step (n : Nat) (K : impl_GoodLabels.Pt → Option (Tup [.bool])) : impl_GoodLabels.Pt → Option (Tup [.bool])
  | .p0 a0 => cond (decide ((20 : Int) < ((List.length a0) : Int))) (some false) (K (.p15 a0 a0 ((List.length a0) : Int) (0 : Int)))
  | .p15 y1 y2 y3 y4 => cond (decide (y4 < y3)) (cond (inB y4 (List.length y2)) ((impl_isName n (List.getD y2 (Int.toNat y4) default).1).bind fun r7 => cond (!r7) (K (.p26 y1 y2 y3 y4 true)) ((impl_isValue n (List.getD y2 (Int.toNat y4) default).2.1).bind fun r8 => cond (!r8) (K (.p26 y1 y2 y3 y4 true)) (cond (decide ((0 : Int) < y4)) (cond (inB (IntKind.wrap .i64 (y4 - (1 : Int))) (List.length y1)) (K (.p26 y1 y2 y3 y4 (!(slt (List.getD y1 (Int.toNat (IntKind.wrap .i64 (y4 - (1 : Int)))) default).1 (List.getD y2 (Int.toNat y4) default).1)))) (none)) (K (.p26 y1 y2 y3 y4 false))))) (none)) (some true)
  | .p26 y1 y2 y3 y4 y5 => cond y5 (some false) (K (.p15 y1 y2 y3 (IntKind.wrap .i64 (y4 + (1 : Int)))))
def impl_GoodLabels (n : Nat) (a0 : List ((ByteArray) × ((ByteArray) × (Unit)))) : Option (Tup [.bool]) := goRec impl_GoodLabels.step n (.p0 a0)
def impl_GoodLabels.spec : Ctr := ⟨78, [.v (.sl false (.pair .str (.pair .str .unit)))], [.bool], [], none, fun n x => impl_GoodLabels n x.1⟩
theorem impl_GoodLabels.seg_eq : SegEq ty gl impl_GoodLabels.F impl_GoodLabels.md impl_GoodLabels.T impl_GoodLabels.spec impl_GoodLabels.lb impl_GoodLabels.st impl_GoodLabels.step := by
  intro n goto y; cases y <;> kernel_rfl
theorem impl_GoodLabels.text : Text Go.Proofs.Tryz.prog impl_GoodLabels.F impl_GoodLabels.spec := textOf Go.Proofs.Tryz.f78
theorem impl_GoodLabels.ok : CtrOK Go.Proofs.Tryz.prog gl impl_GoodLabels.spec :=
  ctr_okS tabs impl_GoodLabels.text impl_GoodLabels.seg_eq (fun n x => ⟨.p0 x.1, rfl, rfl, rfl⟩) (consC impl_isName.ok (consC impl_isValue.ok (nilC)))

/-! loop.example/g00039/impl.valueOf -/
def impl_valueOf.T : List Ctr := []
def impl_valueOf.md : List (Nat × List Md) := []
noncomputable def impl_valueOf.F : Fun := ⟨(Go.Proofs.Tryz.f79.body).getD .skip, [.v (.sl false (.pair .str (.pair .str .unit))), .v .str], [(.tmp 4, .str)], [], 0, [(7, ⟨[1, 7, 8, 9], [(7, (.pair .str (.pair .str .unit)))], [], false⟩)]⟩
inductive impl_valueOf.Pt where
  | p0 (a0 : List ((ByteArray) × ((ByteArray) × (Unit)))) (a1 : ByteArray)
  | p7 (y1 : ByteArray) (y2 : List ((ByteArray) × ((ByteArray) × (Unit)))) (y3 : Int) (y4 : Int)
def impl_valueOf.lb : impl_valueOf.Pt → Nat
  | .p0 _ _ => 0
  | .p7 _ _ _ _ => 7
def impl_valueOf.st : impl_valueOf.Pt → St
  | .p0 a0 a1 => enter [.v (.sl false (.pair .str (.pair .str .unit))) a0, .v .str a1] 0
  | .p7 y1 y2 y3 y4 => ⟨[(1, .im .str y1), (7, .im (.sl false (.pair .str (.pair .str .unit))) y2), (8, .im (.int .i64) y3), (9, .im (.int .i64) y4)], [], 0⟩
def impl_valueOf.step (n : Nat) (K : impl_valueOf.Pt → Option (Tup [.str])) : impl_valueOf.Pt → Option (Tup [.str])
  | .p0 a0 a1 => K (.p7 a1 a0 ((List.length a0) : Int) (0 : Int))
  | .p7 y1 y2 y3 y4 => cond (decide (y4 < y3)) (cond (inB y4 (List.length y2)) (cond (seq (List.getD y2 (Int.toNat y4) default).1 y1) (some (List.getD y2 (Int.toNat y4) default).2.1) (K (.p7 y1 y2 y3 (IntKind.wrap .i64 (y4 + (1 : Int)))))) (none)) (some (⟨#[]⟩ : ByteArray))
def impl_valueOf (n : Nat) (a0 : List ((ByteArray) × ((ByteArray) × (Unit)))) (a1 : ByteArray) : Option (Tup [.str]) := goRec impl_valueOf.step n (.p0 a0 a1)
def impl_valueOf.spec : Ctr := ⟨79, [.v (.sl false (.pair .str (.pair .str .unit))), .v .str], [.str], [], none, fun n x => impl_valueOf n x.1 x.2.1⟩
theorem impl_valueOf.seg_eq : SegEq ty gl impl_valueOf.F impl_valueOf.md impl_valueOf.T impl_valueOf.spec impl_valueOf.lb impl_valueOf.st impl_valueOf.step := by
  intro n goto y; cases y <;> kernel_rfl
theorem impl_valueOf.text : Text Go.Proofs.Tryz.prog impl_valueOf.F impl_valueOf.spec := textOf Go.Proofs.Tryz.f79
theorem impl_valueOf.ok : CtrOK Go.Proofs.Tryz.prog gl impl_valueOf.spec :=
  ctr_okS tabs impl_valueOf.text impl_valueOf.seg_eq (fun n x => ⟨.p0 x.1 x.2.1, rfl, rfl, rfl⟩) (nilC)

/-! loop.example/g00039/impl.GoodSamples -/
def impl_GoodSamples.T : List Ctr := [impl_isTime.spec]
def impl_GoodSamples.md : List (Nat × List Md) := []
noncomputable def impl_GoodSamples.F : Fun := ⟨(Go.Proofs.Tryz.f80.body).getD .skip, [.v (.sl false (.pair (.int .i64) (.pair (.int .i64) .unit)))], [(.tmp 2, .bool)], [], 0, [(15, ⟨[0, 8, 9, 10], [(8, (.pair (.int .i64) (.pair (.int .i64) .unit)))], [], false⟩), (26, ⟨[0, 8, 9, 10, 33], [(8, (.pair (.int .i64) (.pair (.int .i64) .unit)))], [], false⟩)]⟩
inductive impl_GoodSamples.Pt where
  | p0 (a0 : List ((Int) × ((Int) × (Unit))))
  | p15 (y1 : List ((Int) × ((Int) × (Unit)))) (y2 : List ((Int) × ((Int) × (Unit)))) (y3 : Int) (y4 : Int)
  | p26 (y1 : List ((Int) × ((Int) × (Unit)))) (y2 : List ((Int) × ((Int) × (Unit)))) (y3 : Int) (y4 : Int) (y5 : Bool)
def impl_GoodSamples.lb : impl_GoodSamples.Pt → Nat
  | .p0 _ => 0
  | .p15 _ _ _ _ => 15
  | .p26 _ _ _ _ _ => 26
def impl_GoodSamples.st : impl_GoodSamples.Pt → St
  | .p0 a0 => enter [.v (.sl false (.pair (.int .i64) (.pair (.int .i64) .unit))) a0] 0
  | .p15 y1 y2 y3 y4 => ⟨[(0, .im (.sl false (.pair (.int .i64) (.pair (.int .i64) .unit))) y1), (8, .im (.sl false (.pair (.int .i64) (.pair (.int .i64) .unit))) y2), (9, .im (.int .i64) y3), (10, .im (.int .i64) y4)], [], 0⟩
  | .p26 y1 y2 y3 y4 y5 => ⟨[(0, .im (.sl false (.pair (.int .i64) (.pair (.int .i64) .unit))) y1), (8, .im (.sl false (.pair (.int .i64) (.pair (.int .i64) .unit))) y2), (9, .im (.int .i64) y3), (10, .im (.int .i64) y4), (33, .im .bool y5)], [], 0⟩
def impl_GoodSamples.step (n : Nat) (K : impl_GoodSamples.Pt → Option (Tup [.bool])) : impl_GoodSamples.Pt → Option (Tup [.bool])
  | .p0 a0 => cond (decide ((2000 : Int) < ((List.length a0) : Int))) (some false) (K (.p15 a0 a0 ((List.length a0) : Int) (0 : Int)))
  | .p15 y1 y2 y3 y4 => cond (decide (y4 < y3)) (cond (inB y4 (List.length y2)) ((impl_isTime n (List.getD y2 (Int.toNat y4) default).1).bind fun r7 => cond (!r7) (K (.p26 y1 y2 y3 y4 true)) (cond (decide ((0 : Int) < y4)) (cond (inB (IntKind.wrap .i64 (y4 - (1 : Int))) (List.length y1)) (K (.p26 y1 y2 y3 y4 (decide ((List.getD y2 (Int.toNat y4) default).1 ≤ (List.getD y1 (Int.toNat (IntKind.wrap .i64 (y4 - (1 : Int)))) default).1)))) (none)) (K (.p26 y1 y2 y3 y4 false)))) (none)) (some true)
  | .p26 y1 y2 y3 y4 y5 => cond y5 (some false) (K (.p15 y1 y2 y3 (IntKind.wrap .i64 (y4 + (1 : Int)))))
def impl_GoodSamples (n : Nat) (a0 : List ((Int) × ((Int) × (Unit)))) : Option (Tup [.bool]) := goRec impl_GoodSamples.step n (.p0 a0)
def impl_GoodSamples.spec : Ctr := ⟨80, [.v (.sl false (.pair (.int .i64) (.pair (.int .i64) .unit)))], [.bool], [], none, fun n x => impl_GoodSamples n x.1⟩
theorem impl_GoodSamples.seg_eq : SegEq ty gl impl_GoodSamples.F impl_GoodSamples.md impl_GoodSamples.T impl_GoodSamples.spec impl_GoodSamples.lb impl_GoodSamples.st impl_GoodSamples.step := by
  intro n goto y; cases y <;> kernel_rfl
theorem impl_GoodSamples.text : Text Go.Proofs.Tryz.prog impl_GoodSamples.F impl_GoodSamples.spec := textOf Go.Proofs.Tryz.f80
theorem impl_GoodSamples.ok : CtrOK Go.Proofs.Tryz.prog gl impl_GoodSamples.spec :=
  ctr_okS tabs impl_GoodSamples.text impl_GoodSamples.seg_eq (fun n x => ⟨.p0 x.1, rfl, rfl, rfl⟩) (consC impl_isTime.ok (nilC))

/-! cmp.isNaN[string] -/
def cmp_isNaN_string.T : List Ctr := []
def cmp_isNaN_string.md : List (Nat × List Md) := []
noncomputable def cmp_isNaN_string.F : Fun := ⟨(Go.Proofs.Tryz.f140.body).getD .skip, [.v .str], [(.tmp 2, .bool)], [], 0, []⟩
inductive cmp_isNaN_string.Pt where
  | p0 (a0 : ByteArray)
def cmp_isNaN_string.lb : cmp_isNaN_string.Pt → Nat
  | .p0 _ => 0
def cmp_isNaN_string.st : cmp_isNaN_string.Pt → St
  | .p0 a0 => enter [.v .str a0] 0
def cmp_isNaN_string.step (n : Nat) (K : cmp_isNaN_string.Pt → Option (Tup [.bool])) : cmp_isNaN_string.Pt → Option (Tup [.bool])
  | .p0 a0 => some (!(seq a0 a0))
def cmp_isNaN_string (n : Nat) (a0 : ByteArray) : Option (Tup [.bool]) := goRec cmp_isNaN_string.step n (.p0 a0)
def cmp_isNaN_string.spec : Ctr := ⟨140, [.v .str], [.bool], [], none, fun n x => cmp_isNaN_string n x.1⟩
theorem cmp_isNaN_string.seg_eq : SegEq ty gl cmp_isNaN_string.F cmp_isNaN_string.md cmp_isNaN_string.T cmp_isNaN_string.spec cmp_isNaN_string.lb cmp_isNaN_string.st cmp_isNaN_string.step := by
  intro n goto y; cases y <;> kernel_rfl
theorem cmp_isNaN_string.text : Text Go.Proofs.Tryz.prog cmp_isNaN_string.F cmp_isNaN_string.spec := textOf Go.Proofs.Tryz.f140
theorem cmp_isNaN_string.ok : CtrOK Go.Proofs.Tryz.prog gl cmp_isNaN_string.spec :=
  ctr_okS tabs cmp_isNaN_string.text cmp_isNaN_string.seg_eq (fun n x => ⟨.p0 x.1, rfl, rfl, rfl⟩) (nilC)

/-! cmp.Compare[string] -/
def cmp_Compare_string.T : List Ctr := [cmp_isNaN_string.spec]
def cmp_Compare_string.md : List (Nat × List Md) := []
noncomputable def cmp_Compare_string.F : Fun := ⟨(Go.Proofs.Tryz.f119.body).getD .skip, [.v .str, .v .str], [(.tmp 4, (.int .i64))], [], 0, []⟩
inductive cmp_Compare_string.Pt where
  | p0 (a0 : ByteArray) (a1 : ByteArray)
def cmp_Compare_string.lb : cmp_Compare_string.Pt → Nat
  | .p0 _ _ => 0
def cmp_Compare_string.st : cmp_Compare_string.Pt → St
  | .p0 a0 a1 => enter [.v .str a0, .v .str a1] 0
def cmp_Compare_string.step (n : Nat) (K : cmp_Compare_string.Pt → Option (Tup [(.int .i64)])) : cmp_Compare_string.Pt → Option (Tup [(.int .i64)])
  | .p0 a0 a1 => (cmp_isNaN_string n a0).bind fun r5 => (cmp_isNaN_string n a1).bind fun r6 => cond r5 (cond r6 (some (0 : Int)) (some (-(1 : Int)))) (cond r6 (some (1 : Int)) (cond (slt a0 a1) (some (-(1 : Int))) (cond (slt a1 a0) (some (1 : Int)) (some (0 : Int)))))
def cmp_Compare_string (n : Nat) (a0 : ByteArray) (a1 : ByteArray) : Option (Tup [(.int .i64)]) := goRec cmp_Compare_string.step n (.p0 a0 a1)
def cmp_Compare_string.spec : Ctr := ⟨119, [.v .str, .v .str], [(.int .i64)], [], none, fun n x => cmp_Compare_string n x.1 x.2.1⟩
theorem cmp_Compare_string.seg_eq : SegEq ty gl cmp_Compare_string.F cmp_Compare_string.md cmp_Compare_string.T cmp_Compare_string.spec cmp_Compare_string.lb cmp_Compare_string.st cmp_Compare_string.step := by
  intro n goto y; cases y <;> kernel_rfl
theorem cmp_Compare_string.text : Text Go.Proofs.Tryz.prog cmp_Compare_string.F cmp_Compare_string.spec := textOf Go.Proofs.Tryz.f119
theorem cmp_Compare_string.ok : CtrOK Go.Proofs.Tryz.prog gl cmp_Compare_string.spec :=
  ctr_okS tabs cmp_Compare_string.text cmp_Compare_string.seg_eq (fun n x => ⟨.p0 x.1 x.2.1, rfl, rfl, rfl⟩) (consC cmp_isNaN_string.ok (nilC))

/-! cmp.Or[int] -/
def cmp_Or_int.T : List Ctr := []
def cmp_Or_int.md : List (Nat × List Md) := []
noncomputable def cmp_Or_int.F : Fun := ⟨(Go.Proofs.Tryz.f118.body).getD .skip, [.v (.sl false (.int .i64))], [(.tmp 2, (.int .i64))], [], 0, [(9, ⟨[3, 6, 7, 8], [(6, (.int .i64))], [], false⟩)]⟩
inductive cmp_Or_int.Pt where
  | p0 (a0 : List (Int))
  | p9 (y1 : Int) (y2 : List (Int)) (y3 : Int) (y4 : Int)
def cmp_Or_int.lb : cmp_Or_int.Pt → Nat
  | .p0 _ => 0
  | .p9 _ _ _ _ => 9
def cmp_Or_int.st : cmp_Or_int.Pt → St
  | .p0 a0 => enter [.v (.sl false (.int .i64)) a0] 0
  | .p9 y1 y2 y3 y4 => ⟨[(3, .im (.int .i64) y1), (6, .im (.sl false (.int .i64)) y2), (7, .im (.int .i64) y3), (8, .im (.int .i64) y4)], [], 0⟩
def cmp_Or_int.step (n : Nat) (K : cmp_Or_int.Pt → Option (Tup [(.int .i64)])) : cmp_Or_int.Pt → Option (Tup [(.int .i64)])
  | .p0 a0 => K (.p9 (0 : Int) a0 ((List.length a0) : Int) (0 : Int))
  | .p9 y1 y2 y3 y4 => cond (decide (y4 < y3)) (cond (inB y4 (List.length y2)) (cond (!(decide ((List.getD y2 (Int.toNat y4) default) = y1))) (some (List.getD y2 (Int.toNat y4) default)) (K (.p9 y1 y2 y3 (IntKind.wrap .i64 (y4 + (1 : Int)))))) (none)) (some y1)
def cmp_Or_int (n : Nat) (a0 : List (Int)) : Option (Tup [(.int .i64)]) := goRec cmp_Or_int.step n (.p0 a0)
def cmp_Or_int.spec : Ctr := ⟨118, [.v (.sl false (.int .i64))], [(.int .i64)], [], none, fun n x => cmp_Or_int n x.1⟩
theorem cmp_Or_int.seg_eq : SegEq ty gl cmp_Or_int.F cmp_Or_int.md cmp_Or_int.T cmp_Or_int.spec cmp_Or_int.lb cmp_Or_int.st cmp_Or_int.step := by
  intro n goto y; cases y <;> kernel_rfl
theorem cmp_Or_int.text : Text Go.Proofs.Tryz.prog cmp_Or_int.F cmp_Or_int.spec := textOf Go.Proofs.Tryz.f118
theorem cmp_Or_int.ok : CtrOK Go.Proofs.Tryz.prog gl cmp_Or_int.spec :=
  ctr_okS tabs cmp_Or_int.text cmp_Or_int.seg_eq (fun n x => ⟨.p0 x.1, rfl, rfl, rfl⟩) (nilC)

/-! cmp.isNaN[int] -/
def cmp_isNaN_int.T : List Ctr := []
def cmp_isNaN_int.md : List (Nat × List Md) := []
noncomputable def cmp_isNaN_int.F : Fun := ⟨(Go.Proofs.Tryz.f141.body).getD .skip, [.v (.int .i64)], [(.tmp 2, .bool)], [], 0, []⟩
inductive cmp_isNaN_int.Pt where
  | p0 (a0 : Int)
def cmp_isNaN_int.lb : cmp_isNaN_int.Pt → Nat
  | .p0 _ => 0
def cmp_isNaN_int.st : cmp_isNaN_int.Pt → St
  | .p0 a0 => enter [.v (.int .i64) a0] 0
def cmp_isNaN_int.step (n : Nat) (K : cmp_isNaN_int.Pt → Option (Tup [.bool])) : cmp_isNaN_int.Pt → Option (Tup [.bool])
  | .p0 a0 => some (!(decide (a0 = a0)))
def cmp_isNaN_int (n : Nat) (a0 : Int) : Option (Tup [.bool]) := goRec cmp_isNaN_int.step n (.p0 a0)
def cmp_isNaN_int.spec : Ctr := ⟨141, [.v (.int .i64)], [.bool], [], none, fun n x => cmp_isNaN_int n x.1⟩
theorem cmp_isNaN_int.seg_eq : SegEq ty gl cmp_isNaN_int.F cmp_isNaN_int.md cmp_isNaN_int.T cmp_isNaN_int.spec cmp_isNaN_int.lb cmp_isNaN_int.st cmp_isNaN_int.step := by
  intro n goto y; cases y <;> kernel_rfl
theorem cmp_isNaN_int.text : Text Go.Proofs.Tryz.prog cmp_isNaN_int.F cmp_isNaN_int.spec := textOf Go.Proofs.Tryz.f141
theorem cmp_isNaN_int.ok : CtrOK Go.Proofs.Tryz.prog gl cmp_isNaN_int.spec :=
  ctr_okS tabs cmp_isNaN_int.text cmp_isNaN_int.seg_eq (fun n x => ⟨.p0 x.1, rfl, rfl, rfl⟩) (nilC)

/-! cmp.Compare[int] -/
def cmp_Compare_int.T : List Ctr := [cmp_isNaN_int.spec]
def cmp_Compare_int.md : List (Nat × List Md) := []
noncomputable def cmp_Compare_int.F : Fun := ⟨(Go.Proofs.Tryz.f120.body).getD .skip, [.v (.int .i64), .v (.int .i64)], [(.tmp 4, (.int .i64))], [], 0, []⟩
inductive cmp_Compare_int.Pt where
  | p0 (a0 : Int) (a1 : Int)
def cmp_Compare_int.lb : cmp_Compare_int.Pt → Nat
  | .p0 _ _ => 0
def cmp_Compare_int.st : cmp_Compare_int.Pt → St
  | .p0 a0 a1 => enter [.v (.int .i64) a0, .v (.int .i64) a1] 0
def cmp_Compare_int.step (n : Nat) (K : cmp_Compare_int.Pt → Option (Tup [(.int .i64)])) : cmp_Compare_int.Pt → Option (Tup [(.int .i64)])
  | .p0 a0 a1 => (cmp_isNaN_int n a0).bind fun r5 => (cmp_isNaN_int n a1).bind fun r6 => cond r5 (cond r6 (some (0 : Int)) (some (-(1 : Int)))) (cond r6 (some (1 : Int)) (cond (decide (a0 < a1)) (some (-(1 : Int))) (cond (decide (a1 < a0)) (some (1 : Int)) (some (0 : Int)))))
def cmp_Compare_int (n : Nat) (a0 : Int) (a1 : Int) : Option (Tup [(.int .i64)]) := goRec cmp_Compare_int.step n (.p0 a0 a1)
def cmp_Compare_int.spec : Ctr := ⟨120, [.v (.int .i64), .v (.int .i64)], [(.int .i64)], [], none, fun n x => cmp_Compare_int n x.1 x.2.1⟩
theorem cmp_Compare_int.seg_eq : SegEq ty gl cmp_Compare_int.F cmp_Compare_int.md cmp_Compare_int.T cmp_Compare_int.spec cmp_Compare_int.lb cmp_Compare_int.st cmp_Compare_int.step := by
  intro n goto y; cases y <;> kernel_rfl
theorem cmp_Compare_int.text : Text Go.Proofs.Tryz.prog cmp_Compare_int.F cmp_Compare_int.spec := textOf Go.Proofs.Tryz.f120
theorem cmp_Compare_int.ok : CtrOK Go.Proofs.Tryz.prog gl cmp_Compare_int.spec :=
  ctr_okS tabs cmp_Compare_int.text cmp_Compare_int.seg_eq (fun n x => ⟨.p0 x.1 x.2.1, rfl, rfl, rfl⟩) (consC cmp_isNaN_int.ok (nilC))

/-! loop.example/g00039/impl.compare -/
def impl_compare.T : List Ctr := [cmp_Compare_string.spec, cmp_Or_int.spec, cmp_Compare_int.spec]
def impl_compare.md : List (Nat × List Md) := []
noncomputable def impl_compare.F : Fun := ⟨(Go.Proofs.Tryz.f81.body).getD .skip, [.v (.sl false (.pair .str (.pair .str .unit))), .v (.sl false (.pair .str (.pair .str .unit)))], [(.tmp 4, (.int .i64))], [], 0, [(7, ⟨[0, 1, 11, 12], [], [], false⟩)]⟩
inductive impl_compare.Pt where
  | p0 (a0 : List ((ByteArray) × ((ByteArray) × (Unit)))) (a1 : List ((ByteArray) × ((ByteArray) × (Unit))))
  | p7 (y1 : List ((ByteArray) × ((ByteArray) × (Unit)))) (y2 : List ((ByteArray) × ((ByteArray) × (Unit)))) (y3 : Int) (y4 : Int)
def impl_compare.lb : impl_compare.Pt → Nat
  | .p0 _ _ => 0
  | .p7 _ _ _ _ => 7
def impl_compare.st : impl_compare.Pt → St
  | .p0 a0 a1 => enter [.v (.sl false (.pair .str (.pair .str .unit))) a0, .v (.sl false (.pair .str (.pair .str .unit))) a1] 0
  | .p7 y1 y2 y3 y4 => ⟨[(0, .im (.sl false (.pair .str (.pair .str .unit))) y1), (1, .im (.sl false (.pair .str (.pair .str .unit))) y2), (11, .im (.int .i64) y3), (12, .im (.int .i64) y4)], [], 0⟩
def impl_compare.step (n : Nat) (K : impl_compare.Pt → Option (Tup [(.int .i64)])) : impl_compare.Pt → Option (Tup [(.int .i64)])
  | .p0 a0 a1 => K (.p7 a0 a1 (min ((List.length a0) : Int) ((List.length a1) : Int)) (0 : Int))
  | .p7 y1 y2 y3 y4 => cond (decide (y4 < y3)) (cond (inB y4 (List.length y1)) (cond (inB y4 (List.length y2)) ((cmp_Compare_string n (List.getD y1 (Int.toNat y4) default).1 (List.getD y2 (Int.toNat y4) default).1).bind fun (r7 : Int) => cond (inB y4 (List.length y1)) (cond (inB y4 (List.length y2)) ((cmp_Compare_string n (List.getD y1 (Int.toNat y4) default).2.1 (List.getD y2 (Int.toNat y4) default).2.1).bind fun (r8 : Int) => (cmp_Or_int n [r7, r8]).bind fun (r9 : Int) => cond (!(decide (r9 = (0 : Int)))) (some r9) (K (.p7 y1 y2 y3 (IntKind.wrap .i64 (y4 + (1 : Int)))))) (none)) (none)) (none)) (none)) ((cmp_Compare_int n ((List.length y1) : Int) ((List.length y2) : Int)).bind fun (r7 : Int) => some r7)
def impl_compare (n : Nat) (a0 : List ((ByteArray) × ((ByteArray) × (Unit)))) (a1 : List ((ByteArray) × ((ByteArray) × (Unit)))) : Option (Tup [(.int .i64)]) := goRec impl_compare.step n (.p0 a0 a1)
def impl_compare.spec : Ctr := ⟨81, [.v (.sl false (.pair .str (.pair .str .unit))), .v (.sl false (.pair .str (.pair .str .unit)))], [(.int .i64)], [], none, fun n x => impl_compare n x.1 x.2.1⟩
theorem impl_compare.seg_eq : SegEq ty gl impl_compare.F impl_compare.md impl_compare.T impl_compare.spec impl_compare.lb impl_compare.st impl_compare.step := by
  intro n goto y; cases y <;> kernel_rfl
theorem impl_compare.text : Text Go.Proofs.Tryz.prog impl_compare.F impl_compare.spec := textOf Go.Proofs.Tryz.f81
theorem impl_compare.ok : CtrOK Go.Proofs.Tryz.prog gl impl_compare.spec :=
  ctr_okS tabs impl_compare.text impl_compare.seg_eq (fun n x => ⟨.p0 x.1 x.2.1, rfl, rfl, rfl⟩) (consC cmp_Compare_string.ok (consC cmp_Or_int.ok (consC cmp_Compare_int.ok (nilC))))

/-! loop.example/g00039/impl.GoodSeries -/
def impl_GoodSeries.T : List Ctr := [impl_GoodLabels.spec, impl_valueOf.spec, impl_GoodSamples.spec, impl_compare.spec]
def impl_GoodSeries.md : List (Nat × List Md) := []
noncomputable def impl_GoodSeries.F : Fun := ⟨(Go.Proofs.Tryz.f37.body).getD .skip, [.v (.sl false (.pair (.sl false (.pair .str (.pair .str .unit))) (.pair (.sl false (.pair (.int .i64) (.pair (.int .i64) .unit))) .unit)))], [(.tmp 2, .bool)], [], 0, [(15, ⟨[0, 8, 9, 10], [(8, (.pair (.sl false (.pair .str (.pair .str .unit))) (.pair (.sl false (.pair (.int .i64) (.pair (.int .i64) .unit))) .unit)))], [], false⟩), (26, ⟨[0, 8, 9, 10, 52], [(8, (.pair (.sl false (.pair .str (.pair .str .unit))) (.pair (.sl false (.pair (.int .i64) (.pair (.int .i64) .unit))) .unit)))], [], false⟩)]⟩
inductive impl_GoodSeries.Pt where
  | p0 (a0 : List ((List ((ByteArray) × ((ByteArray) × (Unit)))) × ((List ((Int) × ((Int) × (Unit)))) × (Unit))))
  | p15 (y1 : List ((List ((ByteArray) × ((ByteArray) × (Unit)))) × ((List ((Int) × ((Int) × (Unit)))) × (Unit)))) (y2 : List ((List ((ByteArray) × ((ByteArray) × (Unit)))) × ((List ((Int) × ((Int) × (Unit)))) × (Unit)))) (y3 : Int) (y4 : Int)
  | p26 (y1 : List ((List ((ByteArray) × ((ByteArray) × (Unit)))) × ((List ((Int) × ((Int) × (Unit)))) × (Unit)))) (y2 : List ((List ((ByteArray) × ((ByteArray) × (Unit)))) × ((List ((Int) × ((Int) × (Unit)))) × (Unit)))) (y3 : Int) (y4 : Int) (y5 : Bool)
def impl_GoodSeries.lb : impl_GoodSeries.Pt → Nat
  | .p0 _ => 0
  | .p15 _ _ _ _ => 15
  | .p26 _ _ _ _ _ => 26
def impl_GoodSeries.st : impl_GoodSeries.Pt → St
  | .p0 a0 => enter [.v (.sl false (.pair (.sl false (.pair .str (.pair .str .unit))) (.pair (.sl false (.pair (.int .i64) (.pair (.int .i64) .unit))) .unit))) a0] 0
  | .p15 y1 y2 y3 y4 => ⟨[(0, .im (.sl false (.pair (.sl false (.pair .str (.pair .str .unit))) (.pair (.sl false (.pair (.int .i64) (.pair (.int .i64) .unit))) .unit))) y1), (8, .im (.sl false (.pair (.sl false (.pair .str (.pair .str .unit))) (.pair (.sl false (.pair (.int .i64) (.pair (.int .i64) .unit))) .unit))) y2), (9, .im (.int .i64) y3), (10, .im (.int .i64) y4)], [], 0⟩
  | .p26 y1 y2 y3 y4 y5 => ⟨[(0, .im (.sl false (.pair (.sl false (.pair .str (.pair .str .unit))) (.pair (.sl false (.pair (.int .i64) (.pair (.int .i64) .unit))) .unit))) y1), (8, .im (.sl false (.pair (.sl false (.pair .str (.pair .str .unit))) (.pair (.sl false (.pair (.int .i64) (.pair (.int .i64) .unit))) .unit))) y2), (9, .im (.int .i64) y3), (10, .im (.int .i64) y4), (52, .im .bool y5)], [], 0⟩
def impl_GoodSeries.step (n : Nat) (K : impl_GoodSeries.Pt → Option (Tup [.bool])) : impl_GoodSeries.Pt → Option (Tup [.bool])
  | .p0 a0 => cond (decide ((200 : Int) < ((List.length a0) : Int))) (some false) (K (.p15 a0 a0 ((List.length a0) : Int) (0 : Int)))
  | .p15 y1 y2 y3 y4 => cond (decide (y4 < y3)) (cond (inB y4 (List.length y2)) ((impl_GoodLabels n (List.getD y2 (Int.toNat y4) default).1).bind fun r7 => cond (!r7) (K (.p26 y1 y2 y3 y4 true)) ((impl_valueOf n (List.getD y2 (Int.toNat y4) default).1 (⟨#[95, 110, 97, 109, 101]⟩ : ByteArray)).bind fun r8 => cond (seq r8 (⟨#[]⟩ : ByteArray)) (K (.p26 y1 y2 y3 y4 true)) (cond (decide (((List.length (List.getD y2 (Int.toNat y4) default).2.1) : Int) = (0 : Int))) (K (.p26 y1 y2 y3 y4 true)) ((impl_GoodSamples n (List.getD y2 (Int.toNat y4) default).2.1).bind fun r9 => cond (!r9) (K (.p26 y1 y2 y3 y4 true)) (cond (decide ((0 : Int) < y4)) (cond (inB (IntKind.wrap .i64 (y4 - (1 : Int))) (List.length y1)) ((impl_compare n (List.getD y1 (Int.toNat (IntKind.wrap .i64 (y4 - (1 : Int)))) default).1 (List.getD y2 (Int.toNat y4) default).1).bind fun (r10 : Int) => K (.p26 y1 y2 y3 y4 (decide ((0 : Int) ≤ r10)))) (none)) (K (.p26 y1 y2 y3 y4 false))))))) (none)) (some true)
  | .p26 y1 y2 y3 y4 y5 => cond y5 (some false) (K (.p15 y1 y2 y3 (IntKind.wrap .i64 (y4 + (1 : Int)))))
def impl_GoodSeries (n : Nat) (a0 : List ((List ((ByteArray) × ((ByteArray) × (Unit)))) × ((List ((Int) × ((Int) × (Unit)))) × (Unit)))) : Option (Tup [.bool]) := goRec impl_GoodSeries.step n (.p0 a0)
def impl_GoodSeries.spec : Ctr := ⟨37, [.v (.sl false (.pair (.sl false (.pair .str (.pair .str .unit))) (.pair (.sl false (.pair (.int .i64) (.pair (.int .i64) .unit))) .unit)))], [.bool], [], none, fun n x => impl_GoodSeries n x.1⟩
theorem impl_GoodSeries.seg_eq : SegEq ty gl impl_GoodSeries.F impl_GoodSeries.md impl_GoodSeries.T impl_GoodSeries.spec impl_GoodSeries.lb impl_GoodSeries.st impl_GoodSeries.step := by
  intro n goto y; cases y <;> kernel_rfl
theorem impl_GoodSeries.text : Text Go.Proofs.Tryz.prog impl_GoodSeries.F impl_GoodSeries.spec := textOf Go.Proofs.Tryz.f37
theorem impl_GoodSeries.ok : CtrOK Go.Proofs.Tryz.prog gl impl_GoodSeries.spec :=
  ctr_okS tabs impl_GoodSeries.text impl_GoodSeries.seg_eq (fun n x => ⟨.p0 x.1, rfl, rfl, rfl⟩) (consC impl_GoodLabels.ok (consC impl_valueOf.ok (consC impl_GoodSamples.ok (consC impl_compare.ok (nilC)))))

/-! loop.example/g00039/impl.GoodHead -/
def impl_GoodHead.T : List Ctr := [impl_isTime.spec, impl_goodWindow.spec, impl_GoodSeries.spec]
def impl_GoodHead.md : List (Nat × List Md) := []
noncomputable def impl_GoodHead.F : Fun := ⟨(Go.Proofs.Tryz.f60.body).getD .skip, [.v (.pair (.int .i64) (.pair (.int .i64) (.pair (.int .i64) (.pair (.sl false (.pair (.sl false (.pair .str (.pair .str .unit))) (.pair (.sl false (.pair (.int .i64) (.pair (.int .i64) .unit))) .unit))) .unit))))], [(.tmp 2, .bool)], [], 0, [(4, ⟨[1, 35], [], [(1, 3, (.pair (.sl false (.pair .str (.pair .str .unit))) (.pair (.sl false (.pair (.int .i64) (.pair (.int .i64) .unit))) .unit)))], false⟩), (15, ⟨[1, 37, 38, 39], [(37, (.pair (.sl false (.pair .str (.pair .str .unit))) (.pair (.sl false (.pair (.int .i64) (.pair (.int .i64) .unit))) .unit)))], [(1, 3, (.pair (.sl false (.pair .str (.pair .str .unit))) (.pair (.sl false (.pair (.int .i64) (.pair (.int .i64) .unit))) .unit)))], false⟩)]⟩
inductive impl_GoodHead.Pt where
  | p0 (a0 : (Int) × ((Int) × ((Int) × ((List ((List ((ByteArray) × ((ByteArray) × (Unit)))) × ((List ((Int) × ((Int) × (Unit)))) × (Unit)))) × (Unit)))))
  | p4 (y1 : Bool) (y2 : Int) (y3 : Int) (y4 : Int) (y5 : List ((List ((ByteArray) × ((ByteArray) × (Unit)))) × ((List ((Int) × ((Int) × (Unit)))) × (Unit))))
  | p15 (y1 : List ((List ((ByteArray) × ((ByteArray) × (Unit)))) × ((List ((Int) × ((Int) × (Unit)))) × (Unit)))) (y2 : Int) (y3 : Int) (y4 : Int) (y5 : Int) (y6 : Int) (y7 : List ((List ((ByteArray) × ((ByteArray) × (Unit)))) × ((List ((Int) × ((Int) × (Unit)))) × (Unit))))
def impl_GoodHead.lb : impl_GoodHead.Pt → Nat
  | .p0 _ => 0
  | .p4 _ _ _ _ _ => 4
  | .p15 _ _ _ _ _ _ _ => 15
def impl_GoodHead.st : impl_GoodHead.Pt → St
  | .p0 a0 => enter [.v (.pair (.int .i64) (.pair (.int .i64) (.pair (.int .i64) (.pair (.sl false (.pair (.sl false (.pair .str (.pair .str .unit))) (.pair (.sl false (.pair (.int .i64) (.pair (.int .i64) .unit))) .unit))) .unit)))) a0] 0
  | .p4 y1 y2 y3 y4 y5 => ⟨[(1, .po 0 0), (35, .im .bool y1)], [(0, .obj [.im (.int .i64) y2, .im (.int .i64) y3, .im (.int .i64) y4, .im (.sl false (.pair (.sl false (.pair .str (.pair .str .unit))) (.pair (.sl false (.pair (.int .i64) (.pair (.int .i64) .unit))) .unit))) y5])], 1⟩
  | .p15 y1 y2 y3 y4 y5 y6 y7 => ⟨[(1, .po 0 0), (37, .im (.sl false (.pair (.sl false (.pair .str (.pair .str .unit))) (.pair (.sl false (.pair (.int .i64) (.pair (.int .i64) .unit))) .unit))) y1), (38, .im (.int .i64) y2), (39, .im (.int .i64) y3)], [(0, .obj [.im (.int .i64) y4, .im (.int .i64) y5, .im (.int .i64) y6, .im (.sl false (.pair (.sl false (.pair .str (.pair .str .unit))) (.pair (.sl false (.pair (.int .i64) (.pair (.int .i64) .unit))) .unit))) y7])], 1⟩
def impl_GoodHead.step (n : Nat) (K : impl_GoodHead.Pt → Option (Tup [.bool])) : impl_GoodHead.Pt → Option (Tup [.bool])
  | .p0 a0 => (impl_goodWindow n a0.1 a0.2.1).bind fun r4 => cond (!r4) (K (.p4 true a0.1 a0.2.1 a0.2.2.1 a0.2.2.2.1)) ((impl_GoodSeries n a0.2.2.2.1).bind fun r5 => cond (!r5) (K (.p4 true a0.1 a0.2.1 a0.2.2.1 a0.2.2.2.1)) (cond (decide (a0.2.1 < ((List.length a0.2.2.2.1) : Int))) (K (.p4 true a0.1 a0.2.1 a0.2.2.1 a0.2.2.2.1)) (cond (!(decide (a0.2.2.1 = (-(1 : Int))))) ((impl_isTime n a0.2.2.1).bind fun r6 => K (.p4 (!r6) a0.1 a0.2.1 a0.2.2.1 a0.2.2.2.1)) (K (.p4 false a0.1 a0.2.1 a0.2.2.1 a0.2.2.2.1)))))
  | .p4 y1 y2 y3 y4 y5 => cond y1 (some false) (K (.p15 y5 ((List.length y5) : Int) (0 : Int) y2 y3 y4 y5))
  | .p15 y1 y2 y3 y4 y5 y6 y7 => cond (decide (y3 < y2)) (cond (inB y3 (List.length y1)) (cond (inB (IntKind.wrap .i64 (((List.length (List.getD y1 (Int.toNat y3) default).2.1) : Int) - (1 : Int))) (List.length (List.getD y1 (Int.toNat y3) default).2.1)) (cond (decide (y6 < (List.getD (List.getD y1 (Int.toNat y3) default).2.1 (Int.toNat (IntKind.wrap .i64 (((List.length (List.getD y1 (Int.toNat y3) default).2.1) : Int) - (1 : Int)))) default).1)) (some false) (K (.p15 y1 y2 (IntKind.wrap .i64 (y3 + (1 : Int))) y4 y5 y6 y7))) (none)) (none)) (some true)
def impl_GoodHead (n : Nat) (a0 : (Int) × ((Int) × ((Int) × ((List ((List ((ByteArray) × ((ByteArray) × (Unit)))) × ((List ((Int) × ((Int) × (Unit)))) × (Unit)))) × (Unit))))) : Option (Tup [.bool]) := goRec impl_GoodHead.step n (.p0 a0)
def impl_GoodHead.spec : Ctr := ⟨60, [.v (.pair (.int .i64) (.pair (.int .i64) (.pair (.int .i64) (.pair (.sl false (.pair (.sl false (.pair .str (.pair .str .unit))) (.pair (.sl false (.pair (.int .i64) (.pair (.int .i64) .unit))) .unit))) .unit))))], [.bool], [], none, fun n x => impl_GoodHead n x.1⟩
theorem impl_GoodHead.seg_eq : SegEq ty gl impl_GoodHead.F impl_GoodHead.md impl_GoodHead.T impl_GoodHead.spec impl_GoodHead.lb impl_GoodHead.st impl_GoodHead.step := by
  intro n goto y; cases y <;> kernel_rfl
theorem impl_GoodHead.text : Text Go.Proofs.Tryz.prog impl_GoodHead.F impl_GoodHead.spec := textOf Go.Proofs.Tryz.f60
theorem impl_GoodHead.ok : CtrOK Go.Proofs.Tryz.prog gl impl_GoodHead.spec :=
  ctr_okS tabs impl_GoodHead.text impl_GoodHead.seg_eq (fun n x => ⟨.p0 x.1, rfl, rfl, rfl⟩) (consC impl_isTime.ok (consC impl_goodWindow.ok (consC impl_GoodSeries.ok (nilC))))

/-! slices.Clone[[]loop.example/g00039/impl.Label,loop.example/g00039/impl.Label] -/
def slices_Clone_Label.T : List Ctr := []
def slices_Clone_Label.md : List (Nat × List Md) := []
noncomputable def slices_Clone_Label.F : Fun := ⟨(Go.Proofs.Tryz.f47.body).getD .skip, [.v (.sl false (.pair .str (.pair .str .unit)))], [(.tmp 2, (.sl false (.pair .str (.pair .str .unit))))], [], 0, []⟩
inductive slices_Clone_Label.Pt where
  | p0 (a0 : List ((ByteArray) × ((ByteArray) × (Unit))))
def slices_Clone_Label.lb : slices_Clone_Label.Pt → Nat
  | .p0 _ => 0
def slices_Clone_Label.st : slices_Clone_Label.Pt → St
  | .p0 a0 => enter [.v (.sl false (.pair .str (.pair .str .unit))) a0] 0
def slices_Clone_Label.step (n : Nat) (K : slices_Clone_Label.Pt → Option (Tup [(.sl false (.pair .str (.pair .str .unit)))])) : slices_Clone_Label.Pt → Option (Tup [(.sl false (.pair .str (.pair .str .unit)))])
  | .p0 a0 => cond (List.isEmpty a0) (none) (cond (room ((List.length ([] : List ((ByteArray) × ((ByteArray) × (Unit))))) + (List.length a0))) (some (([] : List ((ByteArray) × ((ByteArray) × (Unit)))) ++ a0)) (none))
def slices_Clone_Label (n : Nat) (a0 : List ((ByteArray) × ((ByteArray) × (Unit)))) : Option (Tup [(.sl false (.pair .str (.pair .str .unit)))]) := goRec slices_Clone_Label.step n (.p0 a0)
def slices_Clone_Label.spec : Ctr := ⟨47, [.v (.sl false (.pair .str (.pair .str .unit)))], [(.sl false (.pair .str (.pair .str .unit)))], [], none, fun n x => slices_Clone_Label n x.1⟩
theorem slices_Clone_Label.seg_eq : SegEq ty gl slices_Clone_Label.F slices_Clone_Label.md slices_Clone_Label.T slices_Clone_Label.spec slices_Clone_Label.lb slices_Clone_Label.st slices_Clone_Label.step := by
  intro n goto y; cases y <;> kernel_rfl
theorem slices_Clone_Label.text : Text Go.Proofs.Tryz.prog slices_Clone_Label.F slices_Clone_Label.spec := textOf Go.Proofs.Tryz.f47
theorem slices_Clone_Label.ok : CtrOK Go.Proofs.Tryz.prog gl slices_Clone_Label.spec :=
  ctr_okS tabs slices_Clone_Label.text slices_Clone_Label.seg_eq (fun n x => ⟨.p0 x.1, rfl, rfl, rfl⟩) (nilC)

/-! slices.Clone[[]loop.example/g00039/impl.Sample,loop.example/g00039/impl.Sample] -/
def slices_Clone_Sample.T : List Ctr := []
def slices_Clone_Sample.md : List (Nat × List Md) := []
noncomputable def slices_Clone_Sample.F : Fun := ⟨(Go.Proofs.Tryz.f98.body).getD .skip, [.v (.sl false (.pair (.int .i64) (.pair (.int .i64) .unit)))], [(.tmp 2, (.sl false (.pair (.int .i64) (.pair (.int .i64) .unit))))], [], 0, []⟩
inductive slices_Clone_Sample.Pt where
  | p0 (a0 : List ((Int) × ((Int) × (Unit))))
def slices_Clone_Sample.lb : slices_Clone_Sample.Pt → Nat
  | .p0 _ => 0
def slices_Clone_Sample.st : slices_Clone_Sample.Pt → St
  | .p0 a0 => enter [.v (.sl false (.pair (.int .i64) (.pair (.int .i64) .unit))) a0] 0
def slices_Clone_Sample.step (n : Nat) (K : slices_Clone_Sample.Pt → Option (Tup [(.sl false (.pair (.int .i64) (.pair (.int .i64) .unit)))])) : slices_Clone_Sample.Pt → Option (Tup [(.sl false (.pair (.int .i64) (.pair (.int .i64) .unit)))])
  | .p0 a0 => cond (List.isEmpty a0) (none) (cond (room ((List.length ([] : List ((Int) × ((Int) × (Unit))))) + (List.length a0))) (some (([] : List ((Int) × ((Int) × (Unit)))) ++ a0)) (none))
def slices_Clone_Sample (n : Nat) (a0 : List ((Int) × ((Int) × (Unit)))) : Option (Tup [(.sl false (.pair (.int .i64) (.pair (.int .i64) .unit)))]) := goRec slices_Clone_Sample.step n (.p0 a0)
def slices_Clone_Sample.spec : Ctr := ⟨98, [.v (.sl false (.pair (.int .i64) (.pair (.int .i64) .unit)))], [(.sl false (.pair (.int .i64) (.pair (.int .i64) .unit)))], [], none, fun n x => slices_Clone_Sample n x.1⟩
theorem slices_Clone_Sample.seg_eq : SegEq ty gl slices_Clone_Sample.F slices_Clone_Sample.md slices_Clone_Sample.T slices_Clone_Sample.spec slices_Clone_Sample.lb slices_Clone_Sample.st slices_Clone_Sample.step := by
  intro n goto y; cases y <;> kernel_rfl
theorem slices_Clone_Sample.text : Text Go.Proofs.Tryz.prog slices_Clone_Sample.F slices_Clone_Sample.spec := textOf Go.Proofs.Tryz.f98
theorem slices_Clone_Sample.ok : CtrOK Go.Proofs.Tryz.prog gl slices_Clone_Sample.spec :=
  ctr_okS tabs slices_Clone_Sample.text slices_Clone_Sample.seg_eq (fun n x => ⟨.p0 x.1, rfl, rfl, rfl⟩) (nilC)

/-! loop.example/g00039/impl.ownSeries -/
def impl_ownSeries.T : List Ctr := [slices_Clone_Label.spec, slices_Clone_Sample.spec]
def impl_ownSeries.md : List (Nat × List Md) := []
noncomputable def impl_ownSeries.F : Fun := ⟨(Go.Proofs.Tryz.f61.body).getD .skip, [.v (.sl false (.pair (.sl false (.pair .str (.pair .str .unit))) (.pair (.sl false (.pair (.int .i64) (.pair (.int .i64) .unit))) .unit)))], [(.tmp 2, (.sl false (.pair (.sl false (.pair .str (.pair .str .unit))) (.pair (.sl false (.pair (.int .i64) (.pair (.int .i64) .unit))) .unit))))], [], 0, [(9, ⟨[3, 6, 7, 8], [(3, (.pair (.sl false (.pair .str (.pair .str .unit))) (.pair (.sl false (.pair (.int .i64) (.pair (.int .i64) .unit))) .unit))), (6, (.pair (.sl false (.pair .str (.pair .str .unit))) (.pair (.sl false (.pair (.int .i64) (.pair (.int .i64) .unit))) .unit)))], [], false⟩)]⟩
inductive impl_ownSeries.Pt where
  | p0 (a0 : List ((List ((ByteArray) × ((ByteArray) × (Unit)))) × ((List ((Int) × ((Int) × (Unit)))) × (Unit))))
  | p9 (y1 : List ((List ((ByteArray) × ((ByteArray) × (Unit)))) × ((List ((Int) × ((Int) × (Unit)))) × (Unit)))) (y2 : Int) (y3 : Int) (y4 : List ((List ((ByteArray) × ((ByteArray) × (Unit)))) × ((List ((Int) × ((Int) × (Unit)))) × (Unit))))
def impl_ownSeries.lb : impl_ownSeries.Pt → Nat
  | .p0 _ => 0
  | .p9 _ _ _ _ => 9
def impl_ownSeries.st : impl_ownSeries.Pt → St
  | .p0 a0 => enter [.v (.sl false (.pair (.sl false (.pair .str (.pair .str .unit))) (.pair (.sl false (.pair (.int .i64) (.pair (.int .i64) .unit))) .unit))) a0] 0
  | .p9 y1 y2 y3 y4 => ⟨[(3, .hs 0 [] none 0), (6, .im (.sl false (.pair (.sl false (.pair .str (.pair .str .unit))) (.pair (.sl false (.pair (.int .i64) (.pair (.int .i64) .unit))) .unit))) y1), (7, .im (.int .i64) y2), (8, .im (.int .i64) y3)], [(0, .arr true (.pair (.sl false (.pair .str (.pair .str .unit))) (.pair (.sl false (.pair (.int .i64) (.pair (.int .i64) .unit))) .unit)) y4 0)], 1⟩
def impl_ownSeries.step (n : Nat) (K : impl_ownSeries.Pt → Option (Tup [(.sl false (.pair (.sl false (.pair .str (.pair .str .unit))) (.pair (.sl false (.pair (.int .i64) (.pair (.int .i64) .unit))) .unit)))])) : impl_ownSeries.Pt → Option (Tup [(.sl false (.pair (.sl false (.pair .str (.pair .str .unit))) (.pair (.sl false (.pair (.int .i64) (.pair (.int .i64) .unit))) .unit)))])
  | .p0 a0 => K (.p9 a0 ((List.length a0) : Int) (0 : Int) ([] : List ((List ((ByteArray) × ((ByteArray) × (Unit)))) × ((List ((Int) × ((Int) × (Unit)))) × (Unit)))))
  | .p9 y1 y2 y3 y4 => cond (decide (y3 < y2)) (cond (inB y3 (List.length y1)) ((slices_Clone_Label n (List.getD y1 (Int.toNat y3) default).1).bind fun r7 => (slices_Clone_Sample n (List.getD y1 (Int.toNat y3) default).2.1).bind fun r8 => cond (room ((List.length y4) + (List.length [(r7, (r8, ()))]))) (K (.p9 y1 y2 (IntKind.wrap .i64 (y3 + (1 : Int))) (y4 ++ [(r7, (r8, ()))]))) (none)) (none)) (some y4)
def impl_ownSeries (n : Nat) (a0 : List ((List ((ByteArray) × ((ByteArray) × (Unit)))) × ((List ((Int) × ((Int) × (Unit)))) × (Unit)))) : Option (Tup [(.sl false (.pair (.sl false (.pair .str (.pair .str .unit))) (.pair (.sl false (.pair (.int .i64) (.pair (.int .i64) .unit))) .unit)))]) := goRec impl_ownSeries.step n (.p0 a0)
def impl_ownSeries.spec : Ctr := ⟨61, [.v (.sl false (.pair (.sl false (.pair .str (.pair .str .unit))) (.pair (.sl false (.pair (.int .i64) (.pair (.int .i64) .unit))) .unit)))], [(.sl false (.pair (.sl false (.pair .str (.pair .str .unit))) (.pair (.sl false (.pair (.int .i64) (.pair (.int .i64) .unit))) .unit)))], [], none, fun n x => impl_ownSeries n x.1⟩
theorem impl_ownSeries.seg_eq : SegEq ty gl impl_ownSeries.F impl_ownSeries.md impl_ownSeries.T impl_ownSeries.spec impl_ownSeries.lb impl_ownSeries.st impl_ownSeries.step := by
  intro n goto y; cases y <;> kernel_rfl
theorem impl_ownSeries.text : Text Go.Proofs.Tryz.prog impl_ownSeries.F impl_ownSeries.spec := textOf Go.Proofs.Tryz.f61
theorem impl_ownSeries.ok : CtrOK Go.Proofs.Tryz.prog gl impl_ownSeries.spec :=
  ctr_okS tabs impl_ownSeries.text impl_ownSeries.seg_eq (fun n x => ⟨.p0 x.1, rfl, rfl, rfl⟩) (consC slices_Clone_Label.ok (consC slices_Clone_Sample.ok (nilC)))

/-! loop.example/g00039/impl.findSeries$1 -/
def impl_findSeries_1.T : List Ctr := [impl_compare.spec]
def impl_findSeries_1.md : List (Nat × List Md) := []
noncomputable def impl_findSeries_1.F : Fun := ⟨(Go.Proofs.Tryz.f129.body).getD .skip, [.v (.pair (.sl false (.pair .str (.pair .str .unit))) (.pair (.sl false (.pair (.int .i64) (.pair (.int .i64) .unit))) .unit)), .v (.sl false (.pair .str (.pair .str .unit)))], [(.tmp 4, (.int .i64))], [], 0, []⟩
inductive impl_findSeries_1.Pt where
  | p0 (a0 : (List ((ByteArray) × ((ByteArray) × (Unit)))) × ((List ((Int) × ((Int) × (Unit)))) × (Unit))) (a1 : List ((ByteArray) × ((ByteArray) × (Unit))))
def impl_findSeries_1.lb : impl_findSeries_1.Pt → Nat
  | .p0 _ _ => 0
def impl_findSeries_1.st : impl_findSeries_1.Pt → St
  | .p0 a0 a1 => enter [.v (.pair (.sl false (.pair .str (.pair .str .unit))) (.pair (.sl false (.pair (.int .i64) (.pair (.int .i64) .unit))) .unit)) a0, .v (.sl false (.pair .str (.pair .str .unit))) a1] 0
def impl_findSeries_1.step (n : Nat) (K : impl_findSeries_1.Pt → Option (Tup [(.int .i64)])) : impl_findSeries_1.Pt → Option (Tup [(.int .i64)])
  | .p0 a0 a1 => (impl_compare n a0.1 a1).bind fun (r5 : Int) => some r5
def impl_findSeries_1 (n : Nat) (a0 : (List ((ByteArray) × ((ByteArray) × (Unit)))) × ((List ((Int) × ((Int) × (Unit)))) × (Unit))) (a1 : List ((ByteArray) × ((ByteArray) × (Unit)))) : Option (Tup [(.int .i64)]) := goRec impl_findSeries_1.step n (.p0 a0 a1)
def impl_findSeries_1.spec : Ctr := ⟨129, [.v (.pair (.sl false (.pair .str (.pair .str .unit))) (.pair (.sl false (.pair (.int .i64) (.pair (.int .i64) .unit))) .unit)), .v (.sl false (.pair .str (.pair .str .unit)))], [(.int .i64)], [], none, fun n x => impl_findSeries_1 n x.1 x.2.1⟩
theorem impl_findSeries_1.seg_eq : SegEq ty gl impl_findSeries_1.F impl_findSeries_1.md impl_findSeries_1.T impl_findSeries_1.spec impl_findSeries_1.lb impl_findSeries_1.st impl_findSeries_1.step := by
  intro n goto y; cases y <;> kernel_rfl
theorem impl_findSeries_1.text : Text Go.Proofs.Tryz.prog impl_findSeries_1.F impl_findSeries_1.spec := textOf Go.Proofs.Tryz.f129
theorem impl_findSeries_1.ok : CtrOK Go.Proofs.Tryz.prog gl impl_findSeries_1.spec :=
  ctr_okS tabs impl_findSeries_1.text impl_findSeries_1.seg_eq (fun n x => ⟨.p0 x.1 x.2.1, rfl, rfl, rfl⟩) (consC impl_compare.ok (nilC))

/-! slices.BinarySearchFunc[[]loop.example/g00039/impl.Series,loop.example/g00039/impl.Series,[]loop.example/g00039/impl.Label] -/
def slices_BinarySearchFunc_Label_impl_findSeries_1.T : List Ctr := [impl_findSeries_1.spec]
def slices_BinarySearchFunc_Label_impl_findSeries_1.md : List (Nat × List Md) := []
noncomputable def slices_BinarySearchFunc_Label_impl_findSeries_1.F : Fun := ⟨(Go.Proofs.Tryz.f128.body).getD .skip, [.v (.sl false (.pair (.sl false (.pair .str (.pair .str .unit))) (.pair (.sl false (.pair (.int .i64) (.pair (.int .i64) .unit))) .unit))), .v (.sl false (.pair .str (.pair .str .unit))), .fn 129 []], [(.tmp 6, (.int .i64)), (.tmp 7, .bool)], [], 0, [(9, ⟨[0, 1, 2, 8, 9, 10], [], [], false⟩)]⟩
inductive slices_BinarySearchFunc_Label_impl_findSeries_1.Pt where
  | p0 (a0 : List ((List ((ByteArray) × ((ByteArray) × (Unit)))) × ((List ((Int) × ((Int) × (Unit)))) × (Unit)))) (a1 : List ((ByteArray) × ((ByteArray) × (Unit))))
  | p9 (y1 : List ((List ((ByteArray) × ((ByteArray) × (Unit)))) × ((List ((Int) × ((Int) × (Unit)))) × (Unit)))) (y2 : List ((ByteArray) × ((ByteArray) × (Unit)))) (y3 : Int) (y4 : Int) (y5 : Int)
def slices_BinarySearchFunc_Label_impl_findSeries_1.lb : slices_BinarySearchFunc_Label_impl_findSeries_1.Pt → Nat
  | .p0 _ _ => 0
  | .p9 _ _ _ _ _ => 9
def slices_BinarySearchFunc_Label_impl_findSeries_1.st : slices_BinarySearchFunc_Label_impl_findSeries_1.Pt → St
  | .p0 a0 a1 => enter [.v (.sl false (.pair (.sl false (.pair .str (.pair .str .unit))) (.pair (.sl false (.pair (.int .i64) (.pair (.int .i64) .unit))) .unit))) a0, .v (.sl false (.pair .str (.pair .str .unit))) a1, .fn 129 []] 0
  | .p9 y1 y2 y3 y4 y5 => ⟨[(0, .im (.sl false (.pair (.sl false (.pair .str (.pair .str .unit))) (.pair (.sl false (.pair (.int .i64) (.pair (.int .i64) .unit))) .unit))) y1), (1, .im (.sl false (.pair .str (.pair .str .unit))) y2), (2, .fn 129 []), (8, .im (.int .i64) y3), (9, .im (.int .i64) y4), (10, .im (.int .i64) y5)], [], 0⟩
def slices_BinarySearchFunc_Label_impl_findSeries_1.step (n : Nat) (K : slices_BinarySearchFunc_Label_impl_findSeries_1.Pt → Option (Tup [(.int .i64), .bool])) : slices_BinarySearchFunc_Label_impl_findSeries_1.Pt → Option (Tup [(.int .i64), .bool])
  | .p0 a0 a1 => K (.p9 a0 a1 ((List.length a0) : Int) (0 : Int) ((List.length a0) : Int))
  | .p9 y1 y2 y3 y4 y5 => cond (decide (y4 < y5)) (cond (inB (IntKind.wrap .i64 (shr .u64 (IntKind.wrap .u64 (IntKind.wrap .i64 (y4 + y5))) (1 : Int))) (List.length y1)) ((impl_findSeries_1 n ((List.getD y1 (Int.toNat (IntKind.wrap .i64 (shr .u64 (IntKind.wrap .u64 (IntKind.wrap .i64 (y4 + y5))) (1 : Int)))) default).1, ((List.getD y1 (Int.toNat (IntKind.wrap .i64 (shr .u64 (IntKind.wrap .u64 (IntKind.wrap .i64 (y4 + y5))) (1 : Int)))) default).2.1, ())) y2).bind fun (r8 : Int) => cond (decide (r8 < (0 : Int))) (K (.p9 y1 y2 y3 (IntKind.wrap .i64 ((IntKind.wrap .i64 (shr .u64 (IntKind.wrap .u64 (IntKind.wrap .i64 (y4 + y5))) (1 : Int))) + (1 : Int))) y5)) (K (.p9 y1 y2 y3 y4 (IntKind.wrap .i64 (shr .u64 (IntKind.wrap .u64 (IntKind.wrap .i64 (y4 + y5))) (1 : Int)))))) (none)) (cond (decide (y4 < y3)) (cond (inB y4 (List.length y1)) ((impl_findSeries_1 n ((List.getD y1 (Int.toNat y4) default).1, ((List.getD y1 (Int.toNat y4) default).2.1, ())) y2).bind fun (r8 : Int) => some (y4, (decide (r8 = (0 : Int))))) (none)) (some (y4, false)))
def slices_BinarySearchFunc_Label_impl_findSeries_1 (n : Nat) (a0 : List ((List ((ByteArray) × ((ByteArray) × (Unit)))) × ((List ((Int) × ((Int) × (Unit)))) × (Unit)))) (a1 : List ((ByteArray) × ((ByteArray) × (Unit)))) : Option (Tup [(.int .i64), .bool]) := goRec slices_BinarySearchFunc_Label_impl_findSeries_1.step n (.p0 a0 a1)
def slices_BinarySearchFunc_Label_impl_findSeries_1.spec : Ctr := ⟨128, [.v (.sl false (.pair (.sl false (.pair .str (.pair .str .unit))) (.pair (.sl false (.pair (.int .i64) (.pair (.int .i64) .unit))) .unit))), .v (.sl false (.pair .str (.pair .str .unit))), .fn 129 []], [(.int .i64), .bool], [], none, fun n x => slices_BinarySearchFunc_Label_impl_findSeries_1 n x.1 x.2.1⟩
theorem slices_BinarySearchFunc_Label_impl_findSeries_1.seg_eq : SegEq ty gl slices_BinarySearchFunc_Label_impl_findSeries_1.F slices_BinarySearchFunc_Label_impl_findSeries_1.md slices_BinarySearchFunc_Label_impl_findSeries_1.T slices_BinarySearchFunc_Label_impl_findSeries_1.spec slices_BinarySearchFunc_Label_impl_findSeries_1.lb slices_BinarySearchFunc_Label_impl_findSeries_1.st slices_BinarySearchFunc_Label_impl_findSeries_1.step := by
  intro n goto y; cases y <;> kernel_rfl
theorem slices_BinarySearchFunc_Label_impl_findSeries_1.text : Text Go.Proofs.Tryz.prog slices_BinarySearchFunc_Label_impl_findSeries_1.F slices_BinarySearchFunc_Label_impl_findSeries_1.spec := textOf Go.Proofs.Tryz.f128
theorem slices_BinarySearchFunc_Label_impl_findSeries_1.ok : CtrOK Go.Proofs.Tryz.prog gl slices_BinarySearchFunc_Label_impl_findSeries_1.spec :=
  ctr_okS tabs slices_BinarySearchFunc_Label_impl_findSeries_1.text slices_BinarySearchFunc_Label_impl_findSeries_1.seg_eq (fun n x => ⟨.p0 x.1 x.2.1, rfl, rfl, rfl⟩) (consC impl_findSeries_1.ok (nilC))

/-! loop.example/g00039/impl.findSeries -/
def impl_findSeries.T : List Ctr := [impl_findSeries_1.spec, slices_BinarySearchFunc_Label_impl_findSeries_1.spec]
def impl_findSeries.md : List (Nat × List Md) := [(128, [.v, .v, .fn])]
noncomputable def impl_findSeries.F : Fun := ⟨(Go.Proofs.Tryz.f99.body).getD .skip, [.v (.sl false (.pair (.sl false (.pair .str (.pair .str .unit))) (.pair (.sl false (.pair (.int .i64) (.pair (.int .i64) .unit))) .unit))), .v (.sl false (.pair .str (.pair .str .unit)))], [(.tmp 4, (.int .i64)), (.tmp 5, .bool)], [], 0, []⟩
inductive impl_findSeries.Pt where
  | p0 (a0 : List ((List ((ByteArray) × ((ByteArray) × (Unit)))) × ((List ((Int) × ((Int) × (Unit)))) × (Unit)))) (a1 : List ((ByteArray) × ((ByteArray) × (Unit))))
def impl_findSeries.lb : impl_findSeries.Pt → Nat
  | .p0 _ _ => 0
def impl_findSeries.st : impl_findSeries.Pt → St
  | .p0 a0 a1 => enter [.v (.sl false (.pair (.sl false (.pair .str (.pair .str .unit))) (.pair (.sl false (.pair (.int .i64) (.pair (.int .i64) .unit))) .unit))) a0, .v (.sl false (.pair .str (.pair .str .unit))) a1] 0
def impl_findSeries.step (n : Nat) (K : impl_findSeries.Pt → Option (Tup [(.int .i64), .bool])) : impl_findSeries.Pt → Option (Tup [(.int .i64), .bool])
  | .p0 a0 a1 => (slices_BinarySearchFunc_Label_impl_findSeries_1 n a0 a1).bind fun r5 => some (r5.1, r5.2)
def impl_findSeries (n : Nat) (a0 : List ((List ((ByteArray) × ((ByteArray) × (Unit)))) × ((List ((Int) × ((Int) × (Unit)))) × (Unit)))) (a1 : List ((ByteArray) × ((ByteArray) × (Unit)))) : Option (Tup [(.int .i64), .bool]) := goRec impl_findSeries.step n (.p0 a0 a1)
def impl_findSeries.spec : Ctr := ⟨99, [.v (.sl false (.pair (.sl false (.pair .str (.pair .str .unit))) (.pair (.sl false (.pair (.int .i64) (.pair (.int .i64) .unit))) .unit))), .v (.sl false (.pair .str (.pair .str .unit)))], [(.int .i64), .bool], [], none, fun n x => impl_findSeries n x.1 x.2.1⟩
theorem impl_findSeries.seg_eq : SegEq ty gl impl_findSeries.F impl_findSeries.md impl_findSeries.T impl_findSeries.spec impl_findSeries.lb impl_findSeries.st impl_findSeries.step := by
  intro n goto y; cases y <;> kernel_rfl
theorem impl_findSeries.text : Text Go.Proofs.Tryz.prog impl_findSeries.F impl_findSeries.spec := textOf Go.Proofs.Tryz.f99
theorem impl_findSeries.ok : CtrOK Go.Proofs.Tryz.prog gl impl_findSeries.spec :=
  ctr_okS tabs impl_findSeries.text impl_findSeries.seg_eq (fun n x => ⟨.p0 x.1 x.2.1, rfl, rfl, rfl⟩) (consC impl_findSeries_1.ok (consC slices_BinarySearchFunc_Label_impl_findSeries_1.ok (nilC)))

/-! slices.Insert[[]loop.example/g00039/impl.Series,loop.example/g00039/impl.Series] -/
def slices_Insert_Series (n : Nat) (a0 : List (U.El ((.pair (.sl false (.pair .str (.pair .str .unit))) (.pair (.sl false (.pair (.int .i64) (.pair (.int .i64) .unit))) .unit))))) (a1 : Int) (a2 : List (U.El ((.pair (.sl false (.pair .str (.pair .str .unit))) (.pair (.sl false (.pair (.int .i64) (.pair (.int .i64) .unit))) .unit))))) : Option (List (U.El ((.pair (.sl false (.pair .str (.pair .str .unit))) (.pair (.sl false (.pair (.int .i64) (.pair (.int .i64) .unit))) .unit))))) := hold n (cond (decide (0 ≤ a1) && decide (a1 ≤ (a0.length : Int)) && decide (a0.length ≤ 1000000) && Nat.beq a2.length 1) (some (a0.take a1.toNat ++ a2 ++ a0.drop a1.toNat)) none)
def slices_Insert_Series.spec : Ctr := ⟨100, [.g (.sl false ((.pair (.sl false (.pair .str (.pair .str .unit))) (.pair (.sl false (.pair (.int .i64) (.pair (.int .i64) .unit))) .unit)))), .v (.int .i64), .g (.sl false ((.pair (.sl false (.pair .str (.pair .str .unit))) (.pair (.sl false (.pair (.int .i64) (.pair (.int .i64) .unit))) .unit))))], [.sl false ((.pair (.sl false (.pair .str (.pair .str .unit))) (.pair (.sl false (.pair (.int .i64) (.pair (.int .i64) .unit))) .unit)))], [], none, fun n x => slices_Insert_Series n x.1 x.2.1 x.2.2.1⟩
section
open Go.Proofs Go.RowKit Go.Lib
theorem insSeries.ty : TyOK Go.Proofs.Tryz.prog 26 (.sl false ((.pair (.sl false (.pair .str (.pair .str .unit))) (.pair (.sl false (.pair (.int .i64) (.pair (.int .i64) .unit))) .unit)))) := tyB_ok (by kernel_rfl)
theorem insSeries.el (w : World) : ∃ i z, Go.Proofs.Tryz.prog.info? 73 = some i ∧ i.size = 2 ∧ i.bytes ≤ 140000 ∧ i.zero = some z ∧ z.cells.size = 2 := by
  obtain ⟨d, hd, hsh⟩ := insSeries.ty.d
  obtain ⟨el, rfl, hel, _⟩ := hsh
  rw [Go.Proofs.Tryz.underlying26] at hd
  cases hd
  obtain ⟨i, z, h1, h2, h3, h4, h5⟩ := hel.i
  exact ⟨i, z, h1, h2, h3, h4, by have := Rep.length (zero_Rep (w := w) rfl h5); simpa [U.sz] using this⟩
set_option maxHeartbeats 4000000 in
set_option maxRecDepth 100000 in
theorem insSeries.endRoom (w : World) (g n cap vb vc : Nat) (cc : Array Value) (ct : TypeId) (fz : Nat × Nat) (X : List Value) (hh : w.heap[g]? = some (.cells cc ct fz)) (hX : X.length = 2) (hXc : ∀ j v, X[j]? = some v → w.cell? ((⟨vb, 0, none⟩ : Addr).add j) = some v) (h1 : ∀ v ∈ X, v.oneCell' = true)
    (hf : ∀ j, j < cc.size → ¬ (fz.1 ≤ j ∧ j < fz.2)) (hroom : n + 1 ≤ cap) (hcap : cap ≤ 9223372036854775807) (hcs : cc.size = cap * 2) :
    Calls Go.Proofs.Tryz.prog 100 #[.slice (some ⟨g, 0, none⟩) n cap, .int .i64 n, .slice (some ⟨vb, 0, none⟩) 1 vc] w fun e w' => e = .returned (.slice (some ⟨g, 0, none⟩) (n + 1) cap) ∧ w' = putB w g (.cells (splice cc.toList (n * 2) X).toArray ct fz) := by
  obtain ⟨i0, z0, hi0, hzs, hzb, hzz, hzl⟩ := insSeries.el w
  have hrun : ∀ ty, (Builtin.append_ #[26, 26] ty #[.slice (some ⟨g, 0, none⟩) n cap, .slice (some ⟨vb, 0, none⟩) 1 vc]).run Go.Proofs.Tryz.prog w = .ok (.slice (some ⟨g, 0, none⟩) (n + 1) cap) (putB w g (.cells (splice cc.toList (n * 2) X).toArray ct fz)) := fun ty => by
    have := run_append_in (P := Go.Proofs.Tryz.prog) (W := w) (ty := ty) (c := vc) (t := 26) Go.Proofs.Tryz.underlying26 hi0 (b := ⟨g, 0, none⟩) (n := n) (m := 1) (cap := cap) rfl rfl hh (by rw [hX, hzs]) hXc h1 hf hroom (by rw [hzs, hX, hcs]; omega)
    rw [hzs] at this
    exact this
  go_enter Go.Proofs.Tryz.func100, Go.Proofs.Tryz.ntmps100
  go_wp2_with (at_builtin; refine Lib.wpList_append_run _ rfl _ _ _ _ rfl _ _ rfl rfl _ _ (hrun _) ?_)
  go_ret
  exact ⟨rfl, rfl⟩
set_option maxHeartbeats 4000000 in
set_option maxRecDepth 100000 in
theorem insSeries.endGrow (w : World) (g n cap vb vc : Nat) (m X : List Value) (hm : m.length = n * 2) (hmc : ∀ j v, m[j]? = some v → w.cell? ((⟨g, 0, none⟩ : Addr).add j) = some v) (hX : X.length = 2) (hXc : ∀ j v, X[j]? = some v → w.cell? ((⟨vb, 0, none⟩ : Addr).add j) = some v)
    (hroom : cap < n + 1) (hnc : n ≤ cap) (hn : n ≤ 1000000) :
    Calls Go.Proofs.Tryz.prog 100 #[.slice (some ⟨g, 0, none⟩) n cap, .int .i64 n, .slice (some ⟨vb, 0, none⟩) 1 vc] w fun e w' => ∃ c q, e = .returned (.slice (some ⟨w.heap.size, 0, none⟩) (n + 1) c) ∧ w' = w.drew.alloc (.cells (m ++ X ++ q).toArray 73) ∧ n + 1 ≤ c ∧ c ≤ maxLen ∧ (m ++ X ++ q).length = c * 2 := by
  obtain ⟨i0, z0, hi0, hzs, hzb, hzz, hzl⟩ := insSeries.el w
  have hby : (n + 1) * i0.bytes ≤ 140737488355328 := Nat.le_trans (Nat.mul_le_mul_left _ hzb) (by omega)
  have hrun := fun ty => run_append_grow (P := Go.Proofs.Tryz.prog) w 26 ty 73 i0 z0 Go.Proofs.Tryz.underlying26 hi0 hzz ⟨g, 0, none⟩ n cap m (by rw [hm, hzs]) hmc ⟨vb, 0, none⟩ 1 vc X (by rw [hX, hzs]) hXc hroom (by omega) (growslice_fits hroom hby)
  have hge := grownCap_ge w (n + 1) cap 73
  have hle := grownCap_le_maxLen w (n + 1) cap 73 (by simp only [maxLen]; omega)
  generalize grownCap w (n + 1) cap 73 = C at hrun hge hle
  have hrow : (m.toArray ++ X.toArray ++ Builtin.zeroCells z0.cells (C - (n + 1))) = (m ++ X ++ (Builtin.zeroCells z0.cells (C - (n + 1))).toList).toArray := by apply Array.toList_inj.1; simp
  have hql : (Builtin.zeroCells z0.cells (C - (n + 1))).toList.length = (C - (n + 1)) * 2 := by rw [Array.length_toList, size_zeroCells, hzl]
  rw [hrow] at hrun
  generalize (Builtin.zeroCells z0.cells (C - (n + 1))).toList = q at hrun hql
  go_enter Go.Proofs.Tryz.func100, Go.Proofs.Tryz.ntmps100
  go_wp2_with (at_builtin; refine Lib.wpList_append_run _ rfl _ _ _ _ rfl _ _ rfl rfl _ _ (hrun _) ?_)
  go_ret
  exact ⟨C, q, rfl, by first | rfl | (rw [List.append_assoc]; rfl), hge, hle, by simp only [List.length_append, hm, hX, hql]; omega⟩
set_option maxHeartbeats 4000000 in
set_option maxRecDepth 100000 in
theorem insSeries.endNil (w : World) (vb vc : Nat) (X : List Value) (hX : X.length = 2) (hXc : ∀ j v, X[j]? = some v → w.cell? ((⟨vb, 0, none⟩ : Addr).add j) = some v) :
    Calls Go.Proofs.Tryz.prog 100 #[.slice none 0 0, .int .i64 0, .slice (some ⟨vb, 0, none⟩) 1 vc] w fun e w' => ∃ c q, e = .returned (.slice (some ⟨w.heap.size, 0, none⟩) 1 c) ∧ w' = w.drew.alloc (.cells (X ++ q).toArray 73) ∧ 1 ≤ c ∧ c ≤ maxLen ∧ (X ++ q).length = c * 2 := by
  obtain ⟨i0, z0, hi0, hzs, hzb, hzz, hzl⟩ := insSeries.el w
  have hrun := fun ty => run_append_nil (P := Go.Proofs.Tryz.prog) w 26 ty 73 i0 z0 Go.Proofs.Tryz.underlying26 hi0 hzz ⟨vb, 0, none⟩ 1 vc X (by rw [hX, hzs]) hXc (by omega) (by omega) (by omega)
  have hge := grownCap_ge w 1 0 73
  have hle := grownCap_le_maxLen w 1 0 73 (by simp only [maxLen]; omega)
  generalize grownCap w 1 0 73 = C at hrun hge hle
  have hrow : (X.toArray ++ Builtin.zeroCells z0.cells (C - 1)) = (X ++ (Builtin.zeroCells z0.cells (C - 1)).toList).toArray := by apply Array.toList_inj.1; simp
  have hql : (Builtin.zeroCells z0.cells (C - 1)).toList.length = (C - 1) * 2 := by rw [Array.length_toList, size_zeroCells, hzl]
  rw [hrow] at hrun
  generalize (Builtin.zeroCells z0.cells (C - 1)).toList = q at hrun hql
  go_enter Go.Proofs.Tryz.func100, Go.Proofs.Tryz.ntmps100
  go_wp2_with (at_builtin; refine Lib.wpList_append_run _ rfl _ _ _ _ rfl _ _ rfl rfl _ _ (hrun _) ?_)
  go_ret
  exact ⟨C, q, rfl, rfl, hge, hle, by simp only [List.length_append, hX, hql]; omega⟩
set_option maxHeartbeats 4000000 in
set_option maxRecDepth 100000 in
theorem insSeries.shift (w : World) (g n cap i vb vc : Nat) (cc cv : Array Value) (ct tv : TypeId) (fz fv : Nat × Nat) (m q X : List Value) (hh : w.heap[g]? = some (.cells cc ct fz)) (hc : cc.toList = m ++ q) (hm : m.length = n * 2) (h1m : ∀ v ∈ m, v.oneCell' = true)
    (hX : X.length = 2) (hXc : ∀ j v, X[j]? = some v → w.cell? ((⟨vb, 0, none⟩ : Addr).add j) = some v) (h1 : ∀ v ∈ X, v.oneCell' = true) (hf : ∀ j, j < cc.size → ¬ (fz.1 ≤ j ∧ j < fz.2)) (hi : i < n) (hroom : n + 1 ≤ cap) (hcap : cap ≤ 9223372036854775807) (hcs : cc.size = cap * 2)
    (hvb : vb ≠ g) (hvh : w.heap[vb]? = some (.cells cv tv fv)) (hfv : ∀ j, j < cv.size + 1 → ¬ (fv.1 ≤ j ∧ j < fv.2)) :
    Calls Go.Proofs.Tryz.prog 100 #[.slice (some ⟨g, 0, none⟩) n cap, .int .i64 i, .slice (some ⟨vb, 0, none⟩) 1 vc] w fun e w' => e = .returned (.slice (some ⟨g, 0, none⟩) (n + 1) cap) ∧ w' = putB w.drew g (.cells (splice (splice cc.toList ((i + 1) * 2) (m.drop (i * 2))) (i * 2) X).toArray ct fz) := by
  obtain ⟨i0, z0, hi0, hzs, hzb, hzz, hzl⟩ := insSeries.el w
  have hz2 : ¬ ((i : Int) = (n : Int)) := by omega
  have mixed : Go.Proofs.Tryz.prog.follows .mixedOrders = true := by kernel_rfl
  have hgl : g < w.heap.size := lt_of_heap hh
  have hov : ∀ o lb cb, (callFunc 130 #[.slice (some ⟨vb, 0, none⟩) 1 vc, .slice (some ⟨g, o, none⟩) lb cb]).run Go.Proofs.Tryz.prog w = .ok (.value (.bool false)) w := fun o lb cb => by
    rw [run_callFunc_extern (fn := Go.Proofs.Tryz.f130) (f := 130) (by kernel_rfl) (by kernel_rfl) (by kernel_rfl) (by kernel_rfl) (e := Extern.SlicesOverlaps.overlaps #[26, 26] #[4]) (by kernel_rfl),
      Lib.run_overlaps_apart w 26 4 73 Go.Proofs.Tryz.underlying26 2 Go.Proofs.Tryz.sizeOf73 ⟨vb, 0, none⟩ ⟨g, o, none⟩ 1 vc lb cb hvb tv ct cv.size cc.size (by simp [World.shape?, hvh]) (by simp [World.shape?, hh]) (by omega)
        (by have := hfv 0 (by omega); simp [World.frozen?, hvh]; omega) (by have := hfv cv.size (by omega); simp [World.frozen?, hvh]; omega)]
    rfl
  have hone : ∀ v ∈ m.drop (i * 2), v.oneCell' = true := fun v hv => h1m v (List.mem_of_mem_drop hv)
  have hcell : ∀ j v, (m.drop (i * 2))[j]? = some v → w.cell? ((⟨g, i * 2, none⟩ : Addr).add j) = some v :=
    cells_at (d := ⟨g, i * 2, none⟩) (p := m.take (i * 2)) (q := q) rfl hh (by rw [hc, List.take_append_drop]) (by rw [List.length_take]; show _ = i * 2; omega)
  have hdl : (m.drop (i * 2)).length = (n - i) * 2 := by rw [List.length_drop, hm]; omega
  have hql : m.length + q.length = cc.size := by rw [← Array.length_toList, hc, List.length_append]
  have hcp1 : ∀ ty dc sc, (Builtin.copy_ #[26, 26] ty #[.slice (some ⟨g, (i + 1) * 2, none⟩) (n - i) dc, .slice (some ⟨g, i * 2, none⟩) (n + 1 - i) sc]).run Go.Proofs.Tryz.prog w.drew = .ok (goInt ((n - i : Nat) : Int)) (putB w.drew g (.cells (splice cc.toList ((i + 1) * 2) (m.drop (i * 2))).toArray ct fz)) := fun ty dc sc =>
    run_copy_put Go.Proofs.Tryz.underlying26 hi0 (by simp only [Nat.min_def]; split <;> omega) (by rw [hdl, hzs]) (show w.drew.heap[g]? = _ from hh) (fun j v h => hcell j v h) hone hf (by rw [hdl]; omega)
  obtain ⟨W1, hW1⟩ : ∃ W1, W1 = putB w.drew g (.cells (splice cc.toList ((i + 1) * 2) (m.drop (i * 2))).toArray ct fz) := ⟨_, rfl⟩
  have hl1 : (splice cc.toList ((i + 1) * 2) (m.drop (i * 2))).length = cc.size := by rw [splice_len (by rw [hdl, Array.length_toList]; omega), Array.length_toList]
  have hcp2 : ∀ (W : World), W.heap = W1.heap → ∀ ty dc, (Builtin.copy_ #[26, 26] ty #[.slice (some ⟨g, i * 2, none⟩) (n + 1 - i) dc, .slice (some ⟨vb, 0, none⟩) 1 vc]).run Go.Proofs.Tryz.prog W = .ok (goInt ((1 : Nat) : Int)) (putB W g (.cells (splice (splice cc.toList ((i + 1) * 2) (m.drop (i * 2))) (i * 2) X).toArray ct fz)) := fun W hW ty dc => by
    have hWg : W.heap[g]? = some (.cells (splice cc.toList ((i + 1) * 2) (m.drop (i * 2))).toArray ct fz) := by rw [hW, hW1]; exact putB_same hgl
    exact run_copy_put Go.Proofs.Tryz.underlying26 hi0 (by simp only [Nat.min_def]; split <;> omega) (by rw [hX, hzs]) hWg (fun j v h => by
      have h2 := hXc j v h
      rw [Addr.add_lit] at h2 ⊢
      rw [← h2]
      have hne : W.heap[vb]? = w.heap[vb]? := by rw [hW, hW1]; exact putB_other hvb
      simp only [World.cell?, hne]) h1 (fun j hj => hf j (Nat.lt_of_lt_of_eq hj hl1)) (Nat.le_trans (show i * 2 + X.length ≤ cc.size by rw [hX]; omega) (Nat.le_of_eq hl1.symm))
  rw [← hW1] at hcp1
  have hw1 : IntKind.i64.wrap ((i : Int) + 1) = (i : Int) + 1 := by rw [IntKind.wrap_i64]; omega
  have hb1 : (0 : Int) ≤ (i : Int) + 1 := by omega
  have hin : i ≤ n := by omega
  have htn : ((i : Int) + 1).toNat = i + 1 := by omega
  have hb2 : ¬ (cap = i + 1) := by omega
  have hb3 : (i : Int) ≤ (n : Int) + 1 := by omega
  have hb4 : ¬ (cap = i) := by omega
  go_enter Go.Proofs.Tryz.func100, Go.Proofs.Tryz.ntmps100
  go_wp2_with (simp only [hov])
  go_region_law_o (refine step_copy_runI rfl _ _ 26 26 rfl _ _ (by simp [Act.eval, Act.put]) (by simp [Act.eval, Act.put]) (hcp1 _ _ _) ?_)
  go_wp2_with (at_builtin; refine wpList_copy_runI _ rfl _ _ 26 26 rfl _ _ rfl rfl (hcp2 _ rfl _ _) ?_)
  go_ret
  exact ⟨rfl, by first | (rw [hW1, putB_putB]; done) | rw [hc, putB_putB]⟩
set_option maxHeartbeats 4000000 in
set_option maxRecDepth 100000 in
theorem insSeries.midGrow (w : World) (g n cap i vb vc : Nat) (m X : List Value) (hm : m.length = n * 2) (hmc : ∀ j v, m[j]? = some v → w.cell? ((⟨g, 0, none⟩ : Addr).add j) = some v) (h1m : ∀ v ∈ m, v.oneCell' = true) (hX : X.length = 2) (hXc : ∀ j v, X[j]? = some v → w.cell? ((⟨vb, 0, none⟩ : Addr).add j) = some v) (h1 : ∀ v ∈ X, v.oneCell' = true)
    (hi : i < n) (hroom : cap < n + 1) (hnc : n ≤ cap) (hn : n ≤ 1000000) (hgl : g < w.heap.size) (hvl : vb < w.heap.size) :
    Calls Go.Proofs.Tryz.prog 100 #[.slice (some ⟨g, 0, none⟩) n cap, .int .i64 i, .slice (some ⟨vb, 0, none⟩) 1 vc] w fun e w' => ∃ c q, e = .returned (.slice (some ⟨w.heap.size, 0, none⟩) (n + 1) c) ∧ n + 1 ≤ c ∧ c ≤ maxLen ∧ ((m.take (i * 2) ++ X ++ m.drop (i * 2)) ++ q).length = c * 2 ∧
      w'.os = w.os ∧ w'.tape = w.tape ∧ w'.output = w.output ∧ w'.heap.size = w.heap.size + 1 ∧ (∀ k, k < w.heap.size → w'.heap[k]? = w.heap[k]?) ∧ w'.heap[w.heap.size]? = some (.cells ((m.take (i * 2) ++ X ++ m.drop (i * 2)) ++ q).toArray 73 (0, 0)) := by
  obtain ⟨i0, z0, hi0, hzs, hzb, hzz, hzl⟩ := insSeries.el w
  have hz2 : ¬ ((i : Int) = (n : Int)) := by omega
  have hz3 : (cap : Int) < (n : Int) + 1 := by omega
  have mixed : Go.Proofs.Tryz.prog.follows .mixedOrders = true := by kernel_rfl
  have hby : (n + 1) * i0.bytes ≤ 140737488355328 := Nat.le_trans (Nat.mul_le_mul_left _ hzb) (by omega)
  have hby2 : (n + 1 - i) * i0.bytes ≤ 140737488355328 := Nat.le_trans (Nat.mul_le_mul_right _ (by omega)) hby
  have hkk : (n : Int) + 1 - (i : Int) = ((n + 1 - i : Nat) : Int) := by omega
  have hik : i + (n + 1 - i) = n + 1 := by omega
  have hold : (Builtin.firstCells i0.size i (.slice (some ⟨g, 0, none⟩) i cap)).run Go.Proofs.Tryz.prog w.drew = .ok (m.take (i * 2)).toArray w.drew :=
    run_firstCells_some w.drew i0.size i ⟨g, 0, none⟩ i cap (m.take (i * 2)) (by rw [List.length_take, hm, hzs]; omega) (fun j v hj => by
      rw [List.getElem?_take] at hj
      split at hj
      · exact hmc j v hj
      · cases hj)
  have hrz : ∀ ty, ∃ C, n + 1 ≤ C ∧ C ≤ maxLen ∧ True := fun _ => ⟨n + 1, Nat.le_refl _, by simp only [maxLen]; omega, trivial⟩
  have hge := grownCap_ge w (n + 1) cap 73
  have hle := grownCap_le_maxLen w (n + 1) cap 73 (by simp only [maxLen]; omega)
  have hrun : ∀ ty, (Builtin.append_ #[26, 3] ty #[.slice (some ⟨g, 0, none⟩) i cap, .int .i64 ((n : Int) + 1 - (i : Int))]).run Go.Proofs.Tryz.prog w =
      .ok (.slice (some ⟨w.heap.size, 0, none⟩) (n + 1) (grownCap w (n + 1) cap 73)) (w.drew.alloc (.cells ((m.take (i * 2)).toArray ++ Builtin.zeroCells z0.cells (n + 1 - i) ++ Builtin.zeroCells z0.cells (grownCap w (n + 1) cap 73 - (n + 1))) 73)) := fun ty => by
    have h := Lib.run_append_grow_zeros w 26 3 ty 73 i0 z0 .i64 .i64 Go.Proofs.Tryz.underlying26 Go.Proofs.Tryz.underlying3 hi0 hzz (some ⟨g, 0, none⟩) i cap (m.take (i * 2)) hold (n + 1 - i) (by omega) (by omega) (by omega) (by omega) (by omega) (by rw [hik]; exact growslice_fits hroom hby)
    rw [hik] at h
    rw [hkk]
    exact h
  generalize grownCap w (n + 1) cap 73 = C at hrun hge hle
  have hrow : ((m.take (i * 2)).toArray ++ Builtin.zeroCells z0.cells (n + 1 - i) ++ Builtin.zeroCells z0.cells (C - (n + 1))) = (m.take (i * 2) ++ ((Builtin.zeroCells z0.cells (n + 1 - i)).toList ++ (Builtin.zeroCells z0.cells (C - (n + 1))).toList)).toArray := by apply Array.toList_inj.1; simp
  have hql : ((Builtin.zeroCells z0.cells (n + 1 - i)).toList ++ (Builtin.zeroCells z0.cells (C - (n + 1))).toList).length = (C - i) * 2 := by rw [List.length_append, Array.length_toList, Array.length_toList, size_zeroCells, size_zeroCells, hzl]; omega
  rw [hrow] at hrun
  generalize (Builtin.zeroCells z0.cells (n + 1 - i)).toList ++ (Builtin.zeroCells z0.cells (C - (n + 1))).toList = Z at hrun hql
  clear hrow hrz
  obtain ⟨ROW, hROW⟩ : ∃ ROW, ROW = m.take (i * 2) ++ Z := ⟨_, rfl⟩
  rw [← hROW] at hrun
  have htl : (m.take (i * 2)).length = i * 2 := by rw [List.length_take, hm]; omega
  have hdl : (m.drop (i * 2)).length = (n - i) * 2 := by rw [List.length_drop, hm]; omega
  have hRl : ROW.length = C * 2 := by rw [hROW, List.length_append, htl, hql]; omega
  obtain ⟨W1, hW1⟩ : ∃ W1, W1 = w.drew.alloc (.cells ROW.toArray 73) := ⟨_, rfl⟩
  rw [← hW1] at hrun
  have hN1 : W1.heap[w.heap.size]? = some (.cells ROW.toArray 73 (0, 0)) := by rw [hW1]; exact alloc_new w.drew _
  have hO1 : ∀ k, k < w.heap.size → W1.heap[k]? = w.heap[k]? := fun k hk => by rw [hW1]; exact alloc_old w.drew _ hk
  have hs1 : W1.heap.size = w.heap.size + 1 := by rw [hW1]; exact alloc_sz w.drew _
  have hNl : w.heap.size < W1.heap.size := by omega
  have hcpA : ∀ (W : World), W.heap = W1.heap → ∀ ty dc, (Builtin.copy_ #[26, 26] ty #[.slice (some ⟨w.heap.size, i * 2, none⟩) (n + 1 - i) dc, .slice (some ⟨vb, 0, none⟩) 1 vc]).run Go.Proofs.Tryz.prog W = .ok (goInt ((1 : Nat) : Int)) (putB W w.heap.size (.cells (splice ROW (i * 2) X).toArray 73 (0, 0))) := fun W hW ty dc =>
    run_copy_put Go.Proofs.Tryz.underlying26 hi0 (by simp only [Nat.min_def]; split <;> omega) (by rw [hX, hzs]) (by rw [hW]; exact hN1) (fun j v h => by
      have h2 := hXc j v h
      rw [Addr.add_lit] at h2 ⊢
      rw [← h2]
      have hne : W.heap[vb]? = w.heap[vb]? := by rw [hW]; exact hO1 _ hvl
      simp only [World.cell?, hne]) h1 (fun j _ h => by simp at h) (by show i * 2 + X.length ≤ ROW.length; omega)
  have hl1 : (splice ROW (i * 2) X).length = C * 2 := by rw [splice_len (by omega), hRl]
  obtain ⟨W2, hW2⟩ : ∃ W2, W2 = putB W1 w.heap.size (.cells (splice ROW (i * 2) X).toArray 73 (0, 0)) := ⟨_, rfl⟩
  have hN2 : W2.heap[w.heap.size]? = some (.cells (splice ROW (i * 2) X).toArray 73 (0, 0)) := by rw [hW2]; exact putB_same hNl
  have hO2 : ∀ k, k < w.heap.size → W2.heap[k]? = w.heap[k]? := fun k hk => by rw [hW2, putB_other (by omega)]; exact hO1 k hk
  have hcpB : ∀ (W : World), W.heap = W2.heap → ∀ ty dc sc, (Builtin.copy_ #[26, 26] ty #[.slice (some ⟨w.heap.size, (i + 1) * 2, none⟩) (n - i) dc, .slice (some ⟨g, i * 2, none⟩) (n - i) sc]).run Go.Proofs.Tryz.prog W = .ok (goInt ((n - i : Nat) : Int)) (putB W w.heap.size (.cells (splice (splice ROW (i * 2) X) ((i + 1) * 2) (m.drop (i * 2))).toArray 73 (0, 0))) := fun W hW ty dc sc =>
    run_copy_put Go.Proofs.Tryz.underlying26 hi0 (by simp only [Nat.min_def]; split <;> omega) (by rw [hdl, hzs]) (by rw [hW]; exact hN2) (fun j v h => by
      rw [List.getElem?_drop] at h
      have h2 := hmc (i * 2 + j) v h
      rw [Addr.add_lit] at h2 ⊢
      rw [← h2]
      have hne : W.heap[g]? = w.heap[g]? := by rw [hW]; exact hO2 _ hgl
      simp only [World.cell?, hne, Nat.zero_add]) (fun v hv => h1m v (List.mem_of_mem_drop hv)) (fun j _ h => by simp at h) (Nat.le_trans (show (i + 1) * 2 + (m.drop (i * 2)).length ≤ C * 2 by rw [hdl]; omega) (Nat.le_of_eq hl1.symm))
  have hfin : splice (splice ROW (i * 2) X) ((i + 1) * 2) (m.drop (i * 2)) = (m.take (i * 2) ++ X ++ m.drop (i * 2)) ++ Z.drop (X.length + (m.drop (i * 2)).length) := by
    rw [hROW, show (i + 1) * 2 = i * 2 + X.length by rw [hX]; omega]
    exact splice_fill htl.symm (by rw [hX, hdl, hql]; omega)
  have hw1 : IntKind.i64.wrap ((i : Int) + 1) = (i : Int) + 1 := by rw [IntKind.wrap_i64]; omega
  have hb1 : (0 : Int) ≤ (i : Int) + 1 := by omega
  have hin : i ≤ n := by omega
  have htn : ((i : Int) + 1).toNat = i + 1 := by omega
  have hb3 : (i : Int) ≤ (n : Int) := by omega
  have hC63 : C ≤ 9223372036854775807 := by simp only [maxLen] at hle; omega
  have hb2 : ¬ (C = i + 1) := by omega
  have hb4 : ¬ (cap = i) := by omega
  have hb5 : ¬ (C = i) := by omega
  have hW2' : W2.heap = (putB (w.alloc (.cells ROW.toArray 73)).drew w.heap.size (.cells (splice ROW (i * 2) X).toArray 73 (0, 0))).drew.heap := by rw [hW2, hW1]; rfl
  have hW1' : (w.alloc (.cells ROW.toArray 73)).drew.heap = W1.heap := by rw [hW1]; rfl
  have hres' : ∀ W : World, W.heap = (putB W2 w.heap.size (.cells (splice (splice ROW (i * 2) X) ((i + 1) * 2) (m.drop (i * 2))).toArray 73 (0, 0))).heap → W.os = w.os → W.tape = w.tape → W.output = w.output → True := fun _ _ _ _ _ => trivial
  rw [hW1] at hrun
  have hP : ∀ (W : World) (o : Obj), W.heap = W2.heap → (putB W w.heap.size o).heap = (putB W2 w.heap.size o).heap := fun W o h => by simp only [putB, h]
  have hres : ∀ W : World, W.heap = (putB W2 w.heap.size (.cells (splice (splice ROW (i * 2) X) ((i + 1) * 2) (m.drop (i * 2))).toArray 73 (0, 0))).heap → W.os = w.os → W.tape = w.tape → W.output = w.output → ∃ q, ((m.take (i * 2) ++ X ++ m.drop (i * 2)) ++ q).length = C * 2 ∧
      W.os = w.os ∧ W.tape = w.tape ∧ W.output = w.output ∧ W.heap.size = w.heap.size + 1 ∧ (∀ k, k < w.heap.size → W.heap[k]? = w.heap[k]?) ∧ W.heap[w.heap.size]? = some (.cells ((m.take (i * 2) ++ X ++ m.drop (i * 2)) ++ q).toArray 73 (0, 0)) := fun W hW a1 a2 a3 => by
    refine ⟨Z.drop (X.length + (m.drop (i * 2)).length), ?_, a1, a2, a3, ?_, fun k hk => ?_, ?_⟩
    · rw [← hfin, splice_len (by rw [hl1, hdl]; omega), hl1]
    · rw [hW, putB_sz, hW2, putB_sz, hs1]
    · rw [hW, putB_other (by omega)]; exact hO2 k hk
    · rw [hW, putB_same (by rw [hW2, putB_sz]; exact hNl), hfin]
  have hos1 : W1.os = w.os ∧ W1.tape = w.tape ∧ W1.output = w.output := by rw [hW1]; exact ⟨rfl, rfl, rfl⟩
  clear hW1 hW2 hROW hres' hfin hold hmc hXc hik hkk hby hby2
  go_enter Go.Proofs.Tryz.func100, Go.Proofs.Tryz.ntmps100
  go_wp2_with (first
    | (at_builtin; refine Lib.wpList_append_run _ rfl _ _ _ _ rfl _ _ rfl rfl _ _ (hrun _) ?_)
    | (at_builtin; refine wpList_copy_runI _ rfl _ _ 26 26 rfl _ _ rfl rfl (hcpA _ hW1' _ _) ?_))
  go_region_law_o (refine step_copy_runI rfl _ _ 26 26 rfl _ _ (by simp [Act.eval, Act.put]) (by simp [Act.eval, Act.put]) (hcpB _ hW2'.symm _ _ _) ?_)
  go_wp2
  go_ret
  obtain ⟨q, r1, r2⟩ := hres _ (hP _ _ hW2'.symm) rfl rfl rfl
  refine ⟨C, q, rfl, hge, hle, ?_⟩
  have r := And.intro r1 r2
  simpa only [List.append_assoc] using r
end
theorem slices_Insert_Series.ok : CtrOK Go.Proofs.Tryz.prog gl slices_Insert_Series.spec := by
  refine fun n => ⟨⟨Go.Proofs.Tryz.f100, by kernel_rfl, by kernel_rfl, by decide +kernel⟩, ?_⟩
  intro inst
  rintro ⟨a0, a1, a2, ⟨⟩⟩ y hy
  have hy := hold_some hy
  cases hb : (decide (0 ≤ a1) && decide (a1 ≤ (a0.length : Int)) && decide (a0.length ≤ 1000000) && Nat.beq a2.length 1) with
  | false => rw [hb] at hy; cases hy
  | true =>
    rw [hb] at hy
    obtain rfl := Option.some.inj hy
    simp only [Bool.and_eq_true, decide_eq_true_eq, Nat.beq_eq] at hb
    obtain ⟨⟨⟨b0, b1⟩, b2⟩, b3⟩ := hb
    obtain ⟨i, rfl⟩ : ∃ i : Nat, a1 = (i : Int) := ⟨a1.toNat, (Int.toNat_of_nonneg b0).symm⟩
    have b1 : i ≤ a0.length := Int.ofNat_le.1 b1
    obtain ⟨x, rfl⟩ : ∃ x, a2 = [x] := List.length_eq_one_iff.1 b3
    have hz : U.sz ((.pair (.sl false (.pair .str (.pair .str .unit))) (.pair (.sl false (.pair (.int .i64) (.pair (.int .i64) .unit))) .unit))) = 2 := rfl
    intro w vs S L harg _ hL hSL hG
    change ArgsRep w [Arg.g (.sl false ((.pair (.sl false (.pair .str (.pair .str .unit))) (.pair (.sl false (.pair (.int .i64) (.pair (.int .i64) .unit))) .unit)))) a0, Arg.v (.int .i64) (i : Int), Arg.g (.sl false ((.pair (.sl false (.pair .str (.pair .str .unit))) (.pair (.sl false (.pair (.int .i64) (.pair (.int .i64) .unit))) .unit)))) [x]] vs S L at harg
    unfold ArgsRep at harg
    obtain ⟨v0, vr, S1, S2, L1, L2, rfl, rfl, rfl, h1, harg⟩ := harg
    unfold ArgsRep at harg
    obtain ⟨v1, vr, S3, S4, L3, L4, rfl, rfl, rfl, h2, harg⟩ := harg
    unfold ArgsRep at harg
    obtain ⟨v2, vr, S5, S6, L5, L6, rfl, rfl, rfl, h3, harg⟩ := harg
    unfold ArgsRep at harg
    obtain ⟨rfl, rfl, rfl⟩ := harg
    unfold ArgRep at h1 h2 h3
    obtain ⟨_, rfl, cs1, rfl, c1, rfl, h1⟩ := h1
    obtain ⟨_, ⟨cs2, rfl, rfl, rfl⟩, rfl⟩ := h2
    obtain ⟨_, rfl, cs3, rfl, c3, rfl, h3⟩ := h3
    have h1 := h1.resolve_right (fun h => bare_no h)
    have h3 := h3.resolve_right (fun h => bare_no h)
    rw [hz] at h1 h3
    have key : Calls Go.Proofs.Tryz.prog 100 #[c1, .int .i64 i, c3] w fun e w' => ∃ v', e = .returned v' ∧ InsFin w w' ((.pair (.sl false (.pair .str (.pair .str .unit))) (.pair (.sl false (.pair (.int .i64) (.pair (.int .i64) .unit))) .unit))) (insL a0 i x) v' (L1 ++ ([] ++ (L5 ++ []))) := by
      rcases h3 with ⟨_, h, _⟩ | ⟨⟨vb, vo, vsp⟩, vc, cv, tv, fv, pv, mv, qv, Gv, rfl, hsp3, _, hl3, hh3, hc3, hp3, hr3, rfl, how3⟩
      · cases h
      obtain ⟨hof3, hfz3, hcs3, hcm3⟩ := how3 rfl
      dsimp only at hsp3 hof3 hh3 hp3
      subst hsp3 hof3
      obtain rfl : pv = [] := List.eq_nil_of_length_eq_zero hp3
      obtain ⟨X, d3, GX, G3, rfl, rfl, hx, rfl, rfl⟩ := hr3
      have hX : X.length = 2 := by rw [Rep.length hx]; exact hz
      have hXc : ∀ j v, X[j]? = some v → w.cell? ((⟨vb, 0, none⟩ : Addr).add j) = some v := cells_at (d := ⟨vb, 0, none⟩) (p := []) (q := qv) rfl hh3 (by rw [hc3]; simp) rfl
      have hX1 := Rep.one hx
      have hvl : vb < w.heap.size := lt_of_heap hh3
      simp only [List.append_nil, List.nil_append] at hL ⊢
      obtain ⟨nA, nB, nC⟩ := List.nodup_append.1 hL
      obtain ⟨nB1, nB2⟩ := List.nodup_cons.1 nB
      have hGXl : ∀ b ∈ GX, b < w.heap.size := Rep.block_lt hx
      rcases h1 with ⟨rfl, rfl, rfl⟩ | ⟨⟨g, go, gsp⟩, cap, cc, ct, fz, pp, m, q, G, rfl, hsp, _, hlc, hh, hc, hp, hr, rfl, how⟩
      · obtain rfl : i = 0 := by simpa using b1
        refine (insSeries.endNil w vb vc X hX hXc).mono ?_
        rintro e w' ⟨C, q, rfl, rfl, k1, k2, k3⟩
        refine ⟨_, rfl, ins_row (l := []) (x := x) (i := 0) (g := w.heap.size) (cap := C) (cc' := (X ++ q).toArray) (fz := (0, 0)) (m := []) (q' := q) (X := X) (G := []) (GX := GX) (Nat.zero_le _) k1 (alloc_new w.drew _) (by simp) ⟨rfl, rfl⟩ hx (fun j _ h => by simp at h) (by rw [hz]; simpa using k3) k2 (fun h => absurd h (Nat.lt_irrefl _)) (fun b hb => by simp at hb; simp [hb]) (fun hb => by simp at hb; exact absurd (hGXl _ hb) (Nat.lt_irrefl _)) (by simpa using nB2) (fun k hk _ => alloc_old w.drew _ hk) (by rw [alloc_sz]; exact Nat.le_succ _) rfl rfl rfl⟩
      · obtain ⟨hof, hfz, hcs, hcm⟩ := how rfl
        dsimp only at hsp hof hh hp
        subst hsp hof
        obtain rfl : pp = [] := List.eq_nil_of_length_eq_zero hp
        rw [List.nil_append] at hc
        have hm : m.length = a0.length * 2 := by rw [RepL.length (fun _ _ _ => Rep.length) hr, hz]
        have hmc : ∀ j v, m[j]? = some v → w.cell? ((⟨g, 0, none⟩ : Addr).add j) = some v := cells_at (d := ⟨g, 0, none⟩) (p := []) (q := q) rfl hh (by rw [hc]; simp) rfl
        have hm1 := RepL.one hr
        have hgl : g < w.heap.size := lt_of_heap hh
        obtain ⟨nA1, nA2⟩ := List.nodup_cons.1 nA
        have hGl : ∀ b ∈ G, b < w.heap.size := RepL.block_lt (fun h => Rep.block_lt h) hr
        have hvg : vb ≠ g := fun e => nC g (List.mem_cons_self ..) vb (List.mem_cons_self ..) e.symm
        have hnd : (G ++ GX).Nodup := by
          rw [List.nodup_append]
          exact ⟨nA2, nB2, fun a ha b hb => nC a (List.mem_cons_of_mem _ ha) b (List.mem_cons_of_mem _ hb)⟩
        have hGL : ∀ b ∈ G ++ GX, b ∈ g :: G ++ vb :: GX := fun b hb => by
          simp only [List.mem_append, List.mem_cons] at hb ⊢
          rcases hb with hb | hb <;> simp [hb]
        have hng : g ∉ G ++ GX := fun hb => by
          rcases List.mem_append.1 hb with hb | hb
          · exact nA1 hb
          · exact nC g (List.mem_cons_self ..) g (List.mem_cons_of_mem _ hb) rfl
        have hnN : w.heap.size ∉ G ++ GX := fun hb => by
          rcases List.mem_append.1 hb with hb | hb
          · exact Nat.lt_irrefl _ (hGl _ hb)
          · exact Nat.lt_irrefl _ (hGXl _ hb)
        have hf : ∀ j, j < cc.size → ¬ (fz.1 ≤ j ∧ j < fz.2) := fun j hj => hfz j (by omega)
        have hc63 : cap ≤ 9223372036854775807 := by simp only [maxLen] at hcm; omega
        have hccl : cc.toList.length = cc.size := Array.length_toList
        have hcl : m.length + q.length = cap * 2 := by rw [← hcs, ← Array.length_toList, hc, List.length_append]
        rcases Nat.eq_or_lt_of_le b1 with rfl | hi
        · rcases Nat.lt_or_ge cap (a0.length + 1) with hg | hg
          · refine (insSeries.endGrow w g a0.length cap vb vc m X hm hmc hX hXc hg hlc b2).mono ?_
            rintro e w' ⟨C, q', rfl, rfl, k1, k2, k3⟩
            refine ⟨_, rfl, ins_row (l := a0) (x := x) (i := a0.length) (g := w.heap.size) (cap := C) (cc' := (m ++ X ++ q').toArray) (fz := (0, 0)) (m := m) (q' := q') (X := X) (G := G) (GX := GX) (Nat.le_refl _) k1 (alloc_new w.drew _) (by rw [hz, ← hm, List.take_of_length_le (Nat.le_refl _), List.drop_eq_nil_of_le (Nat.le_refl _), List.append_nil]) hr hx (fun j _ h => by simp at h) (by rw [hz]; simpa using k3) k2 (fun h => absurd h (Nat.lt_irrefl _)) hGL hnN hnd (fun k hk _ => alloc_old w.drew _ hk) (by rw [alloc_sz]; exact Nat.le_succ _) rfl rfl rfl⟩
          · refine (insSeries.endRoom w g a0.length cap vb vc cc ct fz X hh hX hXc hX1 hf hg hc63 hcs).mono ?_
            rintro e w' ⟨rfl, rfl⟩
            have hsl : (splice cc.toList (a0.length * 2) X).length = cc.size := by rw [splice_len (by omega)]; exact hccl
            refine ⟨_, rfl, ins_row (l := a0) (x := x) (i := a0.length) (g := g) (cap := cap) (cc' := (splice cc.toList (a0.length * 2) X).toArray) (fz := fz) (m := m) (q' := q.drop X.length) (X := X) (G := G) (GX := GX) (Nat.le_refl _) hg (putB_same hgl) (by rw [hz, hc]; exact splice_end hm.symm (by omega)) hr hx (fun j hj => hfz j (by rw [List.size_toArray, hsl] at hj; exact hj)) (by rw [hz, List.size_toArray, hsl]; exact hcs) hcm (fun _ => List.mem_append_left _ (List.mem_cons_self ..)) hGL hng hnd (fun k _ hk => putB_other hk) (by rw [putB_sz]; exact Nat.le_refl _) rfl rfl rfl⟩
        · rcases Nat.lt_or_ge cap (a0.length + 1) with hg | hg
          · refine (insSeries.midGrow w g a0.length cap i vb vc m X hm hmc hm1 hX hXc hX1 hi hg hlc b2 hgl hvl).mono ?_
            rintro e w' ⟨C, q', rfl, k1, k2, k3, k4, k5, k6, k7, k8, k9⟩
            refine ⟨_, rfl, ins_row (l := a0) (x := x) (i := i) (g := w.heap.size) (cap := C) (fz := (0, 0)) (m := m) (q' := q') (X := X) (G := G) (GX := GX) b1 k1 k9 (by rw [hz]) hr hx (fun j _ h => by simp at h) (by rw [hz]; simpa using k3) k2 (fun h => absurd h (Nat.lt_irrefl _)) hGL hnN hnd (fun k hk _ => k8 k hk) (by omega) k4 k5 k6⟩
          · refine (insSeries.shift w g a0.length cap i vb vc cc cv ct tv fz fv m q X hh hc hm hm1 hX hXc hX1 hf hi hg hc63 hcs hvg hh3 (fun j hj => hfz3 j (by omega))).mono ?_
            rintro e w' ⟨rfl, rfl⟩
            have hdl : (m.drop (i * 2)).length = (a0.length - i) * 2 := by rw [List.length_drop, hm]; omega
            have hs1 : (splice cc.toList ((i + 1) * 2) (m.drop (i * 2))).length = cc.size := by rw [splice_len (by omega)]; exact hccl
            have hsl : (splice (splice cc.toList ((i + 1) * 2) (m.drop (i * 2))) (i * 2) X).length = cc.size := by rw [splice_len (by omega)]; exact hs1
            refine ⟨_, rfl, ins_row (l := a0) (x := x) (i := i) (g := g) (cap := cap) (cc' := (splice (splice cc.toList ((i + 1) * 2) (m.drop (i * 2))) (i * 2) X).toArray) (fz := fz) (m := m) (q' := q.drop 2) (X := X) (G := G) (GX := GX) b1 hg (putB_same hgl) (by rw [hz, hc, show (i + 1) * 2 = i * 2 + 2 by omega]; exact splice_shift (by omega) hX (by omega)) hr hx (fun j hj => hfz j (by rw [List.size_toArray, hsl] at hj; exact hj)) (by rw [hz, List.size_toArray, hsl]; exact hcs) hcm (fun _ => List.mem_append_left _ (List.mem_cons_self ..)) hGL hng hnd (fun k _ hk => putB_other hk) (by rw [putB_sz]; exact Nat.le_refl _) rfl rfl rfl⟩
    refine key.mono ?_
    rintro e w' ⟨v', rfl, F, hs, hnd, hblk, hos, htp, hot, hsz, hfr⟩
    have hval : (a0.take (i : Int).toNat ++ [x] ++ a0.drop (i : Int).toNat) = insL a0 i x := by simp [insL]
    refine ⟨[v'], F, [], rfl, ⟨[v'], [], F, [], rfl, by simp, rfl, ⟨v', rfl, .inl ?_⟩, rfl, rfl⟩, ?_, by simpa using hnd, by simpa using hblk, hos, htp, hot, hsz, hfr⟩
    · show SlRep w' true false (U.sz ((.pair (.sl false (.pair .str (.pair .str .unit))) (.pair (.sl false (.pair (.int .i64) (.pair (.int .i64) .unit))) .unit)))) (Rep w' true ((.pair (.sl false (.pair .str (.pair .str .unit))) (.pair (.sl false (.pair (.int .i64) (.pair (.int .i64) .unit))) .unit)))) (a0.take (i : Int).toNat ++ [x] ++ a0.drop (i : Int).toNat) v' F
      rw [hval]; exact hs
    · change OutsRep _ w' [Arg.g (.sl false ((.pair (.sl false (.pair .str (.pair .str .unit))) (.pair (.sl false (.pair (.int .i64) (.pair (.int .i64) .unit))) .unit)))) a0, Arg.v (.int .i64) (i : Int), Arg.g (.sl false ((.pair (.sl false (.pair .str (.pair .str .unit))) (.pair (.sl false (.pair (.int .i64) (.pair (.int .i64) .unit))) .unit)))) [x]] _ _ _
      simp only [OutsRep, OutRep]
      exact ⟨_, _, [], [], [], [], rfl, rfl, rfl, ⟨rfl, rfl⟩, _, _, [], [], [], [], rfl, rfl, rfl, ⟨rfl, rfl⟩, _, _, [], [], [], [], rfl, rfl, rfl, ⟨rfl, rfl⟩, rfl, rfl⟩


/-! loop.example/g00039/impl.findSample$1 -/
def impl_findSample_1.T : List Ctr := [cmp_Compare_int.spec]
def impl_findSample_1.md : List (Nat × List Md) := []
noncomputable def impl_findSample_1.F : Fun := ⟨(Go.Proofs.Tryz.f133.body).getD .skip, [.v (.pair (.int .i64) (.pair (.int .i64) .unit)), .v (.int .i64)], [(.tmp 4, (.int .i64))], [], 0, []⟩
inductive impl_findSample_1.Pt where
  | p0 (a0 : (Int) × ((Int) × (Unit))) (a1 : Int)
def impl_findSample_1.lb : impl_findSample_1.Pt → Nat
  | .p0 _ _ => 0
def impl_findSample_1.st : impl_findSample_1.Pt → St
  | .p0 a0 a1 => enter [.v (.pair (.int .i64) (.pair (.int .i64) .unit)) a0, .v (.int .i64) a1] 0
def impl_findSample_1.step (n : Nat) (K : impl_findSample_1.Pt → Option (Tup [(.int .i64)])) : impl_findSample_1.Pt → Option (Tup [(.int .i64)])
  | .p0 a0 a1 => (cmp_Compare_int n a0.1 a1).bind fun (r5 : Int) => some r5
def impl_findSample_1 (n : Nat) (a0 : (Int) × ((Int) × (Unit))) (a1 : Int) : Option (Tup [(.int .i64)]) := goRec impl_findSample_1.step n (.p0 a0 a1)
def impl_findSample_1.spec : Ctr := ⟨133, [.v (.pair (.int .i64) (.pair (.int .i64) .unit)), .v (.int .i64)], [(.int .i64)], [], none, fun n x => impl_findSample_1 n x.1 x.2.1⟩
theorem impl_findSample_1.seg_eq : SegEq ty gl impl_findSample_1.F impl_findSample_1.md impl_findSample_1.T impl_findSample_1.spec impl_findSample_1.lb impl_findSample_1.st impl_findSample_1.step := by
  intro n goto y; cases y <;> kernel_rfl
theorem impl_findSample_1.text : Text Go.Proofs.Tryz.prog impl_findSample_1.F impl_findSample_1.spec := textOf Go.Proofs.Tryz.f133
theorem impl_findSample_1.ok : CtrOK Go.Proofs.Tryz.prog gl impl_findSample_1.spec :=
  ctr_okS tabs impl_findSample_1.text impl_findSample_1.seg_eq (fun n x => ⟨.p0 x.1 x.2.1, rfl, rfl, rfl⟩) (consC cmp_Compare_int.ok (nilC))

/-! slices.BinarySearchFunc[[]loop.example/g00039/impl.Sample,loop.example/g00039/impl.Sample,int] -/
def slices_BinarySearchFunc_int_impl_findSample_1.T : List Ctr := [impl_findSample_1.spec]
def slices_BinarySearchFunc_int_impl_findSample_1.md : List (Nat × List Md) := []
noncomputable def slices_BinarySearchFunc_int_impl_findSample_1.F : Fun := ⟨(Go.Proofs.Tryz.f132.body).getD .skip, [.v (.sl false (.pair (.int .i64) (.pair (.int .i64) .unit))), .v (.int .i64), .fn 133 []], [(.tmp 6, (.int .i64)), (.tmp 7, .bool)], [], 0, [(9, ⟨[0, 1, 2, 8, 9, 10], [], [], false⟩)]⟩
inductive slices_BinarySearchFunc_int_impl_findSample_1.Pt where
  | p0 (a0 : List ((Int) × ((Int) × (Unit)))) (a1 : Int)
  | p9 (y1 : List ((Int) × ((Int) × (Unit)))) (y2 : Int) (y3 : Int) (y4 : Int) (y5 : Int)
def slices_BinarySearchFunc_int_impl_findSample_1.lb : slices_BinarySearchFunc_int_impl_findSample_1.Pt → Nat
  | .p0 _ _ => 0
  | .p9 _ _ _ _ _ => 9
def slices_BinarySearchFunc_int_impl_findSample_1.st : slices_BinarySearchFunc_int_impl_findSample_1.Pt → St
  | .p0 a0 a1 => enter [.v (.sl false (.pair (.int .i64) (.pair (.int .i64) .unit))) a0, .v (.int .i64) a1, .fn 133 []] 0
  | .p9 y1 y2 y3 y4 y5 => ⟨[(0, .im (.sl false (.pair (.int .i64) (.pair (.int .i64) .unit))) y1), (1, .im (.int .i64) y2), (2, .fn 133 []), (8, .im (.int .i64) y3), (9, .im (.int .i64) y4), (10, .im (.int .i64) y5)], [], 0⟩
def slices_BinarySearchFunc_int_impl_findSample_1.step (n : Nat) (K : slices_BinarySearchFunc_int_impl_findSample_1.Pt → Option (Tup [(.int .i64), .bool])) : slices_BinarySearchFunc_int_impl_findSample_1.Pt → Option (Tup [(.int .i64), .bool])
  | .p0 a0 a1 => K (.p9 a0 a1 ((List.length a0) : Int) (0 : Int) ((List.length a0) : Int))
  | .p9 y1 y2 y3 y4 y5 => cond (decide (y4 < y5)) (cond (inB (IntKind.wrap .i64 (shr .u64 (IntKind.wrap .u64 (IntKind.wrap .i64 (y4 + y5))) (1 : Int))) (List.length y1)) ((impl_findSample_1 n (List.getD y1 (Int.toNat (IntKind.wrap .i64 (shr .u64 (IntKind.wrap .u64 (IntKind.wrap .i64 (y4 + y5))) (1 : Int)))) default) y2).bind fun (r8 : Int) => cond (decide (r8 < (0 : Int))) (K (.p9 y1 y2 y3 (IntKind.wrap .i64 ((IntKind.wrap .i64 (shr .u64 (IntKind.wrap .u64 (IntKind.wrap .i64 (y4 + y5))) (1 : Int))) + (1 : Int))) y5)) (K (.p9 y1 y2 y3 y4 (IntKind.wrap .i64 (shr .u64 (IntKind.wrap .u64 (IntKind.wrap .i64 (y4 + y5))) (1 : Int)))))) (none)) (cond (decide (y4 < y3)) (cond (inB y4 (List.length y1)) ((impl_findSample_1 n (List.getD y1 (Int.toNat y4) default) y2).bind fun (r8 : Int) => some (y4, (decide (r8 = (0 : Int))))) (none)) (some (y4, false)))
def slices_BinarySearchFunc_int_impl_findSample_1 (n : Nat) (a0 : List ((Int) × ((Int) × (Unit)))) (a1 : Int) : Option (Tup [(.int .i64), .bool]) := goRec slices_BinarySearchFunc_int_impl_findSample_1.step n (.p0 a0 a1)
def slices_BinarySearchFunc_int_impl_findSample_1.spec : Ctr := ⟨132, [.v (.sl false (.pair (.int .i64) (.pair (.int .i64) .unit))), .v (.int .i64), .fn 133 []], [(.int .i64), .bool], [], none, fun n x => slices_BinarySearchFunc_int_impl_findSample_1 n x.1 x.2.1⟩
theorem slices_BinarySearchFunc_int_impl_findSample_1.seg_eq : SegEq ty gl slices_BinarySearchFunc_int_impl_findSample_1.F slices_BinarySearchFunc_int_impl_findSample_1.md slices_BinarySearchFunc_int_impl_findSample_1.T slices_BinarySearchFunc_int_impl_findSample_1.spec slices_BinarySearchFunc_int_impl_findSample_1.lb slices_BinarySearchFunc_int_impl_findSample_1.st slices_BinarySearchFunc_int_impl_findSample_1.step := by
  intro n goto y; cases y <;> kernel_rfl
theorem slices_BinarySearchFunc_int_impl_findSample_1.text : Text Go.Proofs.Tryz.prog slices_BinarySearchFunc_int_impl_findSample_1.F slices_BinarySearchFunc_int_impl_findSample_1.spec := textOf Go.Proofs.Tryz.f132
theorem slices_BinarySearchFunc_int_impl_findSample_1.ok : CtrOK Go.Proofs.Tryz.prog gl slices_BinarySearchFunc_int_impl_findSample_1.spec :=
  ctr_okS tabs slices_BinarySearchFunc_int_impl_findSample_1.text slices_BinarySearchFunc_int_impl_findSample_1.seg_eq (fun n x => ⟨.p0 x.1 x.2.1, rfl, rfl, rfl⟩) (consC impl_findSample_1.ok (nilC))

/-! loop.example/g00039/impl.findSample -/
def impl_findSample.T : List Ctr := [impl_findSample_1.spec, slices_BinarySearchFunc_int_impl_findSample_1.spec]
def impl_findSample.md : List (Nat × List Md) := [(132, [.v, .v, .fn])]
noncomputable def impl_findSample.F : Fun := ⟨(Go.Proofs.Tryz.f101.body).getD .skip, [.v (.sl false (.pair (.int .i64) (.pair (.int .i64) .unit))), .v (.int .i64)], [(.tmp 4, (.int .i64)), (.tmp 5, .bool)], [], 0, []⟩
inductive impl_findSample.Pt where
  | p0 (a0 : List ((Int) × ((Int) × (Unit)))) (a1 : Int)
def impl_findSample.lb : impl_findSample.Pt → Nat
  | .p0 _ _ => 0
def impl_findSample.st : impl_findSample.Pt → St
  | .p0 a0 a1 => enter [.v (.sl false (.pair (.int .i64) (.pair (.int .i64) .unit))) a0, .v (.int .i64) a1] 0
def impl_findSample.step (n : Nat) (K : impl_findSample.Pt → Option (Tup [(.int .i64), .bool])) : impl_findSample.Pt → Option (Tup [(.int .i64), .bool])
  | .p0 a0 a1 => (slices_BinarySearchFunc_int_impl_findSample_1 n a0 a1).bind fun r5 => some (r5.1, r5.2)
def impl_findSample (n : Nat) (a0 : List ((Int) × ((Int) × (Unit)))) (a1 : Int) : Option (Tup [(.int .i64), .bool]) := goRec impl_findSample.step n (.p0 a0 a1)
def impl_findSample.spec : Ctr := ⟨101, [.v (.sl false (.pair (.int .i64) (.pair (.int .i64) .unit))), .v (.int .i64)], [(.int .i64), .bool], [], none, fun n x => impl_findSample n x.1 x.2.1⟩
theorem impl_findSample.seg_eq : SegEq ty gl impl_findSample.F impl_findSample.md impl_findSample.T impl_findSample.spec impl_findSample.lb impl_findSample.st impl_findSample.step := by
  intro n goto y; cases y <;> kernel_rfl
theorem impl_findSample.text : Text Go.Proofs.Tryz.prog impl_findSample.F impl_findSample.spec := textOf Go.Proofs.Tryz.f101
theorem impl_findSample.ok : CtrOK Go.Proofs.Tryz.prog gl impl_findSample.spec :=
  ctr_okS tabs impl_findSample.text impl_findSample.seg_eq (fun n x => ⟨.p0 x.1 x.2.1, rfl, rfl, rfl⟩) (consC impl_findSample_1.ok (consC slices_BinarySearchFunc_int_impl_findSample_1.ok (nilC)))

/-! slices.Insert[[]loop.example/g00039/impl.Sample,loop.example/g00039/impl.Sample] -/
def slices_Insert_Sample (n : Nat) (a0 : List (U.El ((.pair (.int .i64) (.pair (.int .i64) .unit))))) (a1 : Int) (a2 : List (U.El ((.pair (.int .i64) (.pair (.int .i64) .unit))))) : Option (List (U.El ((.pair (.int .i64) (.pair (.int .i64) .unit))))) := hold n (cond (decide (0 ≤ a1) && decide (a1 ≤ (a0.length : Int)) && decide (a0.length ≤ 1000000) && Nat.beq a2.length 1) (some (a0.take a1.toNat ++ a2 ++ a0.drop a1.toNat)) none)
def slices_Insert_Sample.spec : Ctr := ⟨102, [.g (.sl false ((.pair (.int .i64) (.pair (.int .i64) .unit)))), .v (.int .i64), .g (.sl false ((.pair (.int .i64) (.pair (.int .i64) .unit))))], [.sl false ((.pair (.int .i64) (.pair (.int .i64) .unit)))], [], none, fun n x => slices_Insert_Sample n x.1 x.2.1 x.2.2.1⟩
section
open Go.Proofs Go.RowKit Go.Lib
theorem insSample.ty : TyOK Go.Proofs.Tryz.prog 71 (.sl false ((.pair (.int .i64) (.pair (.int .i64) .unit)))) := tyB_ok (by kernel_rfl)
theorem insSample.el (w : World) : ∃ i z, Go.Proofs.Tryz.prog.info? 82 = some i ∧ i.size = 2 ∧ i.bytes ≤ 140000 ∧ i.zero = some z ∧ z.cells.size = 2 := by
  obtain ⟨d, hd, hsh⟩ := insSample.ty.d
  obtain ⟨el, rfl, hel, _⟩ := hsh
  rw [Go.Proofs.Tryz.underlying71] at hd
  cases hd
  obtain ⟨i, z, h1, h2, h3, h4, h5⟩ := hel.i
  exact ⟨i, z, h1, h2, h3, h4, by have := Rep.length (zero_Rep (w := w) rfl h5); simpa [U.sz] using this⟩
set_option maxHeartbeats 4000000 in
set_option maxRecDepth 100000 in
theorem insSample.endRoom (w : World) (g n cap vb vc : Nat) (cc : Array Value) (ct : TypeId) (fz : Nat × Nat) (X : List Value) (hh : w.heap[g]? = some (.cells cc ct fz)) (hX : X.length = 2) (hXc : ∀ j v, X[j]? = some v → w.cell? ((⟨vb, 0, none⟩ : Addr).add j) = some v) (h1 : ∀ v ∈ X, v.oneCell' = true)
    (hf : ∀ j, j < cc.size → ¬ (fz.1 ≤ j ∧ j < fz.2)) (hroom : n + 1 ≤ cap) (hcap : cap ≤ 9223372036854775807) (hcs : cc.size = cap * 2) :
    Calls Go.Proofs.Tryz.prog 102 #[.slice (some ⟨g, 0, none⟩) n cap, .int .i64 n, .slice (some ⟨vb, 0, none⟩) 1 vc] w fun e w' => e = .returned (.slice (some ⟨g, 0, none⟩) (n + 1) cap) ∧ w' = putB w g (.cells (splice cc.toList (n * 2) X).toArray ct fz) := by
  obtain ⟨i0, z0, hi0, hzs, hzb, hzz, hzl⟩ := insSample.el w
  have hrun : ∀ ty, (Builtin.append_ #[71, 71] ty #[.slice (some ⟨g, 0, none⟩) n cap, .slice (some ⟨vb, 0, none⟩) 1 vc]).run Go.Proofs.Tryz.prog w = .ok (.slice (some ⟨g, 0, none⟩) (n + 1) cap) (putB w g (.cells (splice cc.toList (n * 2) X).toArray ct fz)) := fun ty => by
    have := run_append_in (P := Go.Proofs.Tryz.prog) (W := w) (ty := ty) (c := vc) (t := 71) Go.Proofs.Tryz.underlying71 hi0 (b := ⟨g, 0, none⟩) (n := n) (m := 1) (cap := cap) rfl rfl hh (by rw [hX, hzs]) hXc h1 hf hroom (by rw [hzs, hX, hcs]; omega)
    rw [hzs] at this
    exact this
  go_enter Go.Proofs.Tryz.func102, Go.Proofs.Tryz.ntmps102
  go_wp2_with (at_builtin; refine Lib.wpList_append_run _ rfl _ _ _ _ rfl _ _ rfl rfl _ _ (hrun _) ?_)
  go_ret
  exact ⟨rfl, rfl⟩
set_option maxHeartbeats 4000000 in
set_option maxRecDepth 100000 in
theorem insSample.endGrow (w : World) (g n cap vb vc : Nat) (m X : List Value) (hm : m.length = n * 2) (hmc : ∀ j v, m[j]? = some v → w.cell? ((⟨g, 0, none⟩ : Addr).add j) = some v) (hX : X.length = 2) (hXc : ∀ j v, X[j]? = some v → w.cell? ((⟨vb, 0, none⟩ : Addr).add j) = some v)
    (hroom : cap < n + 1) (hnc : n ≤ cap) (hn : n ≤ 1000000) :
    Calls Go.Proofs.Tryz.prog 102 #[.slice (some ⟨g, 0, none⟩) n cap, .int .i64 n, .slice (some ⟨vb, 0, none⟩) 1 vc] w fun e w' => ∃ c q, e = .returned (.slice (some ⟨w.heap.size, 0, none⟩) (n + 1) c) ∧ w' = w.drew.alloc (.cells (m ++ X ++ q).toArray 82) ∧ n + 1 ≤ c ∧ c ≤ maxLen ∧ (m ++ X ++ q).length = c * 2 := by
  obtain ⟨i0, z0, hi0, hzs, hzb, hzz, hzl⟩ := insSample.el w
  have hby : (n + 1) * i0.bytes ≤ 140737488355328 := Nat.le_trans (Nat.mul_le_mul_left _ hzb) (by omega)
  have hrun := fun ty => run_append_grow (P := Go.Proofs.Tryz.prog) w 71 ty 82 i0 z0 Go.Proofs.Tryz.underlying71 hi0 hzz ⟨g, 0, none⟩ n cap m (by rw [hm, hzs]) hmc ⟨vb, 0, none⟩ 1 vc X (by rw [hX, hzs]) hXc hroom (by omega) (growslice_fits hroom hby)
  have hge := grownCap_ge w (n + 1) cap 82
  have hle := grownCap_le_maxLen w (n + 1) cap 82 (by simp only [maxLen]; omega)
  generalize grownCap w (n + 1) cap 82 = C at hrun hge hle
  have hrow : (m.toArray ++ X.toArray ++ Builtin.zeroCells z0.cells (C - (n + 1))) = (m ++ X ++ (Builtin.zeroCells z0.cells (C - (n + 1))).toList).toArray := by apply Array.toList_inj.1; simp
  have hql : (Builtin.zeroCells z0.cells (C - (n + 1))).toList.length = (C - (n + 1)) * 2 := by rw [Array.length_toList, size_zeroCells, hzl]
  rw [hrow] at hrun
  generalize (Builtin.zeroCells z0.cells (C - (n + 1))).toList = q at hrun hql
  go_enter Go.Proofs.Tryz.func102, Go.Proofs.Tryz.ntmps102
  go_wp2_with (at_builtin; refine Lib.wpList_append_run _ rfl _ _ _ _ rfl _ _ rfl rfl _ _ (hrun _) ?_)
  go_ret
  exact ⟨C, q, rfl, by first | rfl | (rw [List.append_assoc]; rfl), hge, hle, by simp only [List.length_append, hm, hX, hql]; omega⟩
set_option maxHeartbeats 4000000 in
set_option maxRecDepth 100000 in
theorem insSample.endNil (w : World) (vb vc : Nat) (X : List Value) (hX : X.length = 2) (hXc : ∀ j v, X[j]? = some v → w.cell? ((⟨vb, 0, none⟩ : Addr).add j) = some v) :
    Calls Go.Proofs.Tryz.prog 102 #[.slice none 0 0, .int .i64 0, .slice (some ⟨vb, 0, none⟩) 1 vc] w fun e w' => ∃ c q, e = .returned (.slice (some ⟨w.heap.size, 0, none⟩) 1 c) ∧ w' = w.drew.alloc (.cells (X ++ q).toArray 82) ∧ 1 ≤ c ∧ c ≤ maxLen ∧ (X ++ q).length = c * 2 := by
  obtain ⟨i0, z0, hi0, hzs, hzb, hzz, hzl⟩ := insSample.el w
  have hrun := fun ty => run_append_nil (P := Go.Proofs.Tryz.prog) w 71 ty 82 i0 z0 Go.Proofs.Tryz.underlying71 hi0 hzz ⟨vb, 0, none⟩ 1 vc X (by rw [hX, hzs]) hXc (by omega) (by omega) (by omega)
  have hge := grownCap_ge w 1 0 82
  have hle := grownCap_le_maxLen w 1 0 82 (by simp only [maxLen]; omega)
  generalize grownCap w 1 0 82 = C at hrun hge hle
  have hrow : (X.toArray ++ Builtin.zeroCells z0.cells (C - 1)) = (X ++ (Builtin.zeroCells z0.cells (C - 1)).toList).toArray := by apply Array.toList_inj.1; simp
  have hql : (Builtin.zeroCells z0.cells (C - 1)).toList.length = (C - 1) * 2 := by rw [Array.length_toList, size_zeroCells, hzl]
  rw [hrow] at hrun
  generalize (Builtin.zeroCells z0.cells (C - 1)).toList = q at hrun hql
  go_enter Go.Proofs.Tryz.func102, Go.Proofs.Tryz.ntmps102
  go_wp2_with (at_builtin; refine Lib.wpList_append_run _ rfl _ _ _ _ rfl _ _ rfl rfl _ _ (hrun _) ?_)
  go_ret
  exact ⟨C, q, rfl, rfl, hge, hle, by simp only [List.length_append, hX, hql]; omega⟩
set_option maxHeartbeats 4000000 in
set_option maxRecDepth 100000 in
theorem insSample.shift (w : World) (g n cap i vb vc : Nat) (cc cv : Array Value) (ct tv : TypeId) (fz fv : Nat × Nat) (m q X : List Value) (hh : w.heap[g]? = some (.cells cc ct fz)) (hc : cc.toList = m ++ q) (hm : m.length = n * 2) (h1m : ∀ v ∈ m, v.oneCell' = true)
    (hX : X.length = 2) (hXc : ∀ j v, X[j]? = some v → w.cell? ((⟨vb, 0, none⟩ : Addr).add j) = some v) (h1 : ∀ v ∈ X, v.oneCell' = true) (hf : ∀ j, j < cc.size → ¬ (fz.1 ≤ j ∧ j < fz.2)) (hi : i < n) (hroom : n + 1 ≤ cap) (hcap : cap ≤ 9223372036854775807) (hcs : cc.size = cap * 2)
    (hvb : vb ≠ g) (hvh : w.heap[vb]? = some (.cells cv tv fv)) (hfv : ∀ j, j < cv.size + 1 → ¬ (fv.1 ≤ j ∧ j < fv.2)) :
    Calls Go.Proofs.Tryz.prog 102 #[.slice (some ⟨g, 0, none⟩) n cap, .int .i64 i, .slice (some ⟨vb, 0, none⟩) 1 vc] w fun e w' => e = .returned (.slice (some ⟨g, 0, none⟩) (n + 1) cap) ∧ w' = putB w.drew g (.cells (splice (splice cc.toList ((i + 1) * 2) (m.drop (i * 2))) (i * 2) X).toArray ct fz) := by
  obtain ⟨i0, z0, hi0, hzs, hzb, hzz, hzl⟩ := insSample.el w
  have hz2 : ¬ ((i : Int) = (n : Int)) := by omega
  have mixed : Go.Proofs.Tryz.prog.follows .mixedOrders = true := by kernel_rfl
  have hgl : g < w.heap.size := lt_of_heap hh
  have hov : ∀ o lb cb, (callFunc 134 #[.slice (some ⟨vb, 0, none⟩) 1 vc, .slice (some ⟨g, o, none⟩) lb cb]).run Go.Proofs.Tryz.prog w = .ok (.value (.bool false)) w := fun o lb cb => by
    rw [run_callFunc_extern (fn := Go.Proofs.Tryz.f134) (f := 134) (by kernel_rfl) (by kernel_rfl) (by kernel_rfl) (by kernel_rfl) (e := Extern.SlicesOverlaps.overlaps #[71, 71] #[4]) (by kernel_rfl),
      Lib.run_overlaps_apart w 71 4 82 Go.Proofs.Tryz.underlying71 2 Go.Proofs.Tryz.sizeOf82 ⟨vb, 0, none⟩ ⟨g, o, none⟩ 1 vc lb cb hvb tv ct cv.size cc.size (by simp [World.shape?, hvh]) (by simp [World.shape?, hh]) (by omega)
        (by have := hfv 0 (by omega); simp [World.frozen?, hvh]; omega) (by have := hfv cv.size (by omega); simp [World.frozen?, hvh]; omega)]
    rfl
  have hone : ∀ v ∈ m.drop (i * 2), v.oneCell' = true := fun v hv => h1m v (List.mem_of_mem_drop hv)
  have hcell : ∀ j v, (m.drop (i * 2))[j]? = some v → w.cell? ((⟨g, i * 2, none⟩ : Addr).add j) = some v :=
    cells_at (d := ⟨g, i * 2, none⟩) (p := m.take (i * 2)) (q := q) rfl hh (by rw [hc, List.take_append_drop]) (by rw [List.length_take]; show _ = i * 2; omega)
  have hdl : (m.drop (i * 2)).length = (n - i) * 2 := by rw [List.length_drop, hm]; omega
  have hql : m.length + q.length = cc.size := by rw [← Array.length_toList, hc, List.length_append]
  have hcp1 : ∀ ty dc sc, (Builtin.copy_ #[71, 71] ty #[.slice (some ⟨g, (i + 1) * 2, none⟩) (n - i) dc, .slice (some ⟨g, i * 2, none⟩) (n + 1 - i) sc]).run Go.Proofs.Tryz.prog w.drew = .ok (goInt ((n - i : Nat) : Int)) (putB w.drew g (.cells (splice cc.toList ((i + 1) * 2) (m.drop (i * 2))).toArray ct fz)) := fun ty dc sc =>
    run_copy_put Go.Proofs.Tryz.underlying71 hi0 (by simp only [Nat.min_def]; split <;> omega) (by rw [hdl, hzs]) (show w.drew.heap[g]? = _ from hh) (fun j v h => hcell j v h) hone hf (by rw [hdl]; omega)
  obtain ⟨W1, hW1⟩ : ∃ W1, W1 = putB w.drew g (.cells (splice cc.toList ((i + 1) * 2) (m.drop (i * 2))).toArray ct fz) := ⟨_, rfl⟩
  have hl1 : (splice cc.toList ((i + 1) * 2) (m.drop (i * 2))).length = cc.size := by rw [splice_len (by rw [hdl, Array.length_toList]; omega), Array.length_toList]
  have hcp2 : ∀ (W : World), W.heap = W1.heap → ∀ ty dc, (Builtin.copy_ #[71, 71] ty #[.slice (some ⟨g, i * 2, none⟩) (n + 1 - i) dc, .slice (some ⟨vb, 0, none⟩) 1 vc]).run Go.Proofs.Tryz.prog W = .ok (goInt ((1 : Nat) : Int)) (putB W g (.cells (splice (splice cc.toList ((i + 1) * 2) (m.drop (i * 2))) (i * 2) X).toArray ct fz)) := fun W hW ty dc => by
    have hWg : W.heap[g]? = some (.cells (splice cc.toList ((i + 1) * 2) (m.drop (i * 2))).toArray ct fz) := by rw [hW, hW1]; exact putB_same hgl
    exact run_copy_put Go.Proofs.Tryz.underlying71 hi0 (by simp only [Nat.min_def]; split <;> omega) (by rw [hX, hzs]) hWg (fun j v h => by
      have h2 := hXc j v h
      rw [Addr.add_lit] at h2 ⊢
      rw [← h2]
      have hne : W.heap[vb]? = w.heap[vb]? := by rw [hW, hW1]; exact putB_other hvb
      simp only [World.cell?, hne]) h1 (fun j hj => hf j (Nat.lt_of_lt_of_eq hj hl1)) (Nat.le_trans (show i * 2 + X.length ≤ cc.size by rw [hX]; omega) (Nat.le_of_eq hl1.symm))
  rw [← hW1] at hcp1
  have hw1 : IntKind.i64.wrap ((i : Int) + 1) = (i : Int) + 1 := by rw [IntKind.wrap_i64]; omega
  have hb1 : (0 : Int) ≤ (i : Int) + 1 := by omega
  have hin : i ≤ n := by omega
  have htn : ((i : Int) + 1).toNat = i + 1 := by omega
  have hb2 : ¬ (cap = i + 1) := by omega
  have hb3 : (i : Int) ≤ (n : Int) + 1 := by omega
  have hb4 : ¬ (cap = i) := by omega
  go_enter Go.Proofs.Tryz.func102, Go.Proofs.Tryz.ntmps102
  go_wp2_with (simp only [hov])
  go_region_law_o (refine step_copy_runI rfl _ _ 71 71 rfl _ _ (by simp [Act.eval, Act.put]) (by simp [Act.eval, Act.put]) (hcp1 _ _ _) ?_)
  go_wp2_with (at_builtin; refine wpList_copy_runI _ rfl _ _ 71 71 rfl _ _ rfl rfl (hcp2 _ rfl _ _) ?_)
  go_ret
  exact ⟨rfl, by first | (rw [hW1, putB_putB]; done) | rw [hc, putB_putB]⟩
set_option maxHeartbeats 4000000 in
set_option maxRecDepth 100000 in
theorem insSample.midGrow (w : World) (g n cap i vb vc : Nat) (m X : List Value) (hm : m.length = n * 2) (hmc : ∀ j v, m[j]? = some v → w.cell? ((⟨g, 0, none⟩ : Addr).add j) = some v) (h1m : ∀ v ∈ m, v.oneCell' = true) (hX : X.length = 2) (hXc : ∀ j v, X[j]? = some v → w.cell? ((⟨vb, 0, none⟩ : Addr).add j) = some v) (h1 : ∀ v ∈ X, v.oneCell' = true)
    (hi : i < n) (hroom : cap < n + 1) (hnc : n ≤ cap) (hn : n ≤ 1000000) (hgl : g < w.heap.size) (hvl : vb < w.heap.size) :
    Calls Go.Proofs.Tryz.prog 102 #[.slice (some ⟨g, 0, none⟩) n cap, .int .i64 i, .slice (some ⟨vb, 0, none⟩) 1 vc] w fun e w' => ∃ c q, e = .returned (.slice (some ⟨w.heap.size, 0, none⟩) (n + 1) c) ∧ n + 1 ≤ c ∧ c ≤ maxLen ∧ ((m.take (i * 2) ++ X ++ m.drop (i * 2)) ++ q).length = c * 2 ∧
      w'.os = w.os ∧ w'.tape = w.tape ∧ w'.output = w.output ∧ w'.heap.size = w.heap.size + 1 ∧ (∀ k, k < w.heap.size → w'.heap[k]? = w.heap[k]?) ∧ w'.heap[w.heap.size]? = some (.cells ((m.take (i * 2) ++ X ++ m.drop (i * 2)) ++ q).toArray 82 (0, 0)) := by
  obtain ⟨i0, z0, hi0, hzs, hzb, hzz, hzl⟩ := insSample.el w
  have hz2 : ¬ ((i : Int) = (n : Int)) := by omega
  have hz3 : (cap : Int) < (n : Int) + 1 := by omega
  have mixed : Go.Proofs.Tryz.prog.follows .mixedOrders = true := by kernel_rfl
  have hby : (n + 1) * i0.bytes ≤ 140737488355328 := Nat.le_trans (Nat.mul_le_mul_left _ hzb) (by omega)
  have hby2 : (n + 1 - i) * i0.bytes ≤ 140737488355328 := Nat.le_trans (Nat.mul_le_mul_right _ (by omega)) hby
  have hkk : (n : Int) + 1 - (i : Int) = ((n + 1 - i : Nat) : Int) := by omega
  have hik : i + (n + 1 - i) = n + 1 := by omega
  have hold : (Builtin.firstCells i0.size i (.slice (some ⟨g, 0, none⟩) i cap)).run Go.Proofs.Tryz.prog w.drew = .ok (m.take (i * 2)).toArray w.drew :=
    run_firstCells_some w.drew i0.size i ⟨g, 0, none⟩ i cap (m.take (i * 2)) (by rw [List.length_take, hm, hzs]; omega) (fun j v hj => by
      rw [List.getElem?_take] at hj
      split at hj
      · exact hmc j v hj
      · cases hj)
  have hrz : ∀ ty, ∃ C, n + 1 ≤ C ∧ C ≤ maxLen ∧ True := fun _ => ⟨n + 1, Nat.le_refl _, by simp only [maxLen]; omega, trivial⟩
  have hge := grownCap_ge w (n + 1) cap 82
  have hle := grownCap_le_maxLen w (n + 1) cap 82 (by simp only [maxLen]; omega)
  have hrun : ∀ ty, (Builtin.append_ #[71, 3] ty #[.slice (some ⟨g, 0, none⟩) i cap, .int .i64 ((n : Int) + 1 - (i : Int))]).run Go.Proofs.Tryz.prog w =
      .ok (.slice (some ⟨w.heap.size, 0, none⟩) (n + 1) (grownCap w (n + 1) cap 82)) (w.drew.alloc (.cells ((m.take (i * 2)).toArray ++ Builtin.zeroCells z0.cells (n + 1 - i) ++ Builtin.zeroCells z0.cells (grownCap w (n + 1) cap 82 - (n + 1))) 82)) := fun ty => by
    have h := Lib.run_append_grow_zeros w 71 3 ty 82 i0 z0 .i64 .i64 Go.Proofs.Tryz.underlying71 Go.Proofs.Tryz.underlying3 hi0 hzz (some ⟨g, 0, none⟩) i cap (m.take (i * 2)) hold (n + 1 - i) (by omega) (by omega) (by omega) (by omega) (by omega) (by rw [hik]; exact growslice_fits hroom hby)
    rw [hik] at h
    rw [hkk]
    exact h
  generalize grownCap w (n + 1) cap 82 = C at hrun hge hle
  have hrow : ((m.take (i * 2)).toArray ++ Builtin.zeroCells z0.cells (n + 1 - i) ++ Builtin.zeroCells z0.cells (C - (n + 1))) = (m.take (i * 2) ++ ((Builtin.zeroCells z0.cells (n + 1 - i)).toList ++ (Builtin.zeroCells z0.cells (C - (n + 1))).toList)).toArray := by apply Array.toList_inj.1; simp
  have hql : ((Builtin.zeroCells z0.cells (n + 1 - i)).toList ++ (Builtin.zeroCells z0.cells (C - (n + 1))).toList).length = (C - i) * 2 := by rw [List.length_append, Array.length_toList, Array.length_toList, size_zeroCells, size_zeroCells, hzl]; omega
  rw [hrow] at hrun
  generalize (Builtin.zeroCells z0.cells (n + 1 - i)).toList ++ (Builtin.zeroCells z0.cells (C - (n + 1))).toList = Z at hrun hql
  clear hrow hrz
  obtain ⟨ROW, hROW⟩ : ∃ ROW, ROW = m.take (i * 2) ++ Z := ⟨_, rfl⟩
  rw [← hROW] at hrun
  have htl : (m.take (i * 2)).length = i * 2 := by rw [List.length_take, hm]; omega
  have hdl : (m.drop (i * 2)).length = (n - i) * 2 := by rw [List.length_drop, hm]; omega
  have hRl : ROW.length = C * 2 := by rw [hROW, List.length_append, htl, hql]; omega
  obtain ⟨W1, hW1⟩ : ∃ W1, W1 = w.drew.alloc (.cells ROW.toArray 82) := ⟨_, rfl⟩
  rw [← hW1] at hrun
  have hN1 : W1.heap[w.heap.size]? = some (.cells ROW.toArray 82 (0, 0)) := by rw [hW1]; exact alloc_new w.drew _
  have hO1 : ∀ k, k < w.heap.size → W1.heap[k]? = w.heap[k]? := fun k hk => by rw [hW1]; exact alloc_old w.drew _ hk
  have hs1 : W1.heap.size = w.heap.size + 1 := by rw [hW1]; exact alloc_sz w.drew _
  have hNl : w.heap.size < W1.heap.size := by omega
  have hcpA : ∀ (W : World), W.heap = W1.heap → ∀ ty dc, (Builtin.copy_ #[71, 71] ty #[.slice (some ⟨w.heap.size, i * 2, none⟩) (n + 1 - i) dc, .slice (some ⟨vb, 0, none⟩) 1 vc]).run Go.Proofs.Tryz.prog W = .ok (goInt ((1 : Nat) : Int)) (putB W w.heap.size (.cells (splice ROW (i * 2) X).toArray 82 (0, 0))) := fun W hW ty dc =>
    run_copy_put Go.Proofs.Tryz.underlying71 hi0 (by simp only [Nat.min_def]; split <;> omega) (by rw [hX, hzs]) (by rw [hW]; exact hN1) (fun j v h => by
      have h2 := hXc j v h
      rw [Addr.add_lit] at h2 ⊢
      rw [← h2]
      have hne : W.heap[vb]? = w.heap[vb]? := by rw [hW]; exact hO1 _ hvl
      simp only [World.cell?, hne]) h1 (fun j _ h => by simp at h) (by show i * 2 + X.length ≤ ROW.length; omega)
  have hl1 : (splice ROW (i * 2) X).length = C * 2 := by rw [splice_len (by omega), hRl]
  obtain ⟨W2, hW2⟩ : ∃ W2, W2 = putB W1 w.heap.size (.cells (splice ROW (i * 2) X).toArray 82 (0, 0)) := ⟨_, rfl⟩
  have hN2 : W2.heap[w.heap.size]? = some (.cells (splice ROW (i * 2) X).toArray 82 (0, 0)) := by rw [hW2]; exact putB_same hNl
  have hO2 : ∀ k, k < w.heap.size → W2.heap[k]? = w.heap[k]? := fun k hk => by rw [hW2, putB_other (by omega)]; exact hO1 k hk
  have hcpB : ∀ (W : World), W.heap = W2.heap → ∀ ty dc sc, (Builtin.copy_ #[71, 71] ty #[.slice (some ⟨w.heap.size, (i + 1) * 2, none⟩) (n - i) dc, .slice (some ⟨g, i * 2, none⟩) (n - i) sc]).run Go.Proofs.Tryz.prog W = .ok (goInt ((n - i : Nat) : Int)) (putB W w.heap.size (.cells (splice (splice ROW (i * 2) X) ((i + 1) * 2) (m.drop (i * 2))).toArray 82 (0, 0))) := fun W hW ty dc sc =>
    run_copy_put Go.Proofs.Tryz.underlying71 hi0 (by simp only [Nat.min_def]; split <;> omega) (by rw [hdl, hzs]) (by rw [hW]; exact hN2) (fun j v h => by
      rw [List.getElem?_drop] at h
      have h2 := hmc (i * 2 + j) v h
      rw [Addr.add_lit] at h2 ⊢
      rw [← h2]
      have hne : W.heap[g]? = w.heap[g]? := by rw [hW]; exact hO2 _ hgl
      simp only [World.cell?, hne, Nat.zero_add]) (fun v hv => h1m v (List.mem_of_mem_drop hv)) (fun j _ h => by simp at h) (Nat.le_trans (show (i + 1) * 2 + (m.drop (i * 2)).length ≤ C * 2 by rw [hdl]; omega) (Nat.le_of_eq hl1.symm))
  have hfin : splice (splice ROW (i * 2) X) ((i + 1) * 2) (m.drop (i * 2)) = (m.take (i * 2) ++ X ++ m.drop (i * 2)) ++ Z.drop (X.length + (m.drop (i * 2)).length) := by
    rw [hROW, show (i + 1) * 2 = i * 2 + X.length by rw [hX]; omega]
    exact splice_fill htl.symm (by rw [hX, hdl, hql]; omega)
  have hw1 : IntKind.i64.wrap ((i : Int) + 1) = (i : Int) + 1 := by rw [IntKind.wrap_i64]; omega
  have hb1 : (0 : Int) ≤ (i : Int) + 1 := by omega
  have hin : i ≤ n := by omega
  have htn : ((i : Int) + 1).toNat = i + 1 := by omega
  have hb3 : (i : Int) ≤ (n : Int) := by omega
  have hC63 : C ≤ 9223372036854775807 := by simp only [maxLen] at hle; omega
  have hb2 : ¬ (C = i + 1) := by omega
  have hb4 : ¬ (cap = i) := by omega
  have hb5 : ¬ (C = i) := by omega
  have hW2' : W2.heap = (putB (w.alloc (.cells ROW.toArray 82)).drew w.heap.size (.cells (splice ROW (i * 2) X).toArray 82 (0, 0))).drew.heap := by rw [hW2, hW1]; rfl
  have hW1' : (w.alloc (.cells ROW.toArray 82)).drew.heap = W1.heap := by rw [hW1]; rfl
  have hres' : ∀ W : World, W.heap = (putB W2 w.heap.size (.cells (splice (splice ROW (i * 2) X) ((i + 1) * 2) (m.drop (i * 2))).toArray 82 (0, 0))).heap → W.os = w.os → W.tape = w.tape → W.output = w.output → True := fun _ _ _ _ _ => trivial
  rw [hW1] at hrun
  have hP : ∀ (W : World) (o : Obj), W.heap = W2.heap → (putB W w.heap.size o).heap = (putB W2 w.heap.size o).heap := fun W o h => by simp only [putB, h]
  have hres : ∀ W : World, W.heap = (putB W2 w.heap.size (.cells (splice (splice ROW (i * 2) X) ((i + 1) * 2) (m.drop (i * 2))).toArray 82 (0, 0))).heap → W.os = w.os → W.tape = w.tape → W.output = w.output → ∃ q, ((m.take (i * 2) ++ X ++ m.drop (i * 2)) ++ q).length = C * 2 ∧
      W.os = w.os ∧ W.tape = w.tape ∧ W.output = w.output ∧ W.heap.size = w.heap.size + 1 ∧ (∀ k, k < w.heap.size → W.heap[k]? = w.heap[k]?) ∧ W.heap[w.heap.size]? = some (.cells ((m.take (i * 2) ++ X ++ m.drop (i * 2)) ++ q).toArray 82 (0, 0)) := fun W hW a1 a2 a3 => by
    refine ⟨Z.drop (X.length + (m.drop (i * 2)).length), ?_, a1, a2, a3, ?_, fun k hk => ?_, ?_⟩
    · rw [← hfin, splice_len (by rw [hl1, hdl]; omega), hl1]
    · rw [hW, putB_sz, hW2, putB_sz, hs1]
    · rw [hW, putB_other (by omega)]; exact hO2 k hk
    · rw [hW, putB_same (by rw [hW2, putB_sz]; exact hNl), hfin]
  have hos1 : W1.os = w.os ∧ W1.tape = w.tape ∧ W1.output = w.output := by rw [hW1]; exact ⟨rfl, rfl, rfl⟩
  clear hW1 hW2 hROW hres' hfin hold hmc hXc hik hkk hby hby2
  go_enter Go.Proofs.Tryz.func102, Go.Proofs.Tryz.ntmps102
  go_wp2_with (first
    | (at_builtin; refine Lib.wpList_append_run _ rfl _ _ _ _ rfl _ _ rfl rfl _ _ (hrun _) ?_)
    | (at_builtin; refine wpList_copy_runI _ rfl _ _ 71 71 rfl _ _ rfl rfl (hcpA _ hW1' _ _) ?_))
  go_region_law_o (refine step_copy_runI rfl _ _ 71 71 rfl _ _ (by simp [Act.eval, Act.put]) (by simp [Act.eval, Act.put]) (hcpB _ hW2'.symm _ _ _) ?_)
  go_wp2
  go_ret
  obtain ⟨q, r1, r2⟩ := hres _ (hP _ _ hW2'.symm) rfl rfl rfl
  refine ⟨C, q, rfl, hge, hle, ?_⟩
  have r := And.intro r1 r2
  simpa only [List.append_assoc] using r
end
theorem slices_Insert_Sample.ok : CtrOK Go.Proofs.Tryz.prog gl slices_Insert_Sample.spec := by
  refine fun n => ⟨⟨Go.Proofs.Tryz.f102, by kernel_rfl, by kernel_rfl, by decide +kernel⟩, ?_⟩
  intro inst
  rintro ⟨a0, a1, a2, ⟨⟩⟩ y hy
  have hy := hold_some hy
  cases hb : (decide (0 ≤ a1) && decide (a1 ≤ (a0.length : Int)) && decide (a0.length ≤ 1000000) && Nat.beq a2.length 1) with
  | false => rw [hb] at hy; cases hy
  | true =>
    rw [hb] at hy
    obtain rfl := Option.some.inj hy
    simp only [Bool.and_eq_true, decide_eq_true_eq, Nat.beq_eq] at hb
    obtain ⟨⟨⟨b0, b1⟩, b2⟩, b3⟩ := hb
    obtain ⟨i, rfl⟩ : ∃ i : Nat, a1 = (i : Int) := ⟨a1.toNat, (Int.toNat_of_nonneg b0).symm⟩
    have b1 : i ≤ a0.length := Int.ofNat_le.1 b1
    obtain ⟨x, rfl⟩ : ∃ x, a2 = [x] := List.length_eq_one_iff.1 b3
    have hz : U.sz ((.pair (.int .i64) (.pair (.int .i64) .unit))) = 2 := rfl
    intro w vs S L harg _ hL hSL hG
    change ArgsRep w [Arg.g (.sl false ((.pair (.int .i64) (.pair (.int .i64) .unit)))) a0, Arg.v (.int .i64) (i : Int), Arg.g (.sl false ((.pair (.int .i64) (.pair (.int .i64) .unit)))) [x]] vs S L at harg
    unfold ArgsRep at harg
    obtain ⟨v0, vr, S1, S2, L1, L2, rfl, rfl, rfl, h1, harg⟩ := harg
    unfold ArgsRep at harg
    obtain ⟨v1, vr, S3, S4, L3, L4, rfl, rfl, rfl, h2, harg⟩ := harg
    unfold ArgsRep at harg
    obtain ⟨v2, vr, S5, S6, L5, L6, rfl, rfl, rfl, h3, harg⟩ := harg
    unfold ArgsRep at harg
    obtain ⟨rfl, rfl, rfl⟩ := harg
    unfold ArgRep at h1 h2 h3
    obtain ⟨_, rfl, cs1, rfl, c1, rfl, h1⟩ := h1
    obtain ⟨_, ⟨cs2, rfl, rfl, rfl⟩, rfl⟩ := h2
    obtain ⟨_, rfl, cs3, rfl, c3, rfl, h3⟩ := h3
    have h1 := h1.resolve_right (fun h => bare_no h)
    have h3 := h3.resolve_right (fun h => bare_no h)
    rw [hz] at h1 h3
    have key : Calls Go.Proofs.Tryz.prog 102 #[c1, .int .i64 i, c3] w fun e w' => ∃ v', e = .returned v' ∧ InsFin w w' ((.pair (.int .i64) (.pair (.int .i64) .unit))) (insL a0 i x) v' (L1 ++ ([] ++ (L5 ++ []))) := by
      rcases h3 with ⟨_, h, _⟩ | ⟨⟨vb, vo, vsp⟩, vc, cv, tv, fv, pv, mv, qv, Gv, rfl, hsp3, _, hl3, hh3, hc3, hp3, hr3, rfl, how3⟩
      · cases h
      obtain ⟨hof3, hfz3, hcs3, hcm3⟩ := how3 rfl
      dsimp only at hsp3 hof3 hh3 hp3
      subst hsp3 hof3
      obtain rfl : pv = [] := List.eq_nil_of_length_eq_zero hp3
      obtain ⟨X, d3, GX, G3, rfl, rfl, hx, rfl, rfl⟩ := hr3
      have hX : X.length = 2 := by rw [Rep.length hx]; exact hz
      have hXc : ∀ j v, X[j]? = some v → w.cell? ((⟨vb, 0, none⟩ : Addr).add j) = some v := cells_at (d := ⟨vb, 0, none⟩) (p := []) (q := qv) rfl hh3 (by rw [hc3]; simp) rfl
      have hX1 := Rep.one hx
      have hvl : vb < w.heap.size := lt_of_heap hh3
      simp only [List.append_nil, List.nil_append] at hL ⊢
      obtain ⟨nA, nB, nC⟩ := List.nodup_append.1 hL
      obtain ⟨nB1, nB2⟩ := List.nodup_cons.1 nB
      have hGXl : ∀ b ∈ GX, b < w.heap.size := Rep.block_lt hx
      rcases h1 with ⟨rfl, rfl, rfl⟩ | ⟨⟨g, go, gsp⟩, cap, cc, ct, fz, pp, m, q, G, rfl, hsp, _, hlc, hh, hc, hp, hr, rfl, how⟩
      · obtain rfl : i = 0 := by simpa using b1
        refine (insSample.endNil w vb vc X hX hXc).mono ?_
        rintro e w' ⟨C, q, rfl, rfl, k1, k2, k3⟩
        refine ⟨_, rfl, ins_row (l := []) (x := x) (i := 0) (g := w.heap.size) (cap := C) (cc' := (X ++ q).toArray) (fz := (0, 0)) (m := []) (q' := q) (X := X) (G := []) (GX := GX) (Nat.zero_le _) k1 (alloc_new w.drew _) (by simp) ⟨rfl, rfl⟩ hx (fun j _ h => by simp at h) (by rw [hz]; simpa using k3) k2 (fun h => absurd h (Nat.lt_irrefl _)) (fun b hb => by simp at hb; simp [hb]) (fun hb => by simp at hb; exact absurd (hGXl _ hb) (Nat.lt_irrefl _)) (by simpa using nB2) (fun k hk _ => alloc_old w.drew _ hk) (by rw [alloc_sz]; exact Nat.le_succ _) rfl rfl rfl⟩
      · obtain ⟨hof, hfz, hcs, hcm⟩ := how rfl
        dsimp only at hsp hof hh hp
        subst hsp hof
        obtain rfl : pp = [] := List.eq_nil_of_length_eq_zero hp
        rw [List.nil_append] at hc
        have hm : m.length = a0.length * 2 := by rw [RepL.length (fun _ _ _ => Rep.length) hr, hz]
        have hmc : ∀ j v, m[j]? = some v → w.cell? ((⟨g, 0, none⟩ : Addr).add j) = some v := cells_at (d := ⟨g, 0, none⟩) (p := []) (q := q) rfl hh (by rw [hc]; simp) rfl
        have hm1 := RepL.one hr
        have hgl : g < w.heap.size := lt_of_heap hh
        obtain ⟨nA1, nA2⟩ := List.nodup_cons.1 nA
        have hGl : ∀ b ∈ G, b < w.heap.size := RepL.block_lt (fun h => Rep.block_lt h) hr
        have hvg : vb ≠ g := fun e => nC g (List.mem_cons_self ..) vb (List.mem_cons_self ..) e.symm
        have hnd : (G ++ GX).Nodup := by
          rw [List.nodup_append]
          exact ⟨nA2, nB2, fun a ha b hb => nC a (List.mem_cons_of_mem _ ha) b (List.mem_cons_of_mem _ hb)⟩
        have hGL : ∀ b ∈ G ++ GX, b ∈ g :: G ++ vb :: GX := fun b hb => by
          simp only [List.mem_append, List.mem_cons] at hb ⊢
          rcases hb with hb | hb <;> simp [hb]
        have hng : g ∉ G ++ GX := fun hb => by
          rcases List.mem_append.1 hb with hb | hb
          · exact nA1 hb
          · exact nC g (List.mem_cons_self ..) g (List.mem_cons_of_mem _ hb) rfl
        have hnN : w.heap.size ∉ G ++ GX := fun hb => by
          rcases List.mem_append.1 hb with hb | hb
          · exact Nat.lt_irrefl _ (hGl _ hb)
          · exact Nat.lt_irrefl _ (hGXl _ hb)
        have hf : ∀ j, j < cc.size → ¬ (fz.1 ≤ j ∧ j < fz.2) := fun j hj => hfz j (by omega)
        have hc63 : cap ≤ 9223372036854775807 := by simp only [maxLen] at hcm; omega
        have hccl : cc.toList.length = cc.size := Array.length_toList
        have hcl : m.length + q.length = cap * 2 := by rw [← hcs, ← Array.length_toList, hc, List.length_append]
        rcases Nat.eq_or_lt_of_le b1 with rfl | hi
        · rcases Nat.lt_or_ge cap (a0.length + 1) with hg | hg
          · refine (insSample.endGrow w g a0.length cap vb vc m X hm hmc hX hXc hg hlc b2).mono ?_
            rintro e w' ⟨C, q', rfl, rfl, k1, k2, k3⟩
            refine ⟨_, rfl, ins_row (l := a0) (x := x) (i := a0.length) (g := w.heap.size) (cap := C) (cc' := (m ++ X ++ q').toArray) (fz := (0, 0)) (m := m) (q' := q') (X := X) (G := G) (GX := GX) (Nat.le_refl _) k1 (alloc_new w.drew _) (by rw [hz, ← hm, List.take_of_length_le (Nat.le_refl _), List.drop_eq_nil_of_le (Nat.le_refl _), List.append_nil]) hr hx (fun j _ h => by simp at h) (by rw [hz]; simpa using k3) k2 (fun h => absurd h (Nat.lt_irrefl _)) hGL hnN hnd (fun k hk _ => alloc_old w.drew _ hk) (by rw [alloc_sz]; exact Nat.le_succ _) rfl rfl rfl⟩
          · refine (insSample.endRoom w g a0.length cap vb vc cc ct fz X hh hX hXc hX1 hf hg hc63 hcs).mono ?_
            rintro e w' ⟨rfl, rfl⟩
            have hsl : (splice cc.toList (a0.length * 2) X).length = cc.size := by rw [splice_len (by omega)]; exact hccl
            refine ⟨_, rfl, ins_row (l := a0) (x := x) (i := a0.length) (g := g) (cap := cap) (cc' := (splice cc.toList (a0.length * 2) X).toArray) (fz := fz) (m := m) (q' := q.drop X.length) (X := X) (G := G) (GX := GX) (Nat.le_refl _) hg (putB_same hgl) (by rw [hz, hc]; exact splice_end hm.symm (by omega)) hr hx (fun j hj => hfz j (by rw [List.size_toArray, hsl] at hj; exact hj)) (by rw [hz, List.size_toArray, hsl]; exact hcs) hcm (fun _ => List.mem_append_left _ (List.mem_cons_self ..)) hGL hng hnd (fun k _ hk => putB_other hk) (by rw [putB_sz]; exact Nat.le_refl _) rfl rfl rfl⟩
        · rcases Nat.lt_or_ge cap (a0.length + 1) with hg | hg
          · refine (insSample.midGrow w g a0.length cap i vb vc m X hm hmc hm1 hX hXc hX1 hi hg hlc b2 hgl hvl).mono ?_
            rintro e w' ⟨C, q', rfl, k1, k2, k3, k4, k5, k6, k7, k8, k9⟩
            refine ⟨_, rfl, ins_row (l := a0) (x := x) (i := i) (g := w.heap.size) (cap := C) (fz := (0, 0)) (m := m) (q' := q') (X := X) (G := G) (GX := GX) b1 k1 k9 (by rw [hz]) hr hx (fun j _ h => by simp at h) (by rw [hz]; simpa using k3) k2 (fun h => absurd h (Nat.lt_irrefl _)) hGL hnN hnd (fun k hk _ => k8 k hk) (by omega) k4 k5 k6⟩
          · refine (insSample.shift w g a0.length cap i vb vc cc cv ct tv fz fv m q X hh hc hm hm1 hX hXc hX1 hf hi hg hc63 hcs hvg hh3 (fun j hj => hfz3 j (by omega))).mono ?_
            rintro e w' ⟨rfl, rfl⟩
            have hdl : (m.drop (i * 2)).length = (a0.length - i) * 2 := by rw [List.length_drop, hm]; omega
            have hs1 : (splice cc.toList ((i + 1) * 2) (m.drop (i * 2))).length = cc.size := by rw [splice_len (by omega)]; exact hccl
            have hsl : (splice (splice cc.toList ((i + 1) * 2) (m.drop (i * 2))) (i * 2) X).length = cc.size := by rw [splice_len (by omega)]; exact hs1
            refine ⟨_, rfl, ins_row (l := a0) (x := x) (i := i) (g := g) (cap := cap) (cc' := (splice (splice cc.toList ((i + 1) * 2) (m.drop (i * 2))) (i * 2) X).toArray) (fz := fz) (m := m) (q' := q.drop 2) (X := X) (G := G) (GX := GX) b1 hg (putB_same hgl) (by rw [hz, hc, show (i + 1) * 2 = i * 2 + 2 by omega]; exact splice_shift (by omega) hX (by omega)) hr hx (fun j hj => hfz j (by rw [List.size_toArray, hsl] at hj; exact hj)) (by rw [hz, List.size_toArray, hsl]; exact hcs) hcm (fun _ => List.mem_append_left _ (List.mem_cons_self ..)) hGL hng hnd (fun k _ hk => putB_other hk) (by rw [putB_sz]; exact Nat.le_refl _) rfl rfl rfl⟩
    refine key.mono ?_
    rintro e w' ⟨v', rfl, F, hs, hnd, hblk, hos, htp, hot, hsz, hfr⟩
    have hval : (a0.take (i : Int).toNat ++ [x] ++ a0.drop (i : Int).toNat) = insL a0 i x := by simp [insL]
    refine ⟨[v'], F, [], rfl, ⟨[v'], [], F, [], rfl, by simp, rfl, ⟨v', rfl, .inl ?_⟩, rfl, rfl⟩, ?_, by simpa using hnd, by simpa using hblk, hos, htp, hot, hsz, hfr⟩
    · show SlRep w' true false (U.sz ((.pair (.int .i64) (.pair (.int .i64) .unit)))) (Rep w' true ((.pair (.int .i64) (.pair (.int .i64) .unit)))) (a0.take (i : Int).toNat ++ [x] ++ a0.drop (i : Int).toNat) v' F
      rw [hval]; exact hs
    · change OutsRep _ w' [Arg.g (.sl false ((.pair (.int .i64) (.pair (.int .i64) .unit)))) a0, Arg.v (.int .i64) (i : Int), Arg.g (.sl false ((.pair (.int .i64) (.pair (.int .i64) .unit)))) [x]] _ _ _
      simp only [OutsRep, OutRep]
      exact ⟨_, _, [], [], [], [], rfl, rfl, rfl, ⟨rfl, rfl⟩, _, _, [], [], [], [], rfl, rfl, rfl, ⟨rfl, rfl⟩, _, _, [], [], [], [], rfl, rfl, rfl, ⟨rfl, rfl⟩, rfl, rfl⟩


/-! loop.example/g00039/impl.put -/
def impl_put.T : List Ctr := [impl_isTime.spec, impl_GoodLabels.spec, impl_valueOf.spec, slices_Clone_Label.spec, impl_findSeries.spec, slices_Insert_Series.spec, impl_findSample.spec, slices_Insert_Sample.spec]
def impl_put.md : List (Nat × List Md) := [(100, [.g (.sl false (.pair (.sl false (.pair .str (.pair .str .unit))) (.pair (.sl false (.pair (.int .i64) (.pair (.int .i64) .unit))) .unit))), .v, .g (.sl false (.pair (.sl false (.pair .str (.pair .str .unit))) (.pair (.sl false (.pair (.int .i64) (.pair (.int .i64) .unit))) .unit)))]), (102, [.g (.sl false (.pair (.int .i64) (.pair (.int .i64) .unit))), .v, .g (.sl false (.pair (.int .i64) (.pair (.int .i64) .unit)))])]
noncomputable def impl_put.F : Fun := ⟨(Go.Proofs.Tryz.f62.body).getD .skip, [.p (.pair (.int .i64) (.pair (.int .i64) (.pair (.int .i64) (.pair (.sl false (.pair (.sl false (.pair .str (.pair .str .unit))) (.pair (.sl false (.pair (.int .i64) (.pair (.int .i64) .unit))) .unit))) .unit)))), .v (.pair (.sl false (.pair .str (.pair .str .unit))) (.pair (.int .i64) (.pair (.int .i64) .unit))), .v (.int .i64)], [(.tmp 6, (.int .i64))], [some (.pair (.int .i64) (.pair (.int .i64) (.pair (.int .i64) (.pair (.sl false (.pair (.sl false (.pair .str (.pair .str .unit))) (.pair (.sl false (.pair (.int .i64) (.pair (.int .i64) .unit))) .unit))) .unit))))], 1, [(4, ⟨[0, 2, 4, 20], [], [(4, 0, (.pair .str (.pair .str .unit)))], false⟩), (20, ⟨[0, 4, 42], [], [(4, 0, (.pair .str (.pair .str .unit)))], false⟩), (29, ⟨[0, 4, 7], [], [(4, 0, (.pair .str (.pair .str .unit)))], false⟩), (49, ⟨[0, 4, 8, 9, 10, 95], [], [(4, 0, (.pair .str (.pair .str .unit)))], false⟩)]⟩
inductive impl_put.Pt where
  | p0 (a0 : (Int) × ((Int) × ((Int) × ((List ((List ((ByteArray) × ((ByteArray) × (Unit)))) × ((List ((Int) × ((Int) × (Unit)))) × (Unit)))) × (Unit))))) (a1 : (List ((ByteArray) × ((ByteArray) × (Unit)))) × ((Int) × ((Int) × (Unit)))) (a2 : Int)
  | p4 (y1 : Int) (y2 : Bool) (y3 : Int) (y4 : Int) (y5 : Int) (y6 : List ((ByteArray) × ((ByteArray) × (Unit)))) (y7 : Int) (y8 : Int) (y9 : List ((List ((ByteArray) × ((ByteArray) × (Unit)))) × ((List ((Int) × ((Int) × (Unit)))) × (Unit))))
  | p20 (y1 : Bool) (y2 : Int) (y3 : Int) (y4 : Int) (y5 : List ((ByteArray) × ((ByteArray) × (Unit)))) (y6 : Int) (y7 : Int) (y8 : List ((List ((ByteArray) × ((ByteArray) × (Unit)))) × ((List ((Int) × ((Int) × (Unit)))) × (Unit))))
  | p29 (y1 : Int) (y2 : Int) (y3 : Int) (y4 : Int) (y5 : List ((ByteArray) × ((ByteArray) × (Unit)))) (y6 : Int) (y7 : Int) (y8 : List ((List ((ByteArray) × ((ByteArray) × (Unit)))) × ((List ((Int) × ((Int) × (Unit)))) × (Unit))))
  | p49 (y1 : Bool) (y2 : Nat) (y3 : Int) (y4 : Bool) (y5 : Int) (y6 : Int) (y7 : Int) (y8 : List ((ByteArray) × ((ByteArray) × (Unit)))) (y9 : Int) (y10 : Int) (y11 : List ((List ((ByteArray) × ((ByteArray) × (Unit)))) × ((List ((Int) × ((Int) × (Unit)))) × (Unit))))
def impl_put.lb : impl_put.Pt → Nat
  | .p0 _ _ _ => 0
  | .p4 _ _ _ _ _ _ _ _ _ => 4
  | .p20 _ _ _ _ _ _ _ _ => 20
  | .p29 _ _ _ _ _ _ _ _ => 29
  | .p49 _ _ _ _ _ _ _ _ _ _ _ => 49
def impl_put.st : impl_put.Pt → St
  | .p0 a0 a1 a2 => enter [.p (.pair (.int .i64) (.pair (.int .i64) (.pair (.int .i64) (.pair (.sl false (.pair (.sl false (.pair .str (.pair .str .unit))) (.pair (.sl false (.pair (.int .i64) (.pair (.int .i64) .unit))) .unit))) .unit)))) a0, .v (.pair (.sl false (.pair .str (.pair .str .unit))) (.pair (.int .i64) (.pair (.int .i64) .unit))) a1, .v (.int .i64) a2] 1
  | .p4 y1 y2 y3 y4 y5 y6 y7 y8 y9 => ⟨[(0, .po 0 0), (2, .im (.int .i64) y1), (4, .po 1 0), (20, .im .bool y2)], [(0, .obj [.im (.int .i64) y3, .im (.int .i64) y4, .im (.int .i64) y5, .hs 2 [] none 0]), (1, .obj [.im (.sl false (.pair .str (.pair .str .unit))) y6, .im (.int .i64) y7, .im (.int .i64) y8]), (2, .arr false (.pair (.sl false (.pair .str (.pair .str .unit))) (.pair (.sl false (.pair (.int .i64) (.pair (.int .i64) .unit))) .unit)) y9 0)], 3⟩
  | .p20 y1 y2 y3 y4 y5 y6 y7 y8 => ⟨[(0, .po 0 0), (4, .po 1 0), (42, .im .bool y1)], [(0, .obj [.im (.int .i64) y2, .im (.int .i64) y3, .im (.int .i64) y4, .hs 2 [] none 0]), (1, .obj [.im (.sl false (.pair .str (.pair .str .unit))) y5, .im (.int .i64) y6, .im (.int .i64) y7]), (2, .arr false (.pair (.sl false (.pair .str (.pair .str .unit))) (.pair (.sl false (.pair (.int .i64) (.pair (.int .i64) .unit))) .unit)) y8 0)], 3⟩
  | .p29 y1 y2 y3 y4 y5 y6 y7 y8 => ⟨[(0, .po 0 0), (4, .po 1 0), (7, .im (.int .i64) y1)], [(0, .obj [.im (.int .i64) y2, .im (.int .i64) y3, .im (.int .i64) y4, .hs 2 [] none 0]), (1, .obj [.im (.sl false (.pair .str (.pair .str .unit))) y5, .im (.int .i64) y6, .im (.int .i64) y7]), (2, .arr false (.pair (.sl false (.pair .str (.pair .str .unit))) (.pair (.sl false (.pair (.int .i64) (.pair (.int .i64) .unit))) .unit)) y8 0)], 3⟩
  | .p49 y1 y2 y3 y4 y5 y6 y7 y8 y9 y10 y11 => ⟨[(0, .po 0 0), (4, .po 1 0), (8, .im .bool y1), (9, .pe 2 [] 0 y2 0), (10, .im (.int .i64) y3), (95, .im .bool y4)], [(0, .obj [.im (.int .i64) y5, .im (.int .i64) y6, .im (.int .i64) y7, .hs 2 [] none 0]), (1, .obj [.im (.sl false (.pair .str (.pair .str .unit))) y8, .im (.int .i64) y9, .im (.int .i64) y10]), (2, .arr false (.pair (.sl false (.pair .str (.pair .str .unit))) (.pair (.sl false (.pair (.int .i64) (.pair (.int .i64) .unit))) .unit)) y11 0)], 3⟩
def impl_put.step (n : Nat) (K : impl_put.Pt → Option (Tup [(.int .i64), (.pair (.int .i64) (.pair (.int .i64) (.pair (.int .i64) (.pair (.sl false (.pair (.sl false (.pair .str (.pair .str .unit))) (.pair (.sl false (.pair (.int .i64) (.pair (.int .i64) .unit))) .unit))) .unit))))])) : impl_put.Pt → Option (Tup [(.int .i64), (.pair (.int .i64) (.pair (.int .i64) (.pair (.int .i64) (.pair (.sl false (.pair (.sl false (.pair .str (.pair .str .unit))) (.pair (.sl false (.pair (.int .i64) (.pair (.int .i64) .unit))) .unit))) .unit))))])
  | .p0 a0 a1 a2 => (impl_GoodLabels n a1.1).bind fun r6 => cond (!r6) (K (.p4 a2 true a0.1 a0.2.1 a0.2.2.1 a1.1 a1.2.1 a1.2.2.1 a0.2.2.2.1)) ((impl_valueOf n a1.1 (⟨#[95, 110, 97, 109, 101]⟩ : ByteArray)).bind fun r7 => K (.p4 a2 (seq r7 (⟨#[]⟩ : ByteArray)) a0.1 a0.2.1 a0.2.2.1 a1.1 a1.2.1 a1.2.2.1 a0.2.2.2.1))
  | .p4 y1 y2 y3 y4 y5 y6 y7 y8 y9 => cond y2 (some ((1 : Int), (y3, (y4, (y5, (y9, ())))))) ((impl_isTime n y7).bind fun r12 => cond (!r12) (some ((2 : Int), (y3, (y4, (y5, (y9, ())))))) (cond (decide (y7 < (IntKind.wrap .i64 (y5 - y3)))) (K (.p20 true y3 y4 y5 y6 y7 y8 y9)) (K (.p20 (decide (y7 < y1)) y3 y4 y5 y6 y7 y8 y9))))
  | .p20 y1 y2 y3 y4 y5 y6 y7 y8 => cond y1 (some ((3 : Int), (y2, (y3, (y4, (y8, ())))))) ((impl_findSeries n y8 y5).bind fun r11 => cond (!r11.2) (cond (decide (y3 ≤ ((List.length y8) : Int))) (some ((4 : Int), (y2, (y3, (y4, (y8, ())))))) ((slices_Clone_Label n y5).bind fun r12 => (slices_Insert_Series n y8 r11.1 [(r12, (([] : List ((Int) × ((Int) × (Unit)))), ()))]).bind fun r13 => K (.p29 r11.1 y2 y3 y4 y5 y6 y7 r13))) (K (.p29 r11.1 y2 y3 y4 y5 y6 y7 y8)))
  | .p29 y1 y2 y3 y4 y5 y6 y7 y8 => cond (inB y1 (List.length y8)) ((impl_findSample n (List.getD y8 (0 + (Int.toNat y1)) default).2.1 y6).bind fun r11 => cond r11.2 (cond (inB r11.1 (List.length (List.getD y8 (0 + (Int.toNat y1)) default).2.1)) (K (.p49 r11.2 (0 + (Int.toNat y1)) r11.1 (decide ((List.getD (List.getD y8 (0 + (Int.toNat y1)) default).2.1 (0 + (Int.toNat r11.1)) default).2.1 = y7)) y2 y3 y4 y5 y6 y7 y8)) (none)) (K (.p49 r11.2 (0 + (Int.toNat y1)) r11.1 false y2 y3 y4 y5 y6 y7 y8))) (none)
  | .p49 y1 y2 y3 y4 y5 y6 y7 y8 y9 y10 y11 => cond y4 (some ((6 : Int), (y5, (y6, (y7, (y11, ())))))) (cond y1 (some ((5 : Int), (y5, (y6, (y7, (y11, ())))))) (cond (decide ((2000 : Int) ≤ ((List.length (List.getD y11 y2 default).2.1) : Int))) (some ((7 : Int), (y5, (y6, (y7, (y11, ())))))) ((slices_Insert_Sample n (List.getD y11 y2 default).2.1 y3 [(y9, (y10, ()))]).bind fun r14 => cond (Nat.beq y2 y2) (some ((0 : Int), (y5, (y6, ((max y7 y9), ((List.set y11 y2 ((List.getD y11 y2 default).1, (r14, (List.getD y11 y2 default).2.2))), ())))))) (none))))
def impl_put (n : Nat) (a0 : (Int) × ((Int) × ((Int) × ((List ((List ((ByteArray) × ((ByteArray) × (Unit)))) × ((List ((Int) × ((Int) × (Unit)))) × (Unit)))) × (Unit))))) (a1 : (List ((ByteArray) × ((ByteArray) × (Unit)))) × ((Int) × ((Int) × (Unit)))) (a2 : Int) : Option (Tup [(.int .i64), (.pair (.int .i64) (.pair (.int .i64) (.pair (.int .i64) (.pair (.sl false (.pair (.sl false (.pair .str (.pair .str .unit))) (.pair (.sl false (.pair (.int .i64) (.pair (.int .i64) .unit))) .unit))) .unit))))]) := goRec impl_put.step n (.p0 a0 a1 a2)
def impl_put.spec : Ctr := ⟨62, [.p (.pair (.int .i64) (.pair (.int .i64) (.pair (.int .i64) (.pair (.sl false (.pair (.sl false (.pair .str (.pair .str .unit))) (.pair (.sl false (.pair (.int .i64) (.pair (.int .i64) .unit))) .unit))) .unit)))), .v (.pair (.sl false (.pair .str (.pair .str .unit))) (.pair (.int .i64) (.pair (.int .i64) .unit))), .v (.int .i64)], [(.int .i64)], [(.pair (.int .i64) (.pair (.int .i64) (.pair (.int .i64) (.pair (.sl false (.pair (.sl false (.pair .str (.pair .str .unit))) (.pair (.sl false (.pair (.int .i64) (.pair (.int .i64) .unit))) .unit))) .unit))))], none, fun n x => impl_put n x.1 x.2.1 x.2.2.1⟩
theorem impl_put.seg_eq : SegEq ty gl impl_put.F impl_put.md impl_put.T impl_put.spec impl_put.lb impl_put.st impl_put.step := by
  intro n goto y; cases y <;> kernel_rfl
theorem impl_put.text : Text Go.Proofs.Tryz.prog impl_put.F impl_put.spec := textOf Go.Proofs.Tryz.f62
theorem impl_put.ok : CtrOK Go.Proofs.Tryz.prog gl impl_put.spec :=
  ctr_okS tabs impl_put.text impl_put.seg_eq (fun n x => ⟨.p0 x.1 x.2.1 x.2.2.1, rfl, rfl, rfl⟩) (consC impl_isTime.ok (consC impl_GoodLabels.ok (consC impl_valueOf.ok (consC slices_Clone_Label.ok (consC impl_findSeries.ok (consC slices_Insert_Series.ok (consC impl_findSample.ok (consC slices_Insert_Sample.ok (nilC)))))))))

end Go.PA
