/- The functions that the law reaches, each as a Lean function and with its contract, part 1. -/
import Derived.Test.YtcfcnnamjfgahabGreatV1
import Derived.Test.YtcfcnnamjfgahabGreatV2
import Derived.Test.YtcfcnnamjfgahabGreatV3
import Derived.Lib.Bytealg
import Derived.Shelf.Lays
import Derived.Shelf.Small.Strs
import Derived.Test.YtcfcnnamjfgahabGreatProg
open Go Go.VM
namespace Go.TS
set_option maxRecDepth 100000
set_option linter.unusedVariables false
set_option linter.unusedSimpArgs false
set_option linter.unusedSectionVars false
variable [Bor]
def ty : List (Nat × U) := [(1, .oth), (2, (.int .i64)), (3, (.int .i64)), (4, .bool), (5, (.int .u8)), (6, (.int .u8)), (7, (.pair (.int .i64) (.pair (.int .i64) (.pair .bool (.pair (.int .u8) .unit))))), (8, (.pair (.int .i64) (.pair (.int .i64) (.pair .bool (.pair (.int .u8) .unit))))), (9, .str), (10, .str), (11, .str), (12, (.int .u64)), (15, .oth), (16, .oth), (17, .oth), (18, (.pair .oth .unit)), (19, (.pair .oth .unit)), (20, .oth), (21, (.int .i32)), (22, (.sl false (.pair (.sl false (.pair .str (.pair .str .unit))) (.pair (.sl false (.pair (.int .i64) (.pair (.int .i64) .unit))) .unit)))), (23, (.sl false (.pair (.sl false (.pair .str (.pair (.int .i64) (.pair .str .unit)))) (.pair (.int .i64) (.pair (.int .i64) .unit))))), (24, .oth), (25, .oth), (26, (.sl false (.pair (.sl false (.pair .str (.pair .str .unit))) (.pair (.sl false (.pair (.int .i64) (.pair (.int .i64) .unit))) .unit)))), (27, .oth), (28, .oth), (29, (.sl false (.pair (.sl false (.pair .str (.pair (.int .i64) (.pair .str .unit)))) (.pair (.int .i64) (.pair (.int .i64) .unit))))), (30, .oth), (31, .oth), (32, .oth), (33, .oth), (34, .oth), (35, .oth), (36, (.pair (.int .i64) (.pair (.int .i64) (.pair (.int .i64) (.pair (.sl false (.pair (.sl false (.pair .str (.pair .str .unit))) (.pair (.sl false (.pair (.int .i64) (.pair (.int .i64) .unit))) .unit))) .unit))))), (37, (.pair (.int .i64) (.pair (.int .i64) (.pair (.int .i64) (.pair (.sl false (.pair (.sl false (.pair .str (.pair .str .unit))) (.pair (.sl false (.pair (.int .i64) (.pair (.int .i64) .unit))) .unit))) .unit))))), (38, (.sl false (.pair (.sl false (.pair .str (.pair .str .unit))) (.pair (.int .i64) (.pair (.int .i64) .unit))))), (39, .oth), (40, .oth), (41, (.pair (.int .i64) (.pair (.int .i64) (.pair (.int .i64) (.pair (.sl false (.pair (.sl false (.pair .str (.pair .str .unit))) (.pair (.sl false (.pair (.int .i64) (.pair (.int .i64) .unit))) .unit))) .unit))))), (42, (.pair (.int .i64) (.pair (.int .i64) (.pair (.int .i64) (.pair (.sl false (.pair (.sl false (.pair .str (.pair .str .unit))) (.pair (.sl false (.pair (.int .i64) (.pair (.int .i64) .unit))) .unit))) .unit))))), (43, (.sl false (.int .i64))), (45, .oth), (46, .oth), (47, (.sl false (.pair (.sl false (.pair .str (.pair .str .unit))) (.pair (.int .i64) (.pair (.int .i64) .unit))))), (48, .oth), (49, .oth), (50, .oth), (51, .oth), (52, .oth), (53, .oth), (54, .oth), (55, .oth), (56, .oth), (57, (.sl false (.pair .str (.pair .str .unit)))), (58, (.sl false (.pair (.int .i64) (.pair (.int .i64) .unit)))), (59, (.pair (.sl false (.pair .str (.pair .str .unit))) (.pair (.sl false (.pair (.int .i64) (.pair (.int .i64) .unit))) .unit))), (60, (.pair (.sl false (.pair .str (.pair .str .unit))) (.pair (.sl false (.pair (.int .i64) (.pair (.int .i64) .unit))) .unit))), (61, .oth), (62, (.sl false (.pair .str (.pair (.int .i64) (.pair .str .unit))))), (63, (.pair (.sl false (.pair .str (.pair (.int .i64) (.pair .str .unit)))) (.pair (.int .i64) (.pair (.int .i64) .unit)))), (64, (.pair (.sl false (.pair .str (.pair (.int .i64) (.pair .str .unit)))) (.pair (.int .i64) (.pair (.int .i64) .unit)))), (65, .oth), (66, (.sl false (.pair .str (.pair (.int .i64) (.pair .str .unit))))), (67, (.pair (.sl false (.pair .str (.pair (.int .i64) (.pair .str .unit)))) (.pair (.int .i64) (.pair (.int .i64) .unit)))), (68, (.pair (.sl false (.pair .str (.pair (.int .i64) (.pair .str .unit)))) (.pair (.int .i64) (.pair (.int .i64) .unit)))), (69, .oth), (70, (.sl false (.pair .str (.pair .str .unit)))), (71, (.sl false (.pair (.int .i64) (.pair (.int .i64) .unit)))), (72, (.pair (.sl false (.pair .str (.pair .str .unit))) (.pair (.sl false (.pair (.int .i64) (.pair (.int .i64) .unit))) .unit))), (73, (.pair (.sl false (.pair .str (.pair .str .unit))) (.pair (.sl false (.pair (.int .i64) (.pair (.int .i64) .unit))) .unit))), (74, .oth), (75, .oth), (76, .oth), (77, .oth), (78, .oth), (79, .oth), (80, .oth), (81, (.pair (.int .i64) (.pair (.int .i64) .unit))), (82, (.pair (.int .i64) (.pair (.int .i64) .unit))), (83, .oth), (84, .oth), (85, (.pair .str (.pair .str .unit))), (86, (.pair .str (.pair .str .unit))), (87, .oth), (88, .oth), (89, .oth), (90, .oth), (91, .oth), (92, .oth), (93, (.pair (.sl false (.pair .str (.pair .str .unit))) (.pair (.int .i64) (.pair (.int .i64) .unit)))), (94, (.pair (.sl false (.pair .str (.pair .str .unit))) (.pair (.int .i64) (.pair (.int .i64) .unit)))), (95, .oth), (96, .oth), (97, (.pair (.sl false (.pair .str (.pair .str .unit))) (.pair (.int .i64) (.pair (.int .i64) .unit)))), (98, (.pair (.sl false (.pair .str (.pair .str .unit))) (.pair (.int .i64) (.pair (.int .i64) .unit)))), (99, .oth), (100, .oth), (101, .oth), (102, .oth), (103, .oth), (104, .oth), (105, .oth), (106, .oth), (107, .oth), (108, .oth), (109, .oth), (110, (.pair .str (.pair (.int .i64) (.pair .str .unit)))), (111, (.pair .str (.pair (.int .i64) (.pair .str .unit)))), (112, .oth), (113, .oth), (114, .oth), (115, .oth), (116, .oth), (117, .oth), (118, .oth), (119, .oth), (120, .oth), (121, .oth), (122, .oth), (123, .oth), (124, .oth), (125, .oth), (126, .oth), (128, .oth), (129, .oth), (130, .oth), (131, .oth), (132, .oth), (133, .oth), (134, .oth), (135, .oth), (136, .oth), (137, (.pair .str (.pair .str .unit))), (138, .oth), (139, (.pair .str (.pair (.int .i64) (.pair .str .unit)))), (140, .oth), (141, .oth), (142, .oth), (143, (.sl false (.sl false (.int .i64)))), (145, .oth), (146, .oth), (147, .oth), (148, .oth), (149, (.pair (.int .i64) (.pair (.int .i64) .unit))), (150, .oth), (151, .oth), (152, .oth), (153, .oth), (154, .oth), (155, .oth), (156, .oth), (157, .oth), (158, (.sl false (.int .u8))), (159, .oth), (160, .oth), (161, .oth), (162, .oth), (163, .oth), (164, .oth), (165, (.sl false (.sl false (.pair (.int .u8) (.pair .bool (.pair .bool .unit)))))), (167, .oth), (168, (.sl false .str)), (170, .oth), (171, (.int .u64)), (172, (.sl false .bool)), (173, .oth), (174, (.pair (.int .u8) (.pair .bool (.pair .bool .unit)))), (175, (.pair (.int .u8) (.pair .bool (.pair .bool .unit)))), (176, (.sl false (.pair (.int .u8) (.pair .bool (.pair .bool .unit))))), (177, .oth), (178, .oth), (179, .oth), (180, .oth), (181, .oth), (182, (.sl false (.sl false .bool))), (183, .oth), (184, (.pair .oth (.pair .oth (.pair .oth (.pair .str .unit))))), (185, (.pair .oth (.pair .oth (.pair .oth (.pair .str .unit))))), (186, (.ar 0 .oth)), (189, .oth), (190, (.int .u32)), (191, (.int .u8)), (192, (.int .u8)), (193, .oth), (194, .oth), (195, (.int .i32)), (196, (.int .i32)), (197, (.pair (.int .u64) (.pair (.int .u64) (.pair (.int .u32) (.pair (.int .u8) (.pair (.int .u8) (.pair (.int .u8) (.pair (.int .u8) (.pair .oth (.pair .oth (.pair (.int .i32) (.pair (.int .i32) .unit)))))))))))), (198, (.pair (.int .u64) (.pair (.int .u64) (.pair (.int .u32) (.pair (.int .u8) (.pair (.int .u8) (.pair (.int .u8) (.pair (.int .u8) (.pair .oth (.pair .oth (.pair (.int .i32) (.pair (.int .i32) .unit)))))))))))), (199, .oth)]
def tyN : List (Nat × U) := [(23, (.sl false (.pair (.bs (.pair .str (.pair (.int .i64) (.pair .str .unit)))) (.pair (.int .i64) (.pair (.int .i64) .unit))))), (29, (.sl false (.pair (.bs (.pair .str (.pair (.int .i64) (.pair .str .unit)))) (.pair (.int .i64) (.pair (.int .i64) .unit))))), (63, (.pair (.bs (.pair .str (.pair (.int .i64) (.pair .str .unit)))) (.pair (.int .i64) (.pair (.int .i64) .unit)))), (64, (.pair (.bs (.pair .str (.pair (.int .i64) (.pair .str .unit)))) (.pair (.int .i64) (.pair (.int .i64) .unit)))), (67, (.pair (.bs (.pair .str (.pair (.int .i64) (.pair .str .unit)))) (.pair (.int .i64) (.pair (.int .i64) .unit)))), (68, (.pair (.bs (.pair .str (.pair (.int .i64) (.pair .str .unit)))) (.pair (.int .i64) (.pair (.int .i64) .unit))))] ++ ty
def gl : List (Nat × TV) := []
theorem tabs : Tabs Go.Proofs.Tryz.prog ty gl := tabs_of (by kernel_rfl) (by kernel_rfl)
theorem tabsN : Tabs Go.Proofs.Tryz.prog tyN gl := tabs_of (by kernel_rfl) (by kernel_rfl)
/-! loop.example/g00039/laws.szLabel -/
def laws_szLabel.T : List Ctr := []
def laws_szLabel.md : List (Nat × List Md) := []
noncomputable def laws_szLabel.F : Fun := ⟨(Go.Proofs.Tryz.f103.body).getD .skip, [.v (.pair .str (.pair .str .unit)), .v (.int .i64)], [(.tmp 4, (.int .i64))], [], 0, []⟩
inductive laws_szLabel.Pt where
  | p0 (a0 : (ByteArray) × ((ByteArray) × (Unit))) (a1 : Int)
def laws_szLabel.lb : laws_szLabel.Pt → Nat
  | .p0 _ _ => 0
def laws_szLabel.st : laws_szLabel.Pt → St
  | .p0 a0 a1 => enter [.v (.pair .str (.pair .str .unit)) a0, .v (.int .i64) a1] 0
def laws_szLabel.step (n : Nat) (K : laws_szLabel.Pt → Option (Tup [(.int .i64)])) : laws_szLabel.Pt → Option (Tup [(.int .i64)])
  | .p0 a0 a1 => cond (decide ((IntKind.wrap .i64 (a1 - ((ByteArray.size a0.1) : Int))) < (0 : Int))) (some (-(1 : Int))) (cond (decide ((IntKind.wrap .i64 ((IntKind.wrap .i64 (a1 - ((ByteArray.size a0.1) : Int))) - ((ByteArray.size a0.2.1) : Int))) < (0 : Int))) (some (-(1 : Int))) (some (IntKind.wrap .i64 ((IntKind.wrap .i64 (a1 - ((ByteArray.size a0.1) : Int))) - ((ByteArray.size a0.2.1) : Int)))))
def laws_szLabel (n : Nat) (a0 : (ByteArray) × ((ByteArray) × (Unit))) (a1 : Int) : Option (Tup [(.int .i64)]) := goRec laws_szLabel.step n (.p0 a0 a1)
def laws_szLabel.spec : Ctr := ⟨103, [.v (.pair .str (.pair .str .unit)), .v (.int .i64)], [(.int .i64)], [], none, fun n x => laws_szLabel n x.1 x.2.1⟩
theorem laws_szLabel.seg_eq : SegEq ty gl laws_szLabel.F laws_szLabel.md laws_szLabel.T laws_szLabel.spec laws_szLabel.lb laws_szLabel.st laws_szLabel.step := by
  intro n goto y; cases y <;> kernel_rfl
theorem laws_szLabel.text : Text Go.Proofs.Tryz.prog laws_szLabel.F laws_szLabel.spec := textOf Go.Proofs.Tryz.f103
theorem laws_szLabel.ok : CtrOK Go.Proofs.Tryz.prog gl laws_szLabel.spec :=
  ctr_okS tabs laws_szLabel.text laws_szLabel.seg_eq (fun n x => ⟨.p0 x.1 x.2.1, rfl, rfl, rfl⟩) (nilC)

/-! loop.example/g00039/laws.szLabelS -/
def laws_szLabelS.T : List Ctr := [laws_szLabel.spec]
def laws_szLabelS.md : List (Nat × List Md) := []
noncomputable def laws_szLabelS.F : Fun := ⟨(Go.Proofs.Tryz.f64.body).getD .skip, [.v (.sl false (.pair .str (.pair .str .unit))), .v (.int .i64)], [(.tmp 4, (.int .i64))], [], 0, [(17, ⟨[0, 1, 5], [], [], false⟩)]⟩
inductive laws_szLabelS.Pt where
  | p0 (a0 : List ((ByteArray) × ((ByteArray) × (Unit)))) (a1 : Int)
  | p17 (y1 : List ((ByteArray) × ((ByteArray) × (Unit)))) (y2 : Int) (y3 : Int)
def laws_szLabelS.lb : laws_szLabelS.Pt → Nat
  | .p0 _ _ => 0
  | .p17 _ _ _ => 17
def laws_szLabelS.st : laws_szLabelS.Pt → St
  | .p0 a0 a1 => enter [.v (.sl false (.pair .str (.pair .str .unit))) a0, .v (.int .i64) a1] 0
  | .p17 y1 y2 y3 => ⟨[(0, .im (.sl false (.pair .str (.pair .str .unit))) y1), (1, .im (.int .i64) y2), (5, .im (.int .i64) y3)], [], 0⟩
def laws_szLabelS.step (n : Nat) (K : laws_szLabelS.Pt → Option (Tup [(.int .i64)])) : laws_szLabelS.Pt → Option (Tup [(.int .i64)])
  | .p0 a0 a1 => cond (decide ((IntKind.wrap .i64 (a1 - ((List.length a0) : Int))) < (0 : Int))) (some (-(1 : Int))) (K (.p17 a0 (IntKind.wrap .i64 (a1 - ((List.length a0) : Int))) (0 : Int)))
  | .p17 y1 y2 y3 => cond (decide (y3 < ((List.length y1) : Int))) (cond (inB y3 (List.length y1)) ((laws_szLabel n (List.getD y1 (Int.toNat y3) default) y2).bind fun (r6 : Int) => cond (decide (r6 < (0 : Int))) (some (-(1 : Int))) (K (.p17 y1 r6 (IntKind.wrap .i64 (y3 + (1 : Int)))))) (none)) (some y2)
def laws_szLabelS (n : Nat) (a0 : List ((ByteArray) × ((ByteArray) × (Unit)))) (a1 : Int) : Option (Tup [(.int .i64)]) := goRec laws_szLabelS.step n (.p0 a0 a1)
def laws_szLabelS.spec : Ctr := ⟨64, [.v (.sl false (.pair .str (.pair .str .unit))), .v (.int .i64)], [(.int .i64)], [], none, fun n x => laws_szLabelS n x.1 x.2.1⟩
theorem laws_szLabelS.seg_eq : SegEq ty gl laws_szLabelS.F laws_szLabelS.md laws_szLabelS.T laws_szLabelS.spec laws_szLabelS.lb laws_szLabelS.st laws_szLabelS.step := by
  intro n goto y; cases y <;> kernel_rfl
theorem laws_szLabelS.text : Text Go.Proofs.Tryz.prog laws_szLabelS.F laws_szLabelS.spec := textOf Go.Proofs.Tryz.f64
theorem laws_szLabelS.ok : CtrOK Go.Proofs.Tryz.prog gl laws_szLabelS.spec :=
  ctr_okS tabs laws_szLabelS.text laws_szLabelS.seg_eq (fun n x => ⟨.p0 x.1 x.2.1, rfl, rfl, rfl⟩) (consC laws_szLabel.ok (nilC))

/-! loop.example/g00039/laws.szSampleS -/
def laws_szSampleS.T : List Ctr := []
def laws_szSampleS.md : List (Nat × List Md) := []
noncomputable def laws_szSampleS.F : Fun := ⟨(Go.Proofs.Tryz.f65.body).getD .skip, [.v (.sl false (.pair (.int .i64) (.pair (.int .i64) .unit))), .v (.int .i64)], [(.tmp 4, (.int .i64))], [], 0, []⟩
inductive laws_szSampleS.Pt where
  | p0 (a0 : List ((Int) × ((Int) × (Unit)))) (a1 : Int)
def laws_szSampleS.lb : laws_szSampleS.Pt → Nat
  | .p0 _ _ => 0
def laws_szSampleS.st : laws_szSampleS.Pt → St
  | .p0 a0 a1 => enter [.v (.sl false (.pair (.int .i64) (.pair (.int .i64) .unit))) a0, .v (.int .i64) a1] 0
def laws_szSampleS.step (n : Nat) (K : laws_szSampleS.Pt → Option (Tup [(.int .i64)])) : laws_szSampleS.Pt → Option (Tup [(.int .i64)])
  | .p0 a0 a1 => cond (decide ((IntKind.wrap .i64 (a1 - ((List.length a0) : Int))) < (0 : Int))) (some (-(1 : Int))) (some (IntKind.wrap .i64 (a1 - ((List.length a0) : Int))))
def laws_szSampleS (n : Nat) (a0 : List ((Int) × ((Int) × (Unit)))) (a1 : Int) : Option (Tup [(.int .i64)]) := goRec laws_szSampleS.step n (.p0 a0 a1)
def laws_szSampleS.spec : Ctr := ⟨65, [.v (.sl false (.pair (.int .i64) (.pair (.int .i64) .unit))), .v (.int .i64)], [(.int .i64)], [], none, fun n x => laws_szSampleS n x.1 x.2.1⟩
theorem laws_szSampleS.seg_eq : SegEq ty gl laws_szSampleS.F laws_szSampleS.md laws_szSampleS.T laws_szSampleS.spec laws_szSampleS.lb laws_szSampleS.st laws_szSampleS.step := by
  intro n goto y; cases y <;> kernel_rfl
theorem laws_szSampleS.text : Text Go.Proofs.Tryz.prog laws_szSampleS.F laws_szSampleS.spec := textOf Go.Proofs.Tryz.f65
theorem laws_szSampleS.ok : CtrOK Go.Proofs.Tryz.prog gl laws_szSampleS.spec :=
  ctr_okS tabs laws_szSampleS.text laws_szSampleS.seg_eq (fun n x => ⟨.p0 x.1 x.2.1, rfl, rfl, rfl⟩) (nilC)

/-! loop.example/g00039/laws.szSeries -/
def laws_szSeries.T : List Ctr := [laws_szLabelS.spec, laws_szSampleS.spec]
def laws_szSeries.md : List (Nat × List Md) := []
noncomputable def laws_szSeries.F : Fun := ⟨(Go.Proofs.Tryz.f30.body).getD .skip, [.v (.pair (.sl false (.pair .str (.pair .str .unit))) (.pair (.sl false (.pair (.int .i64) (.pair (.int .i64) .unit))) .unit)), .v (.int .i64)], [(.tmp 4, (.int .i64))], [], 0, []⟩
inductive laws_szSeries.Pt where
  | p0 (a0 : (List ((ByteArray) × ((ByteArray) × (Unit)))) × ((List ((Int) × ((Int) × (Unit)))) × (Unit))) (a1 : Int)
def laws_szSeries.lb : laws_szSeries.Pt → Nat
  | .p0 _ _ => 0
def laws_szSeries.st : laws_szSeries.Pt → St
  | .p0 a0 a1 => enter [.v (.pair (.sl false (.pair .str (.pair .str .unit))) (.pair (.sl false (.pair (.int .i64) (.pair (.int .i64) .unit))) .unit)) a0, .v (.int .i64) a1] 0
def laws_szSeries.step (n : Nat) (K : laws_szSeries.Pt → Option (Tup [(.int .i64)])) : laws_szSeries.Pt → Option (Tup [(.int .i64)])
  | .p0 a0 a1 => (laws_szLabelS n a0.1 a1).bind fun (r5 : Int) => cond (decide (r5 < (0 : Int))) (some (-(1 : Int))) ((laws_szSampleS n a0.2.1 r5).bind fun (r6 : Int) => cond (decide (r6 < (0 : Int))) (some (-(1 : Int))) (some r6))
def laws_szSeries (n : Nat) (a0 : (List ((ByteArray) × ((ByteArray) × (Unit)))) × ((List ((Int) × ((Int) × (Unit)))) × (Unit))) (a1 : Int) : Option (Tup [(.int .i64)]) := goRec laws_szSeries.step n (.p0 a0 a1)
def laws_szSeries.spec : Ctr := ⟨30, [.v (.pair (.sl false (.pair .str (.pair .str .unit))) (.pair (.sl false (.pair (.int .i64) (.pair (.int .i64) .unit))) .unit)), .v (.int .i64)], [(.int .i64)], [], none, fun n x => laws_szSeries n x.1 x.2.1⟩
theorem laws_szSeries.seg_eq : SegEq ty gl laws_szSeries.F laws_szSeries.md laws_szSeries.T laws_szSeries.spec laws_szSeries.lb laws_szSeries.st laws_szSeries.step := by
  intro n goto y; cases y <;> kernel_rfl
theorem laws_szSeries.text : Text Go.Proofs.Tryz.prog laws_szSeries.F laws_szSeries.spec := textOf Go.Proofs.Tryz.f30
theorem laws_szSeries.ok : CtrOK Go.Proofs.Tryz.prog gl laws_szSeries.spec :=
  ctr_okS tabs laws_szSeries.text laws_szSeries.seg_eq (fun n x => ⟨.p0 x.1 x.2.1, rfl, rfl, rfl⟩) (consC laws_szLabelS.ok (consC laws_szSampleS.ok (nilC)))

/-! loop.example/g00039/laws.szSeriesS -/
def laws_szSeriesS.T : List Ctr := [laws_szSeries.spec]
def laws_szSeriesS.md : List (Nat × List Md) := []
noncomputable def laws_szSeriesS.F : Fun := ⟨(Go.Proofs.Tryz.f5.body).getD .skip, [.v (.sl false (.pair (.sl false (.pair .str (.pair .str .unit))) (.pair (.sl false (.pair (.int .i64) (.pair (.int .i64) .unit))) .unit))), .v (.int .i64)], [(.tmp 4, (.int .i64))], [], 0, [(17, ⟨[0, 1, 5], [], [], false⟩)]⟩
inductive laws_szSeriesS.Pt where
  | p0 (a0 : List ((List ((ByteArray) × ((ByteArray) × (Unit)))) × ((List ((Int) × ((Int) × (Unit)))) × (Unit)))) (a1 : Int)
  | p17 (y1 : List ((List ((ByteArray) × ((ByteArray) × (Unit)))) × ((List ((Int) × ((Int) × (Unit)))) × (Unit)))) (y2 : Int) (y3 : Int)
def laws_szSeriesS.lb : laws_szSeriesS.Pt → Nat
  | .p0 _ _ => 0
  | .p17 _ _ _ => 17
def laws_szSeriesS.st : laws_szSeriesS.Pt → St
  | .p0 a0 a1 => enter [.v (.sl false (.pair (.sl false (.pair .str (.pair .str .unit))) (.pair (.sl false (.pair (.int .i64) (.pair (.int .i64) .unit))) .unit))) a0, .v (.int .i64) a1] 0
  | .p17 y1 y2 y3 => ⟨[(0, .im (.sl false (.pair (.sl false (.pair .str (.pair .str .unit))) (.pair (.sl false (.pair (.int .i64) (.pair (.int .i64) .unit))) .unit))) y1), (1, .im (.int .i64) y2), (5, .im (.int .i64) y3)], [], 0⟩
def laws_szSeriesS.step (n : Nat) (K : laws_szSeriesS.Pt → Option (Tup [(.int .i64)])) : laws_szSeriesS.Pt → Option (Tup [(.int .i64)])
  | .p0 a0 a1 => cond (decide ((IntKind.wrap .i64 (a1 - ((List.length a0) : Int))) < (0 : Int))) (some (-(1 : Int))) (K (.p17 a0 (IntKind.wrap .i64 (a1 - ((List.length a0) : Int))) (0 : Int)))
  | .p17 y1 y2 y3 => cond (decide (y3 < ((List.length y1) : Int))) (cond (inB y3 (List.length y1)) ((laws_szSeries n ((List.getD y1 (Int.toNat y3) default).1, ((List.getD y1 (Int.toNat y3) default).2.1, ())) y2).bind fun (r6 : Int) => cond (decide (r6 < (0 : Int))) (some (-(1 : Int))) (K (.p17 y1 r6 (IntKind.wrap .i64 (y3 + (1 : Int)))))) (none)) (some y2)
def laws_szSeriesS (n : Nat) (a0 : List ((List ((ByteArray) × ((ByteArray) × (Unit)))) × ((List ((Int) × ((Int) × (Unit)))) × (Unit)))) (a1 : Int) : Option (Tup [(.int .i64)]) := goRec laws_szSeriesS.step n (.p0 a0 a1)
def laws_szSeriesS.spec : Ctr := ⟨5, [.v (.sl false (.pair (.sl false (.pair .str (.pair .str .unit))) (.pair (.sl false (.pair (.int .i64) (.pair (.int .i64) .unit))) .unit))), .v (.int .i64)], [(.int .i64)], [], none, fun n x => laws_szSeriesS n x.1 x.2.1⟩
theorem laws_szSeriesS.seg_eq : SegEq ty gl laws_szSeriesS.F laws_szSeriesS.md laws_szSeriesS.T laws_szSeriesS.spec laws_szSeriesS.lb laws_szSeriesS.st laws_szSeriesS.step := by
  intro n goto y; cases y <;> kernel_rfl
theorem laws_szSeriesS.text : Text Go.Proofs.Tryz.prog laws_szSeriesS.F laws_szSeriesS.spec := textOf Go.Proofs.Tryz.f5
theorem laws_szSeriesS.ok : CtrOK Go.Proofs.Tryz.prog gl laws_szSeriesS.spec :=
  ctr_okS tabs laws_szSeriesS.text laws_szSeriesS.seg_eq (fun n x => ⟨.p0 x.1 x.2.1, rfl, rfl, rfl⟩) (consC laws_szSeries.ok (nilC))

/-! loop.example/g00039/laws.szMatcher -/
def laws_szMatcher.T : List Ctr := []
def laws_szMatcher.md : List (Nat × List Md) := []
noncomputable def laws_szMatcher.F : Fun := ⟨(Go.Proofs.Tryz.f104.body).getD .skip, [.v (.pair .str (.pair (.int .i64) (.pair .str .unit))), .v (.int .i64)], [(.tmp 4, (.int .i64))], [], 0, []⟩
inductive laws_szMatcher.Pt where
  | p0 (a0 : (ByteArray) × ((Int) × ((ByteArray) × (Unit)))) (a1 : Int)
def laws_szMatcher.lb : laws_szMatcher.Pt → Nat
  | .p0 _ _ => 0
def laws_szMatcher.st : laws_szMatcher.Pt → St
  | .p0 a0 a1 => enter [.v (.pair .str (.pair (.int .i64) (.pair .str .unit))) a0, .v (.int .i64) a1] 0
def laws_szMatcher.step (n : Nat) (K : laws_szMatcher.Pt → Option (Tup [(.int .i64)])) : laws_szMatcher.Pt → Option (Tup [(.int .i64)])
  | .p0 a0 a1 => cond (decide ((IntKind.wrap .i64 (a1 - ((ByteArray.size a0.1) : Int))) < (0 : Int))) (some (-(1 : Int))) (cond (decide ((IntKind.wrap .i64 ((IntKind.wrap .i64 (a1 - ((ByteArray.size a0.1) : Int))) - ((ByteArray.size a0.2.2.1) : Int))) < (0 : Int))) (some (-(1 : Int))) (some (IntKind.wrap .i64 ((IntKind.wrap .i64 (a1 - ((ByteArray.size a0.1) : Int))) - ((ByteArray.size a0.2.2.1) : Int)))))
def laws_szMatcher (n : Nat) (a0 : (ByteArray) × ((Int) × ((ByteArray) × (Unit)))) (a1 : Int) : Option (Tup [(.int .i64)]) := goRec laws_szMatcher.step n (.p0 a0 a1)
def laws_szMatcher.spec : Ctr := ⟨104, [.v (.pair .str (.pair (.int .i64) (.pair .str .unit))), .v (.int .i64)], [(.int .i64)], [], none, fun n x => laws_szMatcher n x.1 x.2.1⟩
theorem laws_szMatcher.seg_eq : SegEq ty gl laws_szMatcher.F laws_szMatcher.md laws_szMatcher.T laws_szMatcher.spec laws_szMatcher.lb laws_szMatcher.st laws_szMatcher.step := by
  intro n goto y; cases y <;> kernel_rfl
theorem laws_szMatcher.text : Text Go.Proofs.Tryz.prog laws_szMatcher.F laws_szMatcher.spec := textOf Go.Proofs.Tryz.f104
theorem laws_szMatcher.ok : CtrOK Go.Proofs.Tryz.prog gl laws_szMatcher.spec :=
  ctr_okS tabs laws_szMatcher.text laws_szMatcher.seg_eq (fun n x => ⟨.p0 x.1 x.2.1, rfl, rfl, rfl⟩) (nilC)

/-! loop.example/g00039/laws.szMatcherS -/
def laws_szMatcherS.T : List Ctr := [laws_szMatcher.spec]
def laws_szMatcherS.md : List (Nat × List Md) := []
noncomputable def laws_szMatcherS.F : Fun := ⟨(Go.Proofs.Tryz.f66.body).getD .skip, [.v (.sl false (.pair .str (.pair (.int .i64) (.pair .str .unit)))), .v (.int .i64)], [(.tmp 4, (.int .i64))], [], 0, [(17, ⟨[0, 1, 5], [], [], false⟩)]⟩
inductive laws_szMatcherS.Pt where
  | p0 (a0 : List ((ByteArray) × ((Int) × ((ByteArray) × (Unit))))) (a1 : Int)
  | p17 (y1 : List ((ByteArray) × ((Int) × ((ByteArray) × (Unit))))) (y2 : Int) (y3 : Int)
def laws_szMatcherS.lb : laws_szMatcherS.Pt → Nat
  | .p0 _ _ => 0
  | .p17 _ _ _ => 17
def laws_szMatcherS.st : laws_szMatcherS.Pt → St
  | .p0 a0 a1 => enter [.v (.sl false (.pair .str (.pair (.int .i64) (.pair .str .unit)))) a0, .v (.int .i64) a1] 0
  | .p17 y1 y2 y3 => ⟨[(0, .im (.sl false (.pair .str (.pair (.int .i64) (.pair .str .unit)))) y1), (1, .im (.int .i64) y2), (5, .im (.int .i64) y3)], [], 0⟩
def laws_szMatcherS.step (n : Nat) (K : laws_szMatcherS.Pt → Option (Tup [(.int .i64)])) : laws_szMatcherS.Pt → Option (Tup [(.int .i64)])
  | .p0 a0 a1 => cond (decide ((IntKind.wrap .i64 (a1 - ((List.length a0) : Int))) < (0 : Int))) (some (-(1 : Int))) (K (.p17 a0 (IntKind.wrap .i64 (a1 - ((List.length a0) : Int))) (0 : Int)))
  | .p17 y1 y2 y3 => cond (decide (y3 < ((List.length y1) : Int))) (cond (inB y3 (List.length y1)) ((laws_szMatcher n (List.getD y1 (Int.toNat y3) default) y2).bind fun (r6 : Int) => cond (decide (r6 < (0 : Int))) (some (-(1 : Int))) (K (.p17 y1 r6 (IntKind.wrap .i64 (y3 + (1 : Int)))))) (none)) (some y2)
def laws_szMatcherS (n : Nat) (a0 : List ((ByteArray) × ((Int) × ((ByteArray) × (Unit))))) (a1 : Int) : Option (Tup [(.int .i64)]) := goRec laws_szMatcherS.step n (.p0 a0 a1)
def laws_szMatcherS.spec : Ctr := ⟨66, [.v (.sl false (.pair .str (.pair (.int .i64) (.pair .str .unit)))), .v (.int .i64)], [(.int .i64)], [], none, fun n x => laws_szMatcherS n x.1 x.2.1⟩
theorem laws_szMatcherS.seg_eq : SegEq ty gl laws_szMatcherS.F laws_szMatcherS.md laws_szMatcherS.T laws_szMatcherS.spec laws_szMatcherS.lb laws_szMatcherS.st laws_szMatcherS.step := by
  intro n goto y; cases y <;> kernel_rfl
theorem laws_szMatcherS.text : Text Go.Proofs.Tryz.prog laws_szMatcherS.F laws_szMatcherS.spec := textOf Go.Proofs.Tryz.f66
theorem laws_szMatcherS.ok : CtrOK Go.Proofs.Tryz.prog gl laws_szMatcherS.spec :=
  ctr_okS tabs laws_szMatcherS.text laws_szMatcherS.seg_eq (fun n x => ⟨.p0 x.1 x.2.1, rfl, rfl, rfl⟩) (consC laws_szMatcher.ok (nilC))

/-! loop.example/g00039/laws.szNeed -/
def laws_szNeed.T : List Ctr := [laws_szMatcherS.spec]
def laws_szNeed.md : List (Nat × List Md) := []
noncomputable def laws_szNeed.F : Fun := ⟨(Go.Proofs.Tryz.f31.body).getD .skip, [.v (.pair (.sl false (.pair .str (.pair (.int .i64) (.pair .str .unit)))) (.pair (.int .i64) (.pair (.int .i64) .unit))), .v (.int .i64)], [(.tmp 4, (.int .i64))], [], 0, []⟩
inductive laws_szNeed.Pt where
  | p0 (a0 : (List ((ByteArray) × ((Int) × ((ByteArray) × (Unit))))) × ((Int) × ((Int) × (Unit)))) (a1 : Int)
def laws_szNeed.lb : laws_szNeed.Pt → Nat
  | .p0 _ _ => 0
def laws_szNeed.st : laws_szNeed.Pt → St
  | .p0 a0 a1 => enter [.v (.pair (.sl false (.pair .str (.pair (.int .i64) (.pair .str .unit)))) (.pair (.int .i64) (.pair (.int .i64) .unit))) a0, .v (.int .i64) a1] 0
def laws_szNeed.step (n : Nat) (K : laws_szNeed.Pt → Option (Tup [(.int .i64)])) : laws_szNeed.Pt → Option (Tup [(.int .i64)])
  | .p0 a0 a1 => (laws_szMatcherS n a0.1 a1).bind fun (r5 : Int) => cond (decide (r5 < (0 : Int))) (some (-(1 : Int))) (some r5)
def laws_szNeed (n : Nat) (a0 : (List ((ByteArray) × ((Int) × ((ByteArray) × (Unit))))) × ((Int) × ((Int) × (Unit)))) (a1 : Int) : Option (Tup [(.int .i64)]) := goRec laws_szNeed.step n (.p0 a0 a1)
def laws_szNeed.spec : Ctr := ⟨31, [.v (.pair (.sl false (.pair .str (.pair (.int .i64) (.pair .str .unit)))) (.pair (.int .i64) (.pair (.int .i64) .unit))), .v (.int .i64)], [(.int .i64)], [], none, fun n x => laws_szNeed n x.1 x.2.1⟩
theorem laws_szNeed.seg_eq : SegEq ty gl laws_szNeed.F laws_szNeed.md laws_szNeed.T laws_szNeed.spec laws_szNeed.lb laws_szNeed.st laws_szNeed.step := by
  intro n goto y; cases y <;> kernel_rfl
theorem laws_szNeed.text : Text Go.Proofs.Tryz.prog laws_szNeed.F laws_szNeed.spec := textOf Go.Proofs.Tryz.f31
theorem laws_szNeed.ok : CtrOK Go.Proofs.Tryz.prog gl laws_szNeed.spec :=
  ctr_okS tabs laws_szNeed.text laws_szNeed.seg_eq (fun n x => ⟨.p0 x.1 x.2.1, rfl, rfl, rfl⟩) (consC laws_szMatcherS.ok (nilC))

/-! loop.example/g00039/laws.szNeedS -/
def laws_szNeedS.T : List Ctr := [laws_szNeed.spec]
def laws_szNeedS.md : List (Nat × List Md) := []
noncomputable def laws_szNeedS.F : Fun := ⟨(Go.Proofs.Tryz.f6.body).getD .skip, [.v (.sl false (.pair (.sl false (.pair .str (.pair (.int .i64) (.pair .str .unit)))) (.pair (.int .i64) (.pair (.int .i64) .unit)))), .v (.int .i64)], [(.tmp 4, (.int .i64))], [], 0, [(17, ⟨[0, 1, 5], [], [], false⟩)]⟩
inductive laws_szNeedS.Pt where
  | p0 (a0 : List ((List ((ByteArray) × ((Int) × ((ByteArray) × (Unit))))) × ((Int) × ((Int) × (Unit))))) (a1 : Int)
  | p17 (y1 : List ((List ((ByteArray) × ((Int) × ((ByteArray) × (Unit))))) × ((Int) × ((Int) × (Unit))))) (y2 : Int) (y3 : Int)
def laws_szNeedS.lb : laws_szNeedS.Pt → Nat
  | .p0 _ _ => 0
  | .p17 _ _ _ => 17
def laws_szNeedS.st : laws_szNeedS.Pt → St
  | .p0 a0 a1 => enter [.v (.sl false (.pair (.sl false (.pair .str (.pair (.int .i64) (.pair .str .unit)))) (.pair (.int .i64) (.pair (.int .i64) .unit)))) a0, .v (.int .i64) a1] 0
  | .p17 y1 y2 y3 => ⟨[(0, .im (.sl false (.pair (.sl false (.pair .str (.pair (.int .i64) (.pair .str .unit)))) (.pair (.int .i64) (.pair (.int .i64) .unit)))) y1), (1, .im (.int .i64) y2), (5, .im (.int .i64) y3)], [], 0⟩
def laws_szNeedS.step (n : Nat) (K : laws_szNeedS.Pt → Option (Tup [(.int .i64)])) : laws_szNeedS.Pt → Option (Tup [(.int .i64)])
  | .p0 a0 a1 => cond (decide ((IntKind.wrap .i64 (a1 - ((List.length a0) : Int))) < (0 : Int))) (some (-(1 : Int))) (K (.p17 a0 (IntKind.wrap .i64 (a1 - ((List.length a0) : Int))) (0 : Int)))
  | .p17 y1 y2 y3 => cond (decide (y3 < ((List.length y1) : Int))) (cond (inB y3 (List.length y1)) ((laws_szNeed n ((List.getD y1 (Int.toNat y3) default).1, (List.getD y1 (Int.toNat y3) default).2) y2).bind fun (r6 : Int) => cond (decide (r6 < (0 : Int))) (some (-(1 : Int))) (K (.p17 y1 r6 (IntKind.wrap .i64 (y3 + (1 : Int)))))) (none)) (some y2)
def laws_szNeedS (n : Nat) (a0 : List ((List ((ByteArray) × ((Int) × ((ByteArray) × (Unit))))) × ((Int) × ((Int) × (Unit))))) (a1 : Int) : Option (Tup [(.int .i64)]) := goRec laws_szNeedS.step n (.p0 a0 a1)
def laws_szNeedS.spec : Ctr := ⟨6, [.v (.sl false (.pair (.sl false (.pair .str (.pair (.int .i64) (.pair .str .unit)))) (.pair (.int .i64) (.pair (.int .i64) .unit)))), .v (.int .i64)], [(.int .i64)], [], none, fun n x => laws_szNeedS n x.1 x.2.1⟩
theorem laws_szNeedS.seg_eq : SegEq ty gl laws_szNeedS.F laws_szNeedS.md laws_szNeedS.T laws_szNeedS.spec laws_szNeedS.lb laws_szNeedS.st laws_szNeedS.step := by
  intro n goto y; cases y <;> kernel_rfl
theorem laws_szNeedS.text : Text Go.Proofs.Tryz.prog laws_szNeedS.F laws_szNeedS.spec := textOf Go.Proofs.Tryz.f6
theorem laws_szNeedS.ok : CtrOK Go.Proofs.Tryz.prog gl laws_szNeedS.spec :=
  ctr_okS tabs laws_szNeedS.text laws_szNeedS.seg_eq (fun n x => ⟨.p0 x.1 x.2.1, rfl, rfl, rfl⟩) (consC laws_szNeed.ok (nilC))

/-! loop.example/g00039/laws.toLabel -/
def laws_toLabel.T : List Ctr := []
def laws_toLabel.md : List (Nat × List Md) := []
noncomputable def laws_toLabel.F : Fun := ⟨(Go.Proofs.Tryz.f113.body).getD .skip, [.v (.pair .str (.pair .str .unit))], [(.cell 2 86, (.pair .str (.pair .str .unit)))], [], 0, []⟩
inductive laws_toLabel.Pt where
  | p0 (a0 : (ByteArray) × ((ByteArray) × (Unit)))
def laws_toLabel.lb : laws_toLabel.Pt → Nat
  | .p0 _ => 0
def laws_toLabel.st : laws_toLabel.Pt → St
  | .p0 a0 => enter [.v (.pair .str (.pair .str .unit)) a0] 0
def laws_toLabel.step (n : Nat) (K : laws_toLabel.Pt → Option (Tup [(.pair .str (.pair .str .unit))])) : laws_toLabel.Pt → Option (Tup [(.pair .str (.pair .str .unit))])
  | .p0 a0 => some a0
def laws_toLabel (n : Nat) (a0 : (ByteArray) × ((ByteArray) × (Unit))) : Option (Tup [(.pair .str (.pair .str .unit))]) := goRec laws_toLabel.step n (.p0 a0)
def laws_toLabel.spec : Ctr := ⟨113, [.v (.pair .str (.pair .str .unit))], [(.pair .str (.pair .str .unit))], [], none, fun n x => laws_toLabel n x.1⟩
theorem laws_toLabel.seg_eq : SegEq ty gl laws_toLabel.F laws_toLabel.md laws_toLabel.T laws_toLabel.spec laws_toLabel.lb laws_toLabel.st laws_toLabel.step := by
  intro n goto y; cases y <;> kernel_rfl
theorem laws_toLabel.text : Text Go.Proofs.Tryz.prog laws_toLabel.F laws_toLabel.spec := textOf Go.Proofs.Tryz.f113
theorem laws_toLabel.ok : CtrOK Go.Proofs.Tryz.prog gl laws_toLabel.spec :=
  ctr_okS tabs laws_toLabel.text laws_toLabel.seg_eq (fun n x => ⟨.p0 x.1, rfl, rfl, rfl⟩) (nilC)

/-! loop.example/g00039/laws.toLabelS -/
def laws_toLabelS.T : List Ctr := [laws_toLabel.spec]
def laws_toLabelS.md : List (Nat × List Md) := []
noncomputable def laws_toLabelS.F : Fun := ⟨(Go.Proofs.Tryz.f75.body).getD .skip, [.v (.sl false (.pair .str (.pair .str .unit)))], [(.tmp 2, (.sl false (.pair .str (.pair .str .unit))))], [], 0, [(9, ⟨[0, 3, 4], [(3, (.pair .str (.pair .str .unit)))], [], false⟩)]⟩
inductive laws_toLabelS.Pt where
  | p0 (a0 : List ((ByteArray) × ((ByteArray) × (Unit))))
  | p9 (y1 : List ((ByteArray) × ((ByteArray) × (Unit)))) (y2 : Int) (y3 : List ((ByteArray) × ((ByteArray) × (Unit))))
def laws_toLabelS.lb : laws_toLabelS.Pt → Nat
  | .p0 _ => 0
  | .p9 _ _ _ => 9
def laws_toLabelS.st : laws_toLabelS.Pt → St
  | .p0 a0 => enter [.v (.sl false (.pair .str (.pair .str .unit))) a0] 0
  | .p9 y1 y2 y3 => ⟨[(0, .im (.sl false (.pair .str (.pair .str .unit))) y1), (3, .hs 0 [] none 0), (4, .im (.int .i64) y2)], [(0, .arr false (.pair .str (.pair .str .unit)) y3 0)], 1⟩
def laws_toLabelS.step (n : Nat) (K : laws_toLabelS.Pt → Option (Tup [(.sl false (.pair .str (.pair .str .unit)))])) : laws_toLabelS.Pt → Option (Tup [(.sl false (.pair .str (.pair .str .unit)))])
  | .p0 a0 => cond (inC ((List.length a0) : Int) ((List.length a0) : Int) 1000000000) (K (.p9 a0 (0 : Int) (List.replicate (Int.toNat ((List.length a0) : Int)) (default : (ByteArray) × ((ByteArray) × (Unit)))))) (none)
  | .p9 y1 y2 y3 => cond (decide (y2 < ((List.length y1) : Int))) (cond (inB y2 (List.length y1)) ((laws_toLabel n (List.getD y1 (Int.toNat y2) default)).bind fun r6 => cond (inB y2 (List.length y3)) (K (.p9 y1 (IntKind.wrap .i64 (y2 + (1 : Int))) (List.set y3 (0 + (Int.toNat y2)) r6))) (none)) (none)) (some y3)
def laws_toLabelS (n : Nat) (a0 : List ((ByteArray) × ((ByteArray) × (Unit)))) : Option (Tup [(.sl false (.pair .str (.pair .str .unit)))]) := goRec laws_toLabelS.step n (.p0 a0)
def laws_toLabelS.spec : Ctr := ⟨75, [.v (.sl false (.pair .str (.pair .str .unit)))], [(.sl false (.pair .str (.pair .str .unit)))], [], none, fun n x => laws_toLabelS n x.1⟩
theorem laws_toLabelS.seg_eq : SegEq ty gl laws_toLabelS.F laws_toLabelS.md laws_toLabelS.T laws_toLabelS.spec laws_toLabelS.lb laws_toLabelS.st laws_toLabelS.step := by
  intro n goto y; cases y <;> kernel_rfl
theorem laws_toLabelS.text : Text Go.Proofs.Tryz.prog laws_toLabelS.F laws_toLabelS.spec := textOf Go.Proofs.Tryz.f75
theorem laws_toLabelS.ok : CtrOK Go.Proofs.Tryz.prog gl laws_toLabelS.spec :=
  ctr_okS tabs laws_toLabelS.text laws_toLabelS.seg_eq (fun n x => ⟨.p0 x.1, rfl, rfl, rfl⟩) (consC laws_toLabel.ok (nilC))

/-! loop.example/g00039/laws.toSample -/
def laws_toSample.T : List Ctr := []
def laws_toSample.md : List (Nat × List Md) := []
noncomputable def laws_toSample.F : Fun := ⟨(Go.Proofs.Tryz.f114.body).getD .skip, [.v (.pair (.int .i64) (.pair (.int .i64) .unit))], [(.cell 2 82, (.pair (.int .i64) (.pair (.int .i64) .unit)))], [], 0, []⟩
inductive laws_toSample.Pt where
  | p0 (a0 : (Int) × ((Int) × (Unit)))
def laws_toSample.lb : laws_toSample.Pt → Nat
  | .p0 _ => 0
def laws_toSample.st : laws_toSample.Pt → St
  | .p0 a0 => enter [.v (.pair (.int .i64) (.pair (.int .i64) .unit)) a0] 0
def laws_toSample.step (n : Nat) (K : laws_toSample.Pt → Option (Tup [(.pair (.int .i64) (.pair (.int .i64) .unit))])) : laws_toSample.Pt → Option (Tup [(.pair (.int .i64) (.pair (.int .i64) .unit))])
  | .p0 a0 => some a0
def laws_toSample (n : Nat) (a0 : (Int) × ((Int) × (Unit))) : Option (Tup [(.pair (.int .i64) (.pair (.int .i64) .unit))]) := goRec laws_toSample.step n (.p0 a0)
def laws_toSample.spec : Ctr := ⟨114, [.v (.pair (.int .i64) (.pair (.int .i64) .unit))], [(.pair (.int .i64) (.pair (.int .i64) .unit))], [], none, fun n x => laws_toSample n x.1⟩
theorem laws_toSample.seg_eq : SegEq ty gl laws_toSample.F laws_toSample.md laws_toSample.T laws_toSample.spec laws_toSample.lb laws_toSample.st laws_toSample.step := by
  intro n goto y; cases y <;> kernel_rfl
theorem laws_toSample.text : Text Go.Proofs.Tryz.prog laws_toSample.F laws_toSample.spec := textOf Go.Proofs.Tryz.f114
theorem laws_toSample.ok : CtrOK Go.Proofs.Tryz.prog gl laws_toSample.spec :=
  ctr_okS tabs laws_toSample.text laws_toSample.seg_eq (fun n x => ⟨.p0 x.1, rfl, rfl, rfl⟩) (nilC)

/-! loop.example/g00039/laws.toSampleS -/
def laws_toSampleS.T : List Ctr := [laws_toSample.spec]
def laws_toSampleS.md : List (Nat × List Md) := []
noncomputable def laws_toSampleS.F : Fun := ⟨(Go.Proofs.Tryz.f76.body).getD .skip, [.v (.sl false (.pair (.int .i64) (.pair (.int .i64) .unit)))], [(.tmp 2, (.sl false (.pair (.int .i64) (.pair (.int .i64) .unit))))], [], 0, [(9, ⟨[0, 3, 4], [(3, (.pair (.int .i64) (.pair (.int .i64) .unit)))], [], false⟩)]⟩
inductive laws_toSampleS.Pt where
  | p0 (a0 : List ((Int) × ((Int) × (Unit))))
  | p9 (y1 : List ((Int) × ((Int) × (Unit)))) (y2 : Int) (y3 : List ((Int) × ((Int) × (Unit))))
def laws_toSampleS.lb : laws_toSampleS.Pt → Nat
  | .p0 _ => 0
  | .p9 _ _ _ => 9
def laws_toSampleS.st : laws_toSampleS.Pt → St
  | .p0 a0 => enter [.v (.sl false (.pair (.int .i64) (.pair (.int .i64) .unit))) a0] 0
  | .p9 y1 y2 y3 => ⟨[(0, .im (.sl false (.pair (.int .i64) (.pair (.int .i64) .unit))) y1), (3, .hs 0 [] none 0), (4, .im (.int .i64) y2)], [(0, .arr false (.pair (.int .i64) (.pair (.int .i64) .unit)) y3 0)], 1⟩
def laws_toSampleS.step (n : Nat) (K : laws_toSampleS.Pt → Option (Tup [(.sl false (.pair (.int .i64) (.pair (.int .i64) .unit)))])) : laws_toSampleS.Pt → Option (Tup [(.sl false (.pair (.int .i64) (.pair (.int .i64) .unit)))])
  | .p0 a0 => cond (inC ((List.length a0) : Int) ((List.length a0) : Int) 1000000000) (K (.p9 a0 (0 : Int) (List.replicate (Int.toNat ((List.length a0) : Int)) (default : (Int) × ((Int) × (Unit)))))) (none)
  | .p9 y1 y2 y3 => cond (decide (y2 < ((List.length y1) : Int))) (cond (inB y2 (List.length y1)) ((laws_toSample n (List.getD y1 (Int.toNat y2) default)).bind fun r6 => cond (inB y2 (List.length y3)) (K (.p9 y1 (IntKind.wrap .i64 (y2 + (1 : Int))) (List.set y3 (0 + (Int.toNat y2)) r6))) (none)) (none)) (some y3)
def laws_toSampleS (n : Nat) (a0 : List ((Int) × ((Int) × (Unit)))) : Option (Tup [(.sl false (.pair (.int .i64) (.pair (.int .i64) .unit)))]) := goRec laws_toSampleS.step n (.p0 a0)
def laws_toSampleS.spec : Ctr := ⟨76, [.v (.sl false (.pair (.int .i64) (.pair (.int .i64) .unit)))], [(.sl false (.pair (.int .i64) (.pair (.int .i64) .unit)))], [], none, fun n x => laws_toSampleS n x.1⟩
theorem laws_toSampleS.seg_eq : SegEq ty gl laws_toSampleS.F laws_toSampleS.md laws_toSampleS.T laws_toSampleS.spec laws_toSampleS.lb laws_toSampleS.st laws_toSampleS.step := by
  intro n goto y; cases y <;> kernel_rfl
theorem laws_toSampleS.text : Text Go.Proofs.Tryz.prog laws_toSampleS.F laws_toSampleS.spec := textOf Go.Proofs.Tryz.f76
theorem laws_toSampleS.ok : CtrOK Go.Proofs.Tryz.prog gl laws_toSampleS.spec :=
  ctr_okS tabs laws_toSampleS.text laws_toSampleS.seg_eq (fun n x => ⟨.p0 x.1, rfl, rfl, rfl⟩) (consC laws_toSample.ok (nilC))

/-! loop.example/g00039/laws.toSeries -/
def laws_toSeries.T : List Ctr := [laws_toLabelS.spec, laws_toSampleS.spec]
def laws_toSeries.md : List (Nat × List Md) := []
noncomputable def laws_toSeries.F : Fun := ⟨(Go.Proofs.Tryz.f35.body).getD .skip, [.v (.pair (.sl false (.pair .str (.pair .str .unit))) (.pair (.sl false (.pair (.int .i64) (.pair (.int .i64) .unit))) .unit))], [(.cell 2 73, (.pair (.sl false (.pair .str (.pair .str .unit))) (.pair (.sl false (.pair (.int .i64) (.pair (.int .i64) .unit))) .unit)))], [], 0, []⟩
inductive laws_toSeries.Pt where
  | p0 (a0 : (List ((ByteArray) × ((ByteArray) × (Unit)))) × ((List ((Int) × ((Int) × (Unit)))) × (Unit)))
def laws_toSeries.lb : laws_toSeries.Pt → Nat
  | .p0 _ => 0
def laws_toSeries.st : laws_toSeries.Pt → St
  | .p0 a0 => enter [.v (.pair (.sl false (.pair .str (.pair .str .unit))) (.pair (.sl false (.pair (.int .i64) (.pair (.int .i64) .unit))) .unit)) a0] 0
def laws_toSeries.step (n : Nat) (K : laws_toSeries.Pt → Option (Tup [(.pair (.sl false (.pair .str (.pair .str .unit))) (.pair (.sl false (.pair (.int .i64) (.pair (.int .i64) .unit))) .unit))])) : laws_toSeries.Pt → Option (Tup [(.pair (.sl false (.pair .str (.pair .str .unit))) (.pair (.sl false (.pair (.int .i64) (.pair (.int .i64) .unit))) .unit))])
  | .p0 a0 => (laws_toLabelS n a0.1).bind fun r4 => (laws_toSampleS n a0.2.1).bind fun r5 => some (r4, (r5, ()))
def laws_toSeries (n : Nat) (a0 : (List ((ByteArray) × ((ByteArray) × (Unit)))) × ((List ((Int) × ((Int) × (Unit)))) × (Unit))) : Option (Tup [(.pair (.sl false (.pair .str (.pair .str .unit))) (.pair (.sl false (.pair (.int .i64) (.pair (.int .i64) .unit))) .unit))]) := goRec laws_toSeries.step n (.p0 a0)
def laws_toSeries.spec : Ctr := ⟨35, [.v (.pair (.sl false (.pair .str (.pair .str .unit))) (.pair (.sl false (.pair (.int .i64) (.pair (.int .i64) .unit))) .unit))], [(.pair (.sl false (.pair .str (.pair .str .unit))) (.pair (.sl false (.pair (.int .i64) (.pair (.int .i64) .unit))) .unit))], [], none, fun n x => laws_toSeries n x.1⟩
theorem laws_toSeries.seg_eq : SegEq ty gl laws_toSeries.F laws_toSeries.md laws_toSeries.T laws_toSeries.spec laws_toSeries.lb laws_toSeries.st laws_toSeries.step := by
  intro n goto y; cases y <;> kernel_rfl
theorem laws_toSeries.text : Text Go.Proofs.Tryz.prog laws_toSeries.F laws_toSeries.spec := textOf Go.Proofs.Tryz.f35
theorem laws_toSeries.ok : CtrOK Go.Proofs.Tryz.prog gl laws_toSeries.spec :=
  ctr_okS tabs laws_toSeries.text laws_toSeries.seg_eq (fun n x => ⟨.p0 x.1, rfl, rfl, rfl⟩) (consC laws_toLabelS.ok (consC laws_toSampleS.ok (nilC)))

/-! loop.example/g00039/laws.toSeriesS -/
def laws_toSeriesS.T : List Ctr := [laws_toSeries.spec]
def laws_toSeriesS.md : List (Nat × List Md) := []
noncomputable def laws_toSeriesS.F : Fun := ⟨(Go.Proofs.Tryz.f8.body).getD .skip, [.v (.sl false (.pair (.sl false (.pair .str (.pair .str .unit))) (.pair (.sl false (.pair (.int .i64) (.pair (.int .i64) .unit))) .unit)))], [(.tmp 2, (.sl false (.pair (.sl false (.pair .str (.pair .str .unit))) (.pair (.sl false (.pair (.int .i64) (.pair (.int .i64) .unit))) .unit))))], [], 0, [(9, ⟨[0, 3, 4], [(3, (.pair (.sl false (.pair .str (.pair .str .unit))) (.pair (.sl false (.pair (.int .i64) (.pair (.int .i64) .unit))) .unit)))], [], false⟩)]⟩
inductive laws_toSeriesS.Pt where
  | p0 (a0 : List ((List ((ByteArray) × ((ByteArray) × (Unit)))) × ((List ((Int) × ((Int) × (Unit)))) × (Unit))))
  | p9 (y1 : List ((List ((ByteArray) × ((ByteArray) × (Unit)))) × ((List ((Int) × ((Int) × (Unit)))) × (Unit)))) (y2 : Int) (y3 : List ((List ((ByteArray) × ((ByteArray) × (Unit)))) × ((List ((Int) × ((Int) × (Unit)))) × (Unit))))
def laws_toSeriesS.lb : laws_toSeriesS.Pt → Nat
  | .p0 _ => 0
  | .p9 _ _ _ => 9
def laws_toSeriesS.st : laws_toSeriesS.Pt → St
  | .p0 a0 => enter [.v (.sl false (.pair (.sl false (.pair .str (.pair .str .unit))) (.pair (.sl false (.pair (.int .i64) (.pair (.int .i64) .unit))) .unit))) a0] 0
  | .p9 y1 y2 y3 => ⟨[(0, .im (.sl false (.pair (.sl false (.pair .str (.pair .str .unit))) (.pair (.sl false (.pair (.int .i64) (.pair (.int .i64) .unit))) .unit))) y1), (3, .hs 0 [] none 0), (4, .im (.int .i64) y2)], [(0, .arr false (.pair (.sl false (.pair .str (.pair .str .unit))) (.pair (.sl false (.pair (.int .i64) (.pair (.int .i64) .unit))) .unit)) y3 0)], 1⟩
def laws_toSeriesS.step (n : Nat) (K : laws_toSeriesS.Pt → Option (Tup [(.sl false (.pair (.sl false (.pair .str (.pair .str .unit))) (.pair (.sl false (.pair (.int .i64) (.pair (.int .i64) .unit))) .unit)))])) : laws_toSeriesS.Pt → Option (Tup [(.sl false (.pair (.sl false (.pair .str (.pair .str .unit))) (.pair (.sl false (.pair (.int .i64) (.pair (.int .i64) .unit))) .unit)))])
  | .p0 a0 => cond (inC ((List.length a0) : Int) ((List.length a0) : Int) 1000000000) (K (.p9 a0 (0 : Int) (List.replicate (Int.toNat ((List.length a0) : Int)) (default : (List ((ByteArray) × ((ByteArray) × (Unit)))) × ((List ((Int) × ((Int) × (Unit)))) × (Unit)))))) (none)
  | .p9 y1 y2 y3 => cond (decide (y2 < ((List.length y1) : Int))) (cond (inB y2 (List.length y1)) ((laws_toSeries n ((List.getD y1 (Int.toNat y2) default).1, ((List.getD y1 (Int.toNat y2) default).2.1, ()))).bind fun r6 => cond (inB y2 (List.length y3)) (K (.p9 y1 (IntKind.wrap .i64 (y2 + (1 : Int))) (List.set y3 (0 + (Int.toNat y2)) r6))) (none)) (none)) (some y3)
def laws_toSeriesS (n : Nat) (a0 : List ((List ((ByteArray) × ((ByteArray) × (Unit)))) × ((List ((Int) × ((Int) × (Unit)))) × (Unit)))) : Option (Tup [(.sl false (.pair (.sl false (.pair .str (.pair .str .unit))) (.pair (.sl false (.pair (.int .i64) (.pair (.int .i64) .unit))) .unit)))]) := goRec laws_toSeriesS.step n (.p0 a0)
def laws_toSeriesS.spec : Ctr := ⟨8, [.v (.sl false (.pair (.sl false (.pair .str (.pair .str .unit))) (.pair (.sl false (.pair (.int .i64) (.pair (.int .i64) .unit))) .unit)))], [(.sl false (.pair (.sl false (.pair .str (.pair .str .unit))) (.pair (.sl false (.pair (.int .i64) (.pair (.int .i64) .unit))) .unit)))], [], none, fun n x => laws_toSeriesS n x.1⟩
theorem laws_toSeriesS.seg_eq : SegEq ty gl laws_toSeriesS.F laws_toSeriesS.md laws_toSeriesS.T laws_toSeriesS.spec laws_toSeriesS.lb laws_toSeriesS.st laws_toSeriesS.step := by
  intro n goto y; cases y <;> kernel_rfl
theorem laws_toSeriesS.text : Text Go.Proofs.Tryz.prog laws_toSeriesS.F laws_toSeriesS.spec := textOf Go.Proofs.Tryz.f8
theorem laws_toSeriesS.ok : CtrOK Go.Proofs.Tryz.prog gl laws_toSeriesS.spec :=
  ctr_okS tabs laws_toSeriesS.text laws_toSeriesS.seg_eq (fun n x => ⟨.p0 x.1, rfl, rfl, rfl⟩) (consC laws_toSeries.ok (nilC))

/-! loop.example/g00039/laws.toMatcher -/
def laws_toMatcher.T : List Ctr := []
def laws_toMatcher.md : List (Nat × List Md) := []
noncomputable def laws_toMatcher.F : Fun := ⟨(Go.Proofs.Tryz.f115.body).getD .skip, [.v (.pair .str (.pair (.int .i64) (.pair .str .unit)))], [(.cell 2 111, (.pair .str (.pair (.int .i64) (.pair .str .unit))))], [], 0, []⟩
inductive laws_toMatcher.Pt where
  | p0 (a0 : (ByteArray) × ((Int) × ((ByteArray) × (Unit))))
def laws_toMatcher.lb : laws_toMatcher.Pt → Nat
  | .p0 _ => 0
def laws_toMatcher.st : laws_toMatcher.Pt → St
  | .p0 a0 => enter [.v (.pair .str (.pair (.int .i64) (.pair .str .unit))) a0] 0
def laws_toMatcher.step (n : Nat) (K : laws_toMatcher.Pt → Option (Tup [(.pair .str (.pair (.int .i64) (.pair .str .unit)))])) : laws_toMatcher.Pt → Option (Tup [(.pair .str (.pair (.int .i64) (.pair .str .unit)))])
  | .p0 a0 => some a0
def laws_toMatcher (n : Nat) (a0 : (ByteArray) × ((Int) × ((ByteArray) × (Unit)))) : Option (Tup [(.pair .str (.pair (.int .i64) (.pair .str .unit)))]) := goRec laws_toMatcher.step n (.p0 a0)
def laws_toMatcher.spec : Ctr := ⟨115, [.v (.pair .str (.pair (.int .i64) (.pair .str .unit)))], [(.pair .str (.pair (.int .i64) (.pair .str .unit)))], [], none, fun n x => laws_toMatcher n x.1⟩
theorem laws_toMatcher.seg_eq : SegEq ty gl laws_toMatcher.F laws_toMatcher.md laws_toMatcher.T laws_toMatcher.spec laws_toMatcher.lb laws_toMatcher.st laws_toMatcher.step := by
  intro n goto y; cases y <;> kernel_rfl
theorem laws_toMatcher.text : Text Go.Proofs.Tryz.prog laws_toMatcher.F laws_toMatcher.spec := textOf Go.Proofs.Tryz.f115
theorem laws_toMatcher.ok : CtrOK Go.Proofs.Tryz.prog gl laws_toMatcher.spec :=
  ctr_okS tabs laws_toMatcher.text laws_toMatcher.seg_eq (fun n x => ⟨.p0 x.1, rfl, rfl, rfl⟩) (nilC)

/-! loop.example/g00039/laws.toMatcherS -/
def laws_toMatcherS.T : List Ctr := [laws_toMatcher.spec]
def laws_toMatcherS.md : List (Nat × List Md) := []
noncomputable def laws_toMatcherS.F : Fun := ⟨(Go.Proofs.Tryz.f77.body).getD .skip, [.v (.sl false (.pair .str (.pair (.int .i64) (.pair .str .unit))))], [(.tmp 2, (.sl false (.pair .str (.pair (.int .i64) (.pair .str .unit)))))], [], 0, [(9, ⟨[0, 3, 4], [(3, (.pair .str (.pair (.int .i64) (.pair .str .unit))))], [], false⟩)]⟩
inductive laws_toMatcherS.Pt where
  | p0 (a0 : List ((ByteArray) × ((Int) × ((ByteArray) × (Unit)))))
  | p9 (y1 : List ((ByteArray) × ((Int) × ((ByteArray) × (Unit))))) (y2 : Int) (y3 : List ((ByteArray) × ((Int) × ((ByteArray) × (Unit)))))
def laws_toMatcherS.lb : laws_toMatcherS.Pt → Nat
  | .p0 _ => 0
  | .p9 _ _ _ => 9
def laws_toMatcherS.st : laws_toMatcherS.Pt → St
  | .p0 a0 => enter [.v (.sl false (.pair .str (.pair (.int .i64) (.pair .str .unit)))) a0] 0
  | .p9 y1 y2 y3 => ⟨[(0, .im (.sl false (.pair .str (.pair (.int .i64) (.pair .str .unit)))) y1), (3, .hs 0 [] none 0), (4, .im (.int .i64) y2)], [(0, .arr false (.pair .str (.pair (.int .i64) (.pair .str .unit))) y3 0)], 1⟩
def laws_toMatcherS.step (n : Nat) (K : laws_toMatcherS.Pt → Option (Tup [(.sl false (.pair .str (.pair (.int .i64) (.pair .str .unit))))])) : laws_toMatcherS.Pt → Option (Tup [(.sl false (.pair .str (.pair (.int .i64) (.pair .str .unit))))])
  | .p0 a0 => cond (inC ((List.length a0) : Int) ((List.length a0) : Int) 1000000000) (K (.p9 a0 (0 : Int) (List.replicate (Int.toNat ((List.length a0) : Int)) (default : (ByteArray) × ((Int) × ((ByteArray) × (Unit))))))) (none)
  | .p9 y1 y2 y3 => cond (decide (y2 < ((List.length y1) : Int))) (cond (inB y2 (List.length y1)) ((laws_toMatcher n (List.getD y1 (Int.toNat y2) default)).bind fun r6 => cond (inB y2 (List.length y3)) (K (.p9 y1 (IntKind.wrap .i64 (y2 + (1 : Int))) (List.set y3 (0 + (Int.toNat y2)) r6))) (none)) (none)) (some y3)
def laws_toMatcherS (n : Nat) (a0 : List ((ByteArray) × ((Int) × ((ByteArray) × (Unit))))) : Option (Tup [(.sl false (.pair .str (.pair (.int .i64) (.pair .str .unit))))]) := goRec laws_toMatcherS.step n (.p0 a0)
def laws_toMatcherS.spec : Ctr := ⟨77, [.v (.sl false (.pair .str (.pair (.int .i64) (.pair .str .unit))))], [(.sl false (.pair .str (.pair (.int .i64) (.pair .str .unit))))], [], none, fun n x => laws_toMatcherS n x.1⟩
theorem laws_toMatcherS.seg_eq : SegEq ty gl laws_toMatcherS.F laws_toMatcherS.md laws_toMatcherS.T laws_toMatcherS.spec laws_toMatcherS.lb laws_toMatcherS.st laws_toMatcherS.step := by
  intro n goto y; cases y <;> kernel_rfl
theorem laws_toMatcherS.text : Text Go.Proofs.Tryz.prog laws_toMatcherS.F laws_toMatcherS.spec := textOf Go.Proofs.Tryz.f77
theorem laws_toMatcherS.ok : CtrOK Go.Proofs.Tryz.prog gl laws_toMatcherS.spec :=
  ctr_okS tabs laws_toMatcherS.text laws_toMatcherS.seg_eq (fun n x => ⟨.p0 x.1, rfl, rfl, rfl⟩) (consC laws_toMatcher.ok (nilC))

/-! loop.example/g00039/laws.toNeed -/
def laws_toNeed.T : List Ctr := [laws_toMatcherS.spec]
def laws_toNeed.md : List (Nat × List Md) := []
noncomputable def laws_toNeed.F : Fun := ⟨(Go.Proofs.Tryz.f36.body).getD .skip, [.v (.pair (.sl false (.pair .str (.pair (.int .i64) (.pair .str .unit)))) (.pair (.int .i64) (.pair (.int .i64) .unit)))], [(.cell 2 68, (.pair (.sl false (.pair .str (.pair (.int .i64) (.pair .str .unit)))) (.pair (.int .i64) (.pair (.int .i64) .unit))))], [], 0, []⟩
inductive laws_toNeed.Pt where
  | p0 (a0 : (List ((ByteArray) × ((Int) × ((ByteArray) × (Unit))))) × ((Int) × ((Int) × (Unit))))
def laws_toNeed.lb : laws_toNeed.Pt → Nat
  | .p0 _ => 0
def laws_toNeed.st : laws_toNeed.Pt → St
  | .p0 a0 => enter [.v (.pair (.sl false (.pair .str (.pair (.int .i64) (.pair .str .unit)))) (.pair (.int .i64) (.pair (.int .i64) .unit))) a0] 0
def laws_toNeed.step (n : Nat) (K : laws_toNeed.Pt → Option (Tup [(.pair (.sl false (.pair .str (.pair (.int .i64) (.pair .str .unit)))) (.pair (.int .i64) (.pair (.int .i64) .unit)))])) : laws_toNeed.Pt → Option (Tup [(.pair (.sl false (.pair .str (.pair (.int .i64) (.pair .str .unit)))) (.pair (.int .i64) (.pair (.int .i64) .unit)))])
  | .p0 a0 => (laws_toMatcherS n a0.1).bind fun r4 => some (r4, a0.2)
def laws_toNeed (n : Nat) (a0 : (List ((ByteArray) × ((Int) × ((ByteArray) × (Unit))))) × ((Int) × ((Int) × (Unit)))) : Option (Tup [(.pair (.sl false (.pair .str (.pair (.int .i64) (.pair .str .unit)))) (.pair (.int .i64) (.pair (.int .i64) .unit)))]) := goRec laws_toNeed.step n (.p0 a0)
def laws_toNeed.spec : Ctr := ⟨36, [.v (.pair (.sl false (.pair .str (.pair (.int .i64) (.pair .str .unit)))) (.pair (.int .i64) (.pair (.int .i64) .unit)))], [(.pair (.sl false (.pair .str (.pair (.int .i64) (.pair .str .unit)))) (.pair (.int .i64) (.pair (.int .i64) .unit)))], [], none, fun n x => laws_toNeed n x.1⟩
theorem laws_toNeed.seg_eq : SegEq ty gl laws_toNeed.F laws_toNeed.md laws_toNeed.T laws_toNeed.spec laws_toNeed.lb laws_toNeed.st laws_toNeed.step := by
  intro n goto y; cases y <;> kernel_rfl
theorem laws_toNeed.text : Text Go.Proofs.Tryz.prog laws_toNeed.F laws_toNeed.spec := textOf Go.Proofs.Tryz.f36
theorem laws_toNeed.ok : CtrOK Go.Proofs.Tryz.prog gl laws_toNeed.spec :=
  ctr_okS tabs laws_toNeed.text laws_toNeed.seg_eq (fun n x => ⟨.p0 x.1, rfl, rfl, rfl⟩) (consC laws_toMatcherS.ok (nilC))

/-! loop.example/g00039/laws.toNeedS -/
def laws_toNeedS.T : List Ctr := [laws_toNeed.spec]
def laws_toNeedS.md : List (Nat × List Md) := []
noncomputable def laws_toNeedS.F : Fun := ⟨(Go.Proofs.Tryz.f9.body).getD .skip, [.v (.sl false (.pair (.sl false (.pair .str (.pair (.int .i64) (.pair .str .unit)))) (.pair (.int .i64) (.pair (.int .i64) .unit))))], [(.tmp 2, (.sl false (.pair (.sl false (.pair .str (.pair (.int .i64) (.pair .str .unit)))) (.pair (.int .i64) (.pair (.int .i64) .unit)))))], [], 0, [(9, ⟨[0, 3, 4], [(3, (.pair (.sl false (.pair .str (.pair (.int .i64) (.pair .str .unit)))) (.pair (.int .i64) (.pair (.int .i64) .unit))))], [], false⟩)]⟩
inductive laws_toNeedS.Pt where
  | p0 (a0 : List ((List ((ByteArray) × ((Int) × ((ByteArray) × (Unit))))) × ((Int) × ((Int) × (Unit)))))
  | p9 (y1 : List ((List ((ByteArray) × ((Int) × ((ByteArray) × (Unit))))) × ((Int) × ((Int) × (Unit))))) (y2 : Int) (y3 : List ((List ((ByteArray) × ((Int) × ((ByteArray) × (Unit))))) × ((Int) × ((Int) × (Unit)))))
def laws_toNeedS.lb : laws_toNeedS.Pt → Nat
  | .p0 _ => 0
  | .p9 _ _ _ => 9
def laws_toNeedS.st : laws_toNeedS.Pt → St
  | .p0 a0 => enter [.v (.sl false (.pair (.sl false (.pair .str (.pair (.int .i64) (.pair .str .unit)))) (.pair (.int .i64) (.pair (.int .i64) .unit)))) a0] 0
  | .p9 y1 y2 y3 => ⟨[(0, .im (.sl false (.pair (.sl false (.pair .str (.pair (.int .i64) (.pair .str .unit)))) (.pair (.int .i64) (.pair (.int .i64) .unit)))) y1), (3, .hs 0 [] none 0), (4, .im (.int .i64) y2)], [(0, .arr false (.pair (.sl false (.pair .str (.pair (.int .i64) (.pair .str .unit)))) (.pair (.int .i64) (.pair (.int .i64) .unit))) y3 0)], 1⟩
def laws_toNeedS.step (n : Nat) (K : laws_toNeedS.Pt → Option (Tup [(.sl false (.pair (.sl false (.pair .str (.pair (.int .i64) (.pair .str .unit)))) (.pair (.int .i64) (.pair (.int .i64) .unit))))])) : laws_toNeedS.Pt → Option (Tup [(.sl false (.pair (.sl false (.pair .str (.pair (.int .i64) (.pair .str .unit)))) (.pair (.int .i64) (.pair (.int .i64) .unit))))])
  | .p0 a0 => cond (inC ((List.length a0) : Int) ((List.length a0) : Int) 1000000000) (K (.p9 a0 (0 : Int) (List.replicate (Int.toNat ((List.length a0) : Int)) (default : (List ((ByteArray) × ((Int) × ((ByteArray) × (Unit))))) × ((Int) × ((Int) × (Unit))))))) (none)
  | .p9 y1 y2 y3 => cond (decide (y2 < ((List.length y1) : Int))) (cond (inB y2 (List.length y1)) ((laws_toNeed n ((List.getD y1 (Int.toNat y2) default).1, (List.getD y1 (Int.toNat y2) default).2)).bind fun r6 => cond (inB y2 (List.length y3)) (K (.p9 y1 (IntKind.wrap .i64 (y2 + (1 : Int))) (List.set y3 (0 + (Int.toNat y2)) (r6.1, r6.2)))) (none)) (none)) (some y3)
def laws_toNeedS (n : Nat) (a0 : List ((List ((ByteArray) × ((Int) × ((ByteArray) × (Unit))))) × ((Int) × ((Int) × (Unit))))) : Option (Tup [(.sl false (.pair (.sl false (.pair .str (.pair (.int .i64) (.pair .str .unit)))) (.pair (.int .i64) (.pair (.int .i64) .unit))))]) := goRec laws_toNeedS.step n (.p0 a0)
def laws_toNeedS.spec : Ctr := ⟨9, [.v (.sl false (.pair (.sl false (.pair .str (.pair (.int .i64) (.pair .str .unit)))) (.pair (.int .i64) (.pair (.int .i64) .unit))))], [(.sl false (.pair (.sl false (.pair .str (.pair (.int .i64) (.pair .str .unit)))) (.pair (.int .i64) (.pair (.int .i64) .unit))))], [], none, fun n x => laws_toNeedS n x.1⟩
theorem laws_toNeedS.seg_eq : SegEq ty gl laws_toNeedS.F laws_toNeedS.md laws_toNeedS.T laws_toNeedS.spec laws_toNeedS.lb laws_toNeedS.st laws_toNeedS.step := by
  intro n goto y; cases y <;> kernel_rfl
theorem laws_toNeedS.text : Text Go.Proofs.Tryz.prog laws_toNeedS.F laws_toNeedS.spec := textOf Go.Proofs.Tryz.f9
theorem laws_toNeedS.ok : CtrOK Go.Proofs.Tryz.prog gl laws_toNeedS.spec :=
  ctr_okS tabs laws_toNeedS.text laws_toNeedS.seg_eq (fun n x => ⟨.p0 x.1, rfl, rfl, rfl⟩) (consC laws_toNeed.ok (nilC))

/-! loop.example/g00039/spec.l2Digit -/
def spec_l2Digit.T : List Ctr := []
def spec_l2Digit.md : List (Nat × List Md) := []
noncomputable def spec_l2Digit.F : Fun := ⟨(Go.Proofs.Tryz.f109.body).getD .skip, [.v (.int .u8)], [(.tmp 2, .bool)], [], 0, []⟩
inductive spec_l2Digit.Pt where
  | p0 (a0 : Int)
def spec_l2Digit.lb : spec_l2Digit.Pt → Nat
  | .p0 _ => 0
def spec_l2Digit.st : spec_l2Digit.Pt → St
  | .p0 a0 => enter [.v (.int .u8) a0] 0
def spec_l2Digit.step (n : Nat) (K : spec_l2Digit.Pt → Option (Tup [.bool])) : spec_l2Digit.Pt → Option (Tup [.bool])
  | .p0 a0 => cond (decide ((48 : Int) ≤ a0)) (some (decide (a0 ≤ (57 : Int)))) (some false)
def spec_l2Digit (n : Nat) (a0 : Int) : Option (Tup [.bool]) := goRec spec_l2Digit.step n (.p0 a0)
def spec_l2Digit.spec : Ctr := ⟨109, [.v (.int .u8)], [.bool], [], none, fun n x => spec_l2Digit n x.1⟩
theorem spec_l2Digit.seg_eq : SegEq ty gl spec_l2Digit.F spec_l2Digit.md spec_l2Digit.T spec_l2Digit.spec spec_l2Digit.lb spec_l2Digit.st spec_l2Digit.step := by
  intro n goto y; cases y <;> kernel_rfl
theorem spec_l2Digit.text : Text Go.Proofs.Tryz.prog spec_l2Digit.F spec_l2Digit.spec := textOf Go.Proofs.Tryz.f109
theorem spec_l2Digit.ok : CtrOK Go.Proofs.Tryz.prog gl spec_l2Digit.spec :=
  ctr_okS tabs spec_l2Digit.text spec_l2Digit.seg_eq (fun n x => ⟨.p0 x.1, rfl, rfl, rfl⟩) (nilC)

/-! loop.example/g00039/spec.l2Letter -/
def spec_l2Letter.T : List Ctr := []
def spec_l2Letter.md : List (Nat × List Md) := []
noncomputable def spec_l2Letter.F : Fun := ⟨(Go.Proofs.Tryz.f110.body).getD .skip, [.v (.int .u8)], [(.tmp 2, .bool)], [], 0, []⟩
inductive spec_l2Letter.Pt where
  | p0 (a0 : Int)
def spec_l2Letter.lb : spec_l2Letter.Pt → Nat
  | .p0 _ => 0
def spec_l2Letter.st : spec_l2Letter.Pt → St
  | .p0 a0 => enter [.v (.int .u8) a0] 0
def spec_l2Letter.step (n : Nat) (K : spec_l2Letter.Pt → Option (Tup [.bool])) : spec_l2Letter.Pt → Option (Tup [.bool])
  | .p0 a0 => cond (decide ((97 : Int) ≤ a0)) (cond (decide (a0 ≤ (122 : Int))) (some true) (cond (decide ((65 : Int) ≤ a0)) (some (decide (a0 ≤ (90 : Int)))) (some false))) (cond (decide ((65 : Int) ≤ a0)) (some (decide (a0 ≤ (90 : Int)))) (some false))
def spec_l2Letter (n : Nat) (a0 : Int) : Option (Tup [.bool]) := goRec spec_l2Letter.step n (.p0 a0)
def spec_l2Letter.spec : Ctr := ⟨110, [.v (.int .u8)], [.bool], [], none, fun n x => spec_l2Letter n x.1⟩
theorem spec_l2Letter.seg_eq : SegEq ty gl spec_l2Letter.F spec_l2Letter.md spec_l2Letter.T spec_l2Letter.spec spec_l2Letter.lb spec_l2Letter.st spec_l2Letter.step := by
  intro n goto y; cases y <;> kernel_rfl
theorem spec_l2Letter.text : Text Go.Proofs.Tryz.prog spec_l2Letter.F spec_l2Letter.spec := textOf Go.Proofs.Tryz.f110
theorem spec_l2Letter.ok : CtrOK Go.Proofs.Tryz.prog gl spec_l2Letter.spec :=
  ctr_okS tabs spec_l2Letter.text spec_l2Letter.seg_eq (fun n x => ⟨.p0 x.1, rfl, rfl, rfl⟩) (nilC)

/-! loop.example/g00039/spec.l2Name -/
def spec_l2Name.T : List Ctr := [spec_l2Digit.spec, spec_l2Letter.spec]
def spec_l2Name.md : List (Nat × List Md) := []
noncomputable def spec_l2Name.F : Fun := ⟨(Go.Proofs.Tryz.f70.body).getD .skip, [.v .str], [(.tmp 2, .bool)], [], 0, [(4, ⟨[0, 16], [], [], false⟩), (15, ⟨[0, 3], [], [], false⟩), (24, ⟨[0, 3, 40], [], [], false⟩)]⟩
inductive spec_l2Name.Pt where
  | p0 (a0 : ByteArray)
  | p4 (y1 : ByteArray) (y2 : Bool)
  | p15 (y1 : ByteArray) (y2 : Int)
  | p24 (y1 : ByteArray) (y2 : Int) (y3 : Bool)
def spec_l2Name.lb : spec_l2Name.Pt → Nat
  | .p0 _ => 0
  | .p4 _ _ => 4
  | .p15 _ _ => 15
  | .p24 _ _ _ => 24
def spec_l2Name.st : spec_l2Name.Pt → St
  | .p0 a0 => enter [.v .str a0] 0
  | .p4 y1 y2 => ⟨[(0, .im .str y1), (16, .im .bool y2)], [], 0⟩
  | .p15 y1 y2 => ⟨[(0, .im .str y1), (3, .im (.int .i64) y2)], [], 0⟩
  | .p24 y1 y2 y3 => ⟨[(0, .im .str y1), (3, .im (.int .i64) y2), (40, .im .bool y3)], [], 0⟩
def spec_l2Name.step (n : Nat) (K : spec_l2Name.Pt → Option (Tup [.bool])) : spec_l2Name.Pt → Option (Tup [.bool])
  | .p0 a0 => cond (decide (((ByteArray.size a0) : Int) < (1 : Int))) (K (.p4 a0 true)) (cond (decide ((40 : Int) < ((ByteArray.size a0) : Int))) (K (.p4 a0 true)) (cond (inB (0 : Int) (ByteArray.size a0)) ((spec_l2Digit n (bt a0 (0 : Int))).bind fun r4 => K (.p4 a0 r4)) (none)))
  | .p4 y1 y2 => cond y2 (some false) (K (.p15 y1 (0 : Int)))
  | .p15 y1 y2 => cond (decide (y2 < ((ByteArray.size y1) : Int))) (cond (inB y2 (ByteArray.size y1)) ((spec_l2Letter n (bt y1 y2)).bind fun r5 => cond (!r5) (cond (inB y2 (ByteArray.size y1)) ((spec_l2Digit n (bt y1 y2)).bind fun r6 => cond (!r6) (cond (inB y2 (ByteArray.size y1)) (K (.p24 y1 y2 (!(decide ((bt y1 y2) = (95 : Int)))))) (none)) (K (.p24 y1 y2 false))) (none)) (K (.p24 y1 y2 false))) (none)) (some true)
  | .p24 y1 y2 y3 => cond y3 (some false) (K (.p15 y1 (IntKind.wrap .i64 (y2 + (1 : Int)))))
def spec_l2Name (n : Nat) (a0 : ByteArray) : Option (Tup [.bool]) := goRec spec_l2Name.step n (.p0 a0)
def spec_l2Name.spec : Ctr := ⟨70, [.v .str], [.bool], [], none, fun n x => spec_l2Name n x.1⟩
theorem spec_l2Name.seg_eq : SegEq ty gl spec_l2Name.F spec_l2Name.md spec_l2Name.T spec_l2Name.spec spec_l2Name.lb spec_l2Name.st spec_l2Name.step := by
  intro n goto y; cases y <;> kernel_rfl
theorem spec_l2Name.text : Text Go.Proofs.Tryz.prog spec_l2Name.F spec_l2Name.spec := textOf Go.Proofs.Tryz.f70
theorem spec_l2Name.ok : CtrOK Go.Proofs.Tryz.prog gl spec_l2Name.spec :=
  ctr_okS tabs spec_l2Name.text spec_l2Name.seg_eq (fun n x => ⟨.p0 x.1, rfl, rfl, rfl⟩) (consC spec_l2Digit.ok (consC spec_l2Letter.ok (nilC)))

/-! loop.example/g00039/spec.l2Printed -/
def spec_l2Printed.T : List Ctr := []
def spec_l2Printed.md : List (Nat × List Md) := []
noncomputable def spec_l2Printed.F : Fun := ⟨(Go.Proofs.Tryz.f71.body).getD .skip, [.v .str], [(.tmp 2, .bool)], [], 0, [(7, ⟨[0, 3], [], [], false⟩)]⟩
inductive spec_l2Printed.Pt where
  | p0 (a0 : ByteArray)
  | p7 (y1 : ByteArray) (y2 : Int)
def spec_l2Printed.lb : spec_l2Printed.Pt → Nat
  | .p0 _ => 0
  | .p7 _ _ => 7
def spec_l2Printed.st : spec_l2Printed.Pt → St
  | .p0 a0 => enter [.v .str a0] 0
  | .p7 y1 y2 => ⟨[(0, .im .str y1), (3, .im (.int .i64) y2)], [], 0⟩
def spec_l2Printed.step (n : Nat) (K : spec_l2Printed.Pt → Option (Tup [.bool])) : spec_l2Printed.Pt → Option (Tup [.bool])
  | .p0 a0 => K (.p7 a0 (0 : Int))
  | .p7 y1 y2 => cond (decide (y2 < ((ByteArray.size y1) : Int))) (cond (inB y2 (ByteArray.size y1)) (cond (decide ((bt y1 y2) < (32 : Int))) (some false) (cond (inB y2 (ByteArray.size y1)) (cond (decide ((126 : Int) < (bt y1 y2))) (some false) (K (.p7 y1 (IntKind.wrap .i64 (y2 + (1 : Int)))))) (none))) (none)) (some true)
def spec_l2Printed (n : Nat) (a0 : ByteArray) : Option (Tup [.bool]) := goRec spec_l2Printed.step n (.p0 a0)
def spec_l2Printed.spec : Ctr := ⟨71, [.v .str], [.bool], [], none, fun n x => spec_l2Printed n x.1⟩
theorem spec_l2Printed.seg_eq : SegEq ty gl spec_l2Printed.F spec_l2Printed.md spec_l2Printed.T spec_l2Printed.spec spec_l2Printed.lb spec_l2Printed.st spec_l2Printed.step := by
  intro n goto y; cases y <;> kernel_rfl
theorem spec_l2Printed.text : Text Go.Proofs.Tryz.prog spec_l2Printed.F spec_l2Printed.spec := textOf Go.Proofs.Tryz.f71
theorem spec_l2Printed.ok : CtrOK Go.Proofs.Tryz.prog gl spec_l2Printed.spec :=
  ctr_okS tabs spec_l2Printed.text spec_l2Printed.seg_eq (fun n x => ⟨.p0 x.1, rfl, rfl, rfl⟩) (nilC)

/-! loop.example/g00039/spec.l2Value -/
def spec_l2Value.T : List Ctr := [spec_l2Printed.spec]
def spec_l2Value.md : List (Nat × List Md) := []
noncomputable def spec_l2Value.F : Fun := ⟨(Go.Proofs.Tryz.f136.body).getD .skip, [.v .str], [(.tmp 2, .bool)], [], 0, []⟩
inductive spec_l2Value.Pt where
  | p0 (a0 : ByteArray)
def spec_l2Value.lb : spec_l2Value.Pt → Nat
  | .p0 _ => 0
def spec_l2Value.st : spec_l2Value.Pt → St
  | .p0 a0 => enter [.v .str a0] 0
def spec_l2Value.step (n : Nat) (K : spec_l2Value.Pt → Option (Tup [.bool])) : spec_l2Value.Pt → Option (Tup [.bool])
  | .p0 a0 => cond (decide ((1 : Int) ≤ ((ByteArray.size a0) : Int))) (cond (decide (((ByteArray.size a0) : Int) ≤ (100 : Int))) ((spec_l2Printed n a0).bind fun r4 => some r4) (some false)) (some false)
def spec_l2Value (n : Nat) (a0 : ByteArray) : Option (Tup [.bool]) := goRec spec_l2Value.step n (.p0 a0)
def spec_l2Value.spec : Ctr := ⟨136, [.v .str], [.bool], [], none, fun n x => spec_l2Value n x.1⟩
theorem spec_l2Value.seg_eq : SegEq ty gl spec_l2Value.F spec_l2Value.md spec_l2Value.T spec_l2Value.spec spec_l2Value.lb spec_l2Value.st spec_l2Value.step := by
  intro n goto y; cases y <;> kernel_rfl
theorem spec_l2Value.text : Text Go.Proofs.Tryz.prog spec_l2Value.F spec_l2Value.spec := textOf Go.Proofs.Tryz.f136
theorem spec_l2Value.ok : CtrOK Go.Proofs.Tryz.prog gl spec_l2Value.spec :=
  ctr_okS tabs spec_l2Value.text spec_l2Value.seg_eq (fun n x => ⟨.p0 x.1, rfl, rfl, rfl⟩) (consC spec_l2Printed.ok (nilC))

/-! loop.example/g00039/spec.l2CmpNum -/
def spec_l2CmpNum.T : List Ctr := []
def spec_l2CmpNum.md : List (Nat × List Md) := []
noncomputable def spec_l2CmpNum.F : Fun := ⟨(Go.Proofs.Tryz.f108.body).getD .skip, [.v (.int .i64), .v (.int .i64)], [(.tmp 4, (.int .i64))], [], 0, []⟩
inductive spec_l2CmpNum.Pt where
  | p0 (a0 : Int) (a1 : Int)
def spec_l2CmpNum.lb : spec_l2CmpNum.Pt → Nat
  | .p0 _ _ => 0
def spec_l2CmpNum.st : spec_l2CmpNum.Pt → St
  | .p0 a0 a1 => enter [.v (.int .i64) a0, .v (.int .i64) a1] 0
def spec_l2CmpNum.step (n : Nat) (K : spec_l2CmpNum.Pt → Option (Tup [(.int .i64)])) : spec_l2CmpNum.Pt → Option (Tup [(.int .i64)])
  | .p0 a0 a1 => cond (decide (a0 < a1)) (some (-(1 : Int))) (cond (decide (a1 < a0)) (some (1 : Int)) (some (0 : Int)))
def spec_l2CmpNum (n : Nat) (a0 : Int) (a1 : Int) : Option (Tup [(.int .i64)]) := goRec spec_l2CmpNum.step n (.p0 a0 a1)
def spec_l2CmpNum.spec : Ctr := ⟨108, [.v (.int .i64), .v (.int .i64)], [(.int .i64)], [], none, fun n x => spec_l2CmpNum n x.1 x.2.1⟩
theorem spec_l2CmpNum.seg_eq : SegEq ty gl spec_l2CmpNum.F spec_l2CmpNum.md spec_l2CmpNum.T spec_l2CmpNum.spec spec_l2CmpNum.lb spec_l2CmpNum.st spec_l2CmpNum.step := by
  intro n goto y; cases y <;> kernel_rfl
theorem spec_l2CmpNum.text : Text Go.Proofs.Tryz.prog spec_l2CmpNum.F spec_l2CmpNum.spec := textOf Go.Proofs.Tryz.f108
theorem spec_l2CmpNum.ok : CtrOK Go.Proofs.Tryz.prog gl spec_l2CmpNum.spec :=
  ctr_okS tabs spec_l2CmpNum.text spec_l2CmpNum.seg_eq (fun n x => ⟨.p0 x.1 x.2.1, rfl, rfl, rfl⟩) (nilC)

/-! loop.example/g00039/spec.l2CmpText -/
def spec_l2CmpText.T : List Ctr := [spec_l2CmpNum.spec]
def spec_l2CmpText.md : List (Nat × List Md) := []
noncomputable def spec_l2CmpText.F : Fun := ⟨(Go.Proofs.Tryz.f107.body).getD .skip, [.v .str, .v .str], [(.tmp 4, (.int .i64))], [], 0, [(7, ⟨[0, 1, 5], [], [], false⟩), (9, ⟨[0, 1, 5, 15], [], [], false⟩)]⟩
inductive spec_l2CmpText.Pt where
  | p0 (a0 : ByteArray) (a1 : ByteArray)
  | p7 (y1 : ByteArray) (y2 : ByteArray) (y3 : Int)
  | p9 (y1 : ByteArray) (y2 : ByteArray) (y3 : Int) (y4 : Bool)
def spec_l2CmpText.lb : spec_l2CmpText.Pt → Nat
  | .p0 _ _ => 0
  | .p7 _ _ _ => 7
  | .p9 _ _ _ _ => 9
def spec_l2CmpText.st : spec_l2CmpText.Pt → St
  | .p0 a0 a1 => enter [.v .str a0, .v .str a1] 0
  | .p7 y1 y2 y3 => ⟨[(0, .im .str y1), (1, .im .str y2), (5, .im (.int .i64) y3)], [], 0⟩
  | .p9 y1 y2 y3 y4 => ⟨[(0, .im .str y1), (1, .im .str y2), (5, .im (.int .i64) y3), (15, .im .bool y4)], [], 0⟩
def spec_l2CmpText.step (n : Nat) (K : spec_l2CmpText.Pt → Option (Tup [(.int .i64)])) : spec_l2CmpText.Pt → Option (Tup [(.int .i64)])
  | .p0 a0 a1 => K (.p7 a0 a1 (0 : Int))
  | .p7 y1 y2 y3 => cond (decide (y3 < ((ByteArray.size y1) : Int))) (K (.p9 y1 y2 y3 (decide (y3 < ((ByteArray.size y2) : Int))))) (K (.p9 y1 y2 y3 false))
  | .p9 y1 y2 y3 y4 => cond y4 (cond (inB y3 (ByteArray.size y1)) (cond (inB y3 (ByteArray.size y2)) (cond (!(decide ((bt y1 y3) = (bt y2 y3)))) (cond (inB y3 (ByteArray.size y1)) (cond (inB y3 (ByteArray.size y2)) ((spec_l2CmpNum n (IntKind.wrap .i64 (bt y1 y3)) (IntKind.wrap .i64 (bt y2 y3))).bind fun (r7 : Int) => some r7) (none)) (none)) (K (.p7 y1 y2 (IntKind.wrap .i64 (y3 + (1 : Int)))))) (none)) (none)) ((spec_l2CmpNum n ((ByteArray.size y1) : Int) ((ByteArray.size y2) : Int)).bind fun (r7 : Int) => some r7)
def spec_l2CmpText (n : Nat) (a0 : ByteArray) (a1 : ByteArray) : Option (Tup [(.int .i64)]) := goRec spec_l2CmpText.step n (.p0 a0 a1)
def spec_l2CmpText.spec : Ctr := ⟨107, [.v .str, .v .str], [(.int .i64)], [], none, fun n x => spec_l2CmpText n x.1 x.2.1⟩
theorem spec_l2CmpText.seg_eq : SegEq ty gl spec_l2CmpText.F spec_l2CmpText.md spec_l2CmpText.T spec_l2CmpText.spec spec_l2CmpText.lb spec_l2CmpText.st spec_l2CmpText.step := by
  intro n goto y; cases y <;> kernel_rfl
theorem spec_l2CmpText.text : Text Go.Proofs.Tryz.prog spec_l2CmpText.F spec_l2CmpText.spec := textOf Go.Proofs.Tryz.f107
theorem spec_l2CmpText.ok : CtrOK Go.Proofs.Tryz.prog gl spec_l2CmpText.spec :=
  ctr_okS tabs spec_l2CmpText.text spec_l2CmpText.seg_eq (fun n x => ⟨.p0 x.1 x.2.1, rfl, rfl, rfl⟩) (consC spec_l2CmpNum.ok (nilC))

/-! loop.example/g00039/spec.GoodLabels -/
def spec_GoodLabels.T : List Ctr := [spec_l2Name.spec, spec_l2Value.spec, spec_l2CmpText.spec]
def spec_GoodLabels.md : List (Nat × List Md) := []
noncomputable def spec_GoodLabels.F : Fun := ⟨(Go.Proofs.Tryz.f105.body).getD .skip, [.v (.sl false (.pair .str (.pair .str .unit)))], [(.tmp 2, .bool)], [], 0, [(15, ⟨[0, 8, 9, 10], [(8, (.pair .str (.pair .str .unit)))], [], false⟩), (26, ⟨[0, 8, 9, 10, 40], [(8, (.pair .str (.pair .str .unit)))], [], false⟩)]⟩
inductive spec_GoodLabels.Pt where
  | p0 (a0 : List ((ByteArray) × ((ByteArray) × (Unit))))
  | p15 (y1 : List ((ByteArray) × ((ByteArray) × (Unit)))) (y2 : List ((ByteArray) × ((ByteArray) × (Unit)))) (y3 : Int) (y4 : Int)
  | p26 (y1 : List ((ByteArray) × ((ByteArray) × (Unit)))) (y2 : List ((ByteArray) × ((ByteArray) × (Unit)))) (y3 : Int) (y4 : Int) (y5 : Bool)
def spec_GoodLabels.lb : spec_GoodLabels.Pt → Nat
  | .p0 _ => 0
  | .p15 _ _ _ _ => 15
  | .p26 _ _ _ _ _ => 26
def spec_GoodLabels.st : spec_GoodLabels.Pt → St
  | .p0 a0 => enter [.v (.sl false (.pair .str (.pair .str .unit))) a0] 0
  | .p15 y1 y2 y3 y4 => ⟨[(0, .im (.sl false (.pair .str (.pair .str .unit))) y1), (8, .im (.sl false (.pair .str (.pair .str .unit))) y2), (9, .im (.int .i64) y3), (10, .im (.int .i64) y4)], [], 0⟩
  | .p26 y1 y2 y3 y4 y5 => ⟨[(0, .im (.sl false (.pair .str (.pair .str .unit))) y1), (8, .im (.sl false (.pair .str (.pair .str .unit))) y2), (9, .im (.int .i64) y3), (10, .im (.int .i64) y4), (40, .im .bool y5)], [], 0⟩
def spec_GoodLabels.step (n : Nat) (K : spec_GoodLabels.Pt → Option (Tup [.bool])) : spec_GoodLabels.Pt → Option (Tup [.bool])
  | .p0 a0 => cond (decide ((20 : Int) < ((List.length a0) : Int))) (some false) (K (.p15 a0 a0 ((List.length a0) : Int) (0 : Int)))
  | .p15 y1 y2 y3 y4 => cond (decide (y4 < y3)) (cond (inB y4 (List.length y2)) ((spec_l2Name n (List.getD y2 (Int.toNat y4) default).1).bind fun r7 => cond (!r7) (K (.p26 y1 y2 y3 y4 true)) ((spec_l2Value n (List.getD y2 (Int.toNat y4) default).2.1).bind fun r8 => cond (!r8) (K (.p26 y1 y2 y3 y4 true)) (cond (decide ((0 : Int) < y4)) (cond (inB (IntKind.wrap .i64 (y4 - (1 : Int))) (List.length y1)) ((spec_l2CmpText n (List.getD y1 (Int.toNat (IntKind.wrap .i64 (y4 - (1 : Int)))) default).1 (List.getD y2 (Int.toNat y4) default).1).bind fun (r9 : Int) => K (.p26 y1 y2 y3 y4 (decide ((0 : Int) ≤ r9)))) (none)) (K (.p26 y1 y2 y3 y4 false))))) (none)) (some true)
  | .p26 y1 y2 y3 y4 y5 => cond y5 (some false) (K (.p15 y1 y2 y3 (IntKind.wrap .i64 (y4 + (1 : Int)))))
def spec_GoodLabels (n : Nat) (a0 : List ((ByteArray) × ((ByteArray) × (Unit)))) : Option (Tup [.bool]) := goRec spec_GoodLabels.step n (.p0 a0)
def spec_GoodLabels.spec : Ctr := ⟨105, [.v (.sl false (.pair .str (.pair .str .unit)))], [.bool], [], none, fun n x => spec_GoodLabels n x.1⟩
theorem spec_GoodLabels.seg_eq : SegEq ty gl spec_GoodLabels.F spec_GoodLabels.md spec_GoodLabels.T spec_GoodLabels.spec spec_GoodLabels.lb spec_GoodLabels.st spec_GoodLabels.step := by
  intro n goto y; cases y <;> kernel_rfl
theorem spec_GoodLabels.text : Text Go.Proofs.Tryz.prog spec_GoodLabels.F spec_GoodLabels.spec := textOf Go.Proofs.Tryz.f105
theorem spec_GoodLabels.ok : CtrOK Go.Proofs.Tryz.prog gl spec_GoodLabels.spec :=
  ctr_okS tabs spec_GoodLabels.text spec_GoodLabels.seg_eq (fun n x => ⟨.p0 x.1, rfl, rfl, rfl⟩) (consC spec_l2Name.ok (consC spec_l2Value.ok (consC spec_l2CmpText.ok (nilC))))

/-! loop.example/g00039/spec.l2Of -/
def spec_l2Of.T : List Ctr := []
def spec_l2Of.md : List (Nat × List Md) := []
noncomputable def spec_l2Of.F : Fun := ⟨(Go.Proofs.Tryz.f106.body).getD .skip, [.v (.sl false (.pair .str (.pair .str .unit))), .v .str], [(.tmp 4, .str)], [], 0, [(7, ⟨[1, 7, 8, 9], [(7, (.pair .str (.pair .str .unit)))], [], false⟩)]⟩
inductive spec_l2Of.Pt where
  | p0 (a0 : List ((ByteArray) × ((ByteArray) × (Unit)))) (a1 : ByteArray)
  | p7 (y1 : ByteArray) (y2 : List ((ByteArray) × ((ByteArray) × (Unit)))) (y3 : Int) (y4 : Int)
def spec_l2Of.lb : spec_l2Of.Pt → Nat
  | .p0 _ _ => 0
  | .p7 _ _ _ _ => 7
def spec_l2Of.st : spec_l2Of.Pt → St
  | .p0 a0 a1 => enter [.v (.sl false (.pair .str (.pair .str .unit))) a0, .v .str a1] 0
  | .p7 y1 y2 y3 y4 => ⟨[(1, .im .str y1), (7, .im (.sl false (.pair .str (.pair .str .unit))) y2), (8, .im (.int .i64) y3), (9, .im (.int .i64) y4)], [], 0⟩
def spec_l2Of.step (n : Nat) (K : spec_l2Of.Pt → Option (Tup [.str])) : spec_l2Of.Pt → Option (Tup [.str])
  | .p0 a0 a1 => K (.p7 a1 a0 ((List.length a0) : Int) (0 : Int))
  | .p7 y1 y2 y3 y4 => cond (decide (y4 < y3)) (cond (inB y4 (List.length y2)) (cond (seq (List.getD y2 (Int.toNat y4) default).1 y1) (some (List.getD y2 (Int.toNat y4) default).2.1) (K (.p7 y1 y2 y3 (IntKind.wrap .i64 (y4 + (1 : Int)))))) (none)) (some (⟨#[]⟩ : ByteArray))
def spec_l2Of (n : Nat) (a0 : List ((ByteArray) × ((ByteArray) × (Unit)))) (a1 : ByteArray) : Option (Tup [.str]) := goRec spec_l2Of.step n (.p0 a0 a1)
def spec_l2Of.spec : Ctr := ⟨106, [.v (.sl false (.pair .str (.pair .str .unit))), .v .str], [.str], [], none, fun n x => spec_l2Of n x.1 x.2.1⟩
theorem spec_l2Of.seg_eq : SegEq ty gl spec_l2Of.F spec_l2Of.md spec_l2Of.T spec_l2Of.spec spec_l2Of.lb spec_l2Of.st spec_l2Of.step := by
  intro n goto y; cases y <;> kernel_rfl
theorem spec_l2Of.text : Text Go.Proofs.Tryz.prog spec_l2Of.F spec_l2Of.spec := textOf Go.Proofs.Tryz.f106
theorem spec_l2Of.ok : CtrOK Go.Proofs.Tryz.prog gl spec_l2Of.spec :=
  ctr_okS tabs spec_l2Of.text spec_l2Of.seg_eq (fun n x => ⟨.p0 x.1 x.2.1, rfl, rfl, rfl⟩) (nilC)

/-! loop.example/g00039/spec.l7Named -/
def spec_l7Named.T : List Ctr := [spec_GoodLabels.spec, spec_l2Of.spec]
def spec_l7Named.md : List (Nat × List Md) := []
noncomputable def spec_l7Named.F : Fun := ⟨(Go.Proofs.Tryz.f67.body).getD .skip, [.v (.sl false (.pair .str (.pair .str .unit)))], [(.tmp 2, .bool)], [], 0, []⟩
inductive spec_l7Named.Pt where
  | p0 (a0 : List ((ByteArray) × ((ByteArray) × (Unit))))
def spec_l7Named.lb : spec_l7Named.Pt → Nat
  | .p0 _ => 0
def spec_l7Named.st : spec_l7Named.Pt → St
  | .p0 a0 => enter [.v (.sl false (.pair .str (.pair .str .unit))) a0] 0
def spec_l7Named.step (n : Nat) (K : spec_l7Named.Pt → Option (Tup [.bool])) : spec_l7Named.Pt → Option (Tup [.bool])
  | .p0 a0 => (spec_GoodLabels n a0).bind fun r4 => cond r4 ((spec_l2Of n a0 (⟨#[95, 110, 97, 109, 101]⟩ : ByteArray)).bind fun r5 => some (!(seq r5 (⟨#[]⟩ : ByteArray)))) (some false)
def spec_l7Named (n : Nat) (a0 : List ((ByteArray) × ((ByteArray) × (Unit)))) : Option (Tup [.bool]) := goRec spec_l7Named.step n (.p0 a0)
def spec_l7Named.spec : Ctr := ⟨67, [.v (.sl false (.pair .str (.pair .str .unit)))], [.bool], [], none, fun n x => spec_l7Named n x.1⟩
theorem spec_l7Named.seg_eq : SegEq ty gl spec_l7Named.F spec_l7Named.md spec_l7Named.T spec_l7Named.spec spec_l7Named.lb spec_l7Named.st spec_l7Named.step := by
  intro n goto y; cases y <;> kernel_rfl
theorem spec_l7Named.text : Text Go.Proofs.Tryz.prog spec_l7Named.F spec_l7Named.spec := textOf Go.Proofs.Tryz.f67
theorem spec_l7Named.ok : CtrOK Go.Proofs.Tryz.prog gl spec_l7Named.spec :=
  ctr_okS tabs spec_l7Named.text spec_l7Named.seg_eq (fun n x => ⟨.p0 x.1, rfl, rfl, rfl⟩) (consC spec_GoodLabels.ok (consC spec_l2Of.ok (nilC)))

/-! loop.example/g00039/spec.l3Time -/
def spec_l3Time.T : List Ctr := []
def spec_l3Time.md : List (Nat × List Md) := []
noncomputable def spec_l3Time.F : Fun := ⟨(Go.Proofs.Tryz.f91.body).getD .skip, [.v (.int .i64)], [(.tmp 2, .bool)], [], 0, []⟩
inductive spec_l3Time.Pt where
  | p0 (a0 : Int)
def spec_l3Time.lb : spec_l3Time.Pt → Nat
  | .p0 _ => 0
def spec_l3Time.st : spec_l3Time.Pt → St
  | .p0 a0 => enter [.v (.int .i64) a0] 0
def spec_l3Time.step (n : Nat) (K : spec_l3Time.Pt → Option (Tup [.bool])) : spec_l3Time.Pt → Option (Tup [.bool])
  | .p0 a0 => cond (decide ((0 : Int) ≤ a0)) (some (decide (a0 ≤ (1000000000000 : Int)))) (some false)
def spec_l3Time (n : Nat) (a0 : Int) : Option (Tup [.bool]) := goRec spec_l3Time.step n (.p0 a0)
def spec_l3Time.spec : Ctr := ⟨91, [.v (.int .i64)], [.bool], [], none, fun n x => spec_l3Time n x.1⟩
theorem spec_l3Time.seg_eq : SegEq ty gl spec_l3Time.F spec_l3Time.md spec_l3Time.T spec_l3Time.spec spec_l3Time.lb spec_l3Time.st spec_l3Time.step := by
  intro n goto y; cases y <;> kernel_rfl
theorem spec_l3Time.text : Text Go.Proofs.Tryz.prog spec_l3Time.F spec_l3Time.spec := textOf Go.Proofs.Tryz.f91
theorem spec_l3Time.ok : CtrOK Go.Proofs.Tryz.prog gl spec_l3Time.spec :=
  ctr_okS tabs spec_l3Time.text spec_l3Time.seg_eq (fun n x => ⟨.p0 x.1, rfl, rfl, rfl⟩) (nilC)

/-! loop.example/g00039/spec.GoodSamples -/
def spec_GoodSamples.T : List Ctr := [spec_l3Time.spec]
def spec_GoodSamples.md : List (Nat × List Md) := []
noncomputable def spec_GoodSamples.F : Fun := ⟨(Go.Proofs.Tryz.f68.body).getD .skip, [.v (.sl false (.pair (.int .i64) (.pair (.int .i64) .unit)))], [(.tmp 2, .bool)], [], 0, [(7, ⟨[0, 5, 6, 7], [(5, (.pair (.int .i64) (.pair (.int .i64) .unit)))], [], false⟩), (18, ⟨[0, 5, 6, 7, 30], [(5, (.pair (.int .i64) (.pair (.int .i64) .unit)))], [], false⟩)]⟩
inductive spec_GoodSamples.Pt where
  | p0 (a0 : List ((Int) × ((Int) × (Unit))))
  | p7 (y1 : List ((Int) × ((Int) × (Unit)))) (y2 : List ((Int) × ((Int) × (Unit)))) (y3 : Int) (y4 : Int)
  | p18 (y1 : List ((Int) × ((Int) × (Unit)))) (y2 : List ((Int) × ((Int) × (Unit)))) (y3 : Int) (y4 : Int) (y5 : Bool)
def spec_GoodSamples.lb : spec_GoodSamples.Pt → Nat
  | .p0 _ => 0
  | .p7 _ _ _ _ => 7
  | .p18 _ _ _ _ _ => 18
def spec_GoodSamples.st : spec_GoodSamples.Pt → St
  | .p0 a0 => enter [.v (.sl false (.pair (.int .i64) (.pair (.int .i64) .unit))) a0] 0
  | .p7 y1 y2 y3 y4 => ⟨[(0, .im (.sl false (.pair (.int .i64) (.pair (.int .i64) .unit))) y1), (5, .im (.sl false (.pair (.int .i64) (.pair (.int .i64) .unit))) y2), (6, .im (.int .i64) y3), (7, .im (.int .i64) y4)], [], 0⟩
  | .p18 y1 y2 y3 y4 y5 => ⟨[(0, .im (.sl false (.pair (.int .i64) (.pair (.int .i64) .unit))) y1), (5, .im (.sl false (.pair (.int .i64) (.pair (.int .i64) .unit))) y2), (6, .im (.int .i64) y3), (7, .im (.int .i64) y4), (30, .im .bool y5)], [], 0⟩
def spec_GoodSamples.step (n : Nat) (K : spec_GoodSamples.Pt → Option (Tup [.bool])) : spec_GoodSamples.Pt → Option (Tup [.bool])
  | .p0 a0 => K (.p7 a0 a0 ((List.length a0) : Int) (0 : Int))
  | .p7 y1 y2 y3 y4 => cond (decide (y4 < y3)) (cond (inB y4 (List.length y2)) ((spec_l3Time n (List.getD y2 (Int.toNat y4) default).1).bind fun r7 => cond (!r7) (K (.p18 y1 y2 y3 y4 true)) (cond (decide ((0 : Int) < y4)) (cond (inB (IntKind.wrap .i64 (y4 - (1 : Int))) (List.length y1)) (K (.p18 y1 y2 y3 y4 (decide ((List.getD y2 (Int.toNat y4) default).1 ≤ (List.getD y1 (Int.toNat (IntKind.wrap .i64 (y4 - (1 : Int)))) default).1)))) (none)) (K (.p18 y1 y2 y3 y4 false)))) (none)) (some (decide (((List.length y1) : Int) ≤ (2000 : Int))))
  | .p18 y1 y2 y3 y4 y5 => cond y5 (some false) (K (.p7 y1 y2 y3 (IntKind.wrap .i64 (y4 + (1 : Int)))))
def spec_GoodSamples (n : Nat) (a0 : List ((Int) × ((Int) × (Unit)))) : Option (Tup [.bool]) := goRec spec_GoodSamples.step n (.p0 a0)
def spec_GoodSamples.spec : Ctr := ⟨68, [.v (.sl false (.pair (.int .i64) (.pair (.int .i64) .unit)))], [.bool], [], none, fun n x => spec_GoodSamples n x.1⟩
theorem spec_GoodSamples.seg_eq : SegEq ty gl spec_GoodSamples.F spec_GoodSamples.md spec_GoodSamples.T spec_GoodSamples.spec spec_GoodSamples.lb spec_GoodSamples.st spec_GoodSamples.step := by
  intro n goto y; cases y <;> kernel_rfl
theorem spec_GoodSamples.text : Text Go.Proofs.Tryz.prog spec_GoodSamples.F spec_GoodSamples.spec := textOf Go.Proofs.Tryz.f68
theorem spec_GoodSamples.ok : CtrOK Go.Proofs.Tryz.prog gl spec_GoodSamples.spec :=
  ctr_okS tabs spec_GoodSamples.text spec_GoodSamples.seg_eq (fun n x => ⟨.p0 x.1, rfl, rfl, rfl⟩) (consC spec_l3Time.ok (nilC))

/-! loop.example/g00039/spec.l2Cmp -/
def spec_l2Cmp.T : List Ctr := [spec_l2CmpNum.spec, spec_l2CmpText.spec]
def spec_l2Cmp.md : List (Nat × List Md) := []
noncomputable def spec_l2Cmp.F : Fun := ⟨(Go.Proofs.Tryz.f69.body).getD .skip, [.v (.sl false (.pair .str (.pair .str .unit))), .v (.sl false (.pair .str (.pair .str .unit)))], [(.tmp 4, (.int .i64))], [], 0, [(7, ⟨[0, 1, 5], [], [], false⟩), (9, ⟨[0, 1, 5, 17], [], [], false⟩)]⟩
inductive spec_l2Cmp.Pt where
  | p0 (a0 : List ((ByteArray) × ((ByteArray) × (Unit)))) (a1 : List ((ByteArray) × ((ByteArray) × (Unit))))
  | p7 (y1 : List ((ByteArray) × ((ByteArray) × (Unit)))) (y2 : List ((ByteArray) × ((ByteArray) × (Unit)))) (y3 : Int)
  | p9 (y1 : List ((ByteArray) × ((ByteArray) × (Unit)))) (y2 : List ((ByteArray) × ((ByteArray) × (Unit)))) (y3 : Int) (y4 : Bool)
def spec_l2Cmp.lb : spec_l2Cmp.Pt → Nat
  | .p0 _ _ => 0
  | .p7 _ _ _ => 7
  | .p9 _ _ _ _ => 9
def spec_l2Cmp.st : spec_l2Cmp.Pt → St
  | .p0 a0 a1 => enter [.v (.sl false (.pair .str (.pair .str .unit))) a0, .v (.sl false (.pair .str (.pair .str .unit))) a1] 0
  | .p7 y1 y2 y3 => ⟨[(0, .im (.sl false (.pair .str (.pair .str .unit))) y1), (1, .im (.sl false (.pair .str (.pair .str .unit))) y2), (5, .im (.int .i64) y3)], [], 0⟩
  | .p9 y1 y2 y3 y4 => ⟨[(0, .im (.sl false (.pair .str (.pair .str .unit))) y1), (1, .im (.sl false (.pair .str (.pair .str .unit))) y2), (5, .im (.int .i64) y3), (17, .im .bool y4)], [], 0⟩
def spec_l2Cmp.step (n : Nat) (K : spec_l2Cmp.Pt → Option (Tup [(.int .i64)])) : spec_l2Cmp.Pt → Option (Tup [(.int .i64)])
  | .p0 a0 a1 => K (.p7 a0 a1 (0 : Int))
  | .p7 y1 y2 y3 => cond (decide (y3 < ((List.length y1) : Int))) (K (.p9 y1 y2 y3 (decide (y3 < ((List.length y2) : Int))))) (K (.p9 y1 y2 y3 false))
  | .p9 y1 y2 y3 y4 => cond y4 (cond (inB y3 (List.length y1)) (cond (inB y3 (List.length y2)) ((spec_l2CmpText n (List.getD y1 (Int.toNat y3) default).1 (List.getD y2 (Int.toNat y3) default).1).bind fun (r7 : Int) => cond (!(decide (r7 = (0 : Int)))) (some r7) (cond (inB y3 (List.length y1)) (cond (inB y3 (List.length y2)) ((spec_l2CmpText n (List.getD y1 (Int.toNat y3) default).2.1 (List.getD y2 (Int.toNat y3) default).2.1).bind fun (r8 : Int) => cond (!(decide (r8 = (0 : Int)))) (some r8) (K (.p7 y1 y2 (IntKind.wrap .i64 (y3 + (1 : Int)))))) (none)) (none))) (none)) (none)) ((spec_l2CmpNum n ((List.length y1) : Int) ((List.length y2) : Int)).bind fun (r7 : Int) => some r7)
def spec_l2Cmp (n : Nat) (a0 : List ((ByteArray) × ((ByteArray) × (Unit)))) (a1 : List ((ByteArray) × ((ByteArray) × (Unit)))) : Option (Tup [(.int .i64)]) := goRec spec_l2Cmp.step n (.p0 a0 a1)
def spec_l2Cmp.spec : Ctr := ⟨69, [.v (.sl false (.pair .str (.pair .str .unit))), .v (.sl false (.pair .str (.pair .str .unit)))], [(.int .i64)], [], none, fun n x => spec_l2Cmp n x.1 x.2.1⟩
theorem spec_l2Cmp.seg_eq : SegEq ty gl spec_l2Cmp.F spec_l2Cmp.md spec_l2Cmp.T spec_l2Cmp.spec spec_l2Cmp.lb spec_l2Cmp.st spec_l2Cmp.step := by
  intro n goto y; cases y <;> kernel_rfl
theorem spec_l2Cmp.text : Text Go.Proofs.Tryz.prog spec_l2Cmp.F spec_l2Cmp.spec := textOf Go.Proofs.Tryz.f69
theorem spec_l2Cmp.ok : CtrOK Go.Proofs.Tryz.prog gl spec_l2Cmp.spec :=
  ctr_okS tabs spec_l2Cmp.text spec_l2Cmp.seg_eq (fun n x => ⟨.p0 x.1 x.2.1, rfl, rfl, rfl⟩) (consC spec_l2CmpNum.ok (consC spec_l2CmpText.ok (nilC)))

/-! loop.example/g00039/spec.GoodSeries -/
def spec_GoodSeries.T : List Ctr := [spec_l7Named.spec, spec_GoodSamples.spec, spec_l2Cmp.spec]
def spec_GoodSeries.md : List (Nat × List Md) := []
noncomputable def spec_GoodSeries.F : Fun := ⟨(Go.Proofs.Tryz.f32.body).getD .skip, [.v (.sl false (.pair (.sl false (.pair .str (.pair .str .unit))) (.pair (.sl false (.pair (.int .i64) (.pair (.int .i64) .unit))) .unit)))], [(.tmp 2, .bool)], [], 0, [(15, ⟨[0, 8, 9, 10], [(8, (.pair (.sl false (.pair .str (.pair .str .unit))) (.pair (.sl false (.pair (.int .i64) (.pair (.int .i64) .unit))) .unit)))], [], false⟩), (26, ⟨[0, 8, 9, 10, 46], [(8, (.pair (.sl false (.pair .str (.pair .str .unit))) (.pair (.sl false (.pair (.int .i64) (.pair (.int .i64) .unit))) .unit)))], [], false⟩)]⟩
inductive spec_GoodSeries.Pt where
  | p0 (a0 : List ((List ((ByteArray) × ((ByteArray) × (Unit)))) × ((List ((Int) × ((Int) × (Unit)))) × (Unit))))
  | p15 (y1 : List ((List ((ByteArray) × ((ByteArray) × (Unit)))) × ((List ((Int) × ((Int) × (Unit)))) × (Unit)))) (y2 : List ((List ((ByteArray) × ((ByteArray) × (Unit)))) × ((List ((Int) × ((Int) × (Unit)))) × (Unit)))) (y3 : Int) (y4 : Int)
  | p26 (y1 : List ((List ((ByteArray) × ((ByteArray) × (Unit)))) × ((List ((Int) × ((Int) × (Unit)))) × (Unit)))) (y2 : List ((List ((ByteArray) × ((ByteArray) × (Unit)))) × ((List ((Int) × ((Int) × (Unit)))) × (Unit)))) (y3 : Int) (y4 : Int) (y5 : Bool)
def spec_GoodSeries.lb : spec_GoodSeries.Pt → Nat
  | .p0 _ => 0
  | .p15 _ _ _ _ => 15
  | .p26 _ _ _ _ _ => 26
def spec_GoodSeries.st : spec_GoodSeries.Pt → St
  | .p0 a0 => enter [.v (.sl false (.pair (.sl false (.pair .str (.pair .str .unit))) (.pair (.sl false (.pair (.int .i64) (.pair (.int .i64) .unit))) .unit))) a0] 0
  | .p15 y1 y2 y3 y4 => ⟨[(0, .im (.sl false (.pair (.sl false (.pair .str (.pair .str .unit))) (.pair (.sl false (.pair (.int .i64) (.pair (.int .i64) .unit))) .unit))) y1), (8, .im (.sl false (.pair (.sl false (.pair .str (.pair .str .unit))) (.pair (.sl false (.pair (.int .i64) (.pair (.int .i64) .unit))) .unit))) y2), (9, .im (.int .i64) y3), (10, .im (.int .i64) y4)], [], 0⟩
  | .p26 y1 y2 y3 y4 y5 => ⟨[(0, .im (.sl false (.pair (.sl false (.pair .str (.pair .str .unit))) (.pair (.sl false (.pair (.int .i64) (.pair (.int .i64) .unit))) .unit))) y1), (8, .im (.sl false (.pair (.sl false (.pair .str (.pair .str .unit))) (.pair (.sl false (.pair (.int .i64) (.pair (.int .i64) .unit))) .unit))) y2), (9, .im (.int .i64) y3), (10, .im (.int .i64) y4), (46, .im .bool y5)], [], 0⟩
def spec_GoodSeries.step (n : Nat) (K : spec_GoodSeries.Pt → Option (Tup [.bool])) : spec_GoodSeries.Pt → Option (Tup [.bool])
  | .p0 a0 => cond (decide ((200 : Int) < ((List.length a0) : Int))) (some false) (K (.p15 a0 a0 ((List.length a0) : Int) (0 : Int)))
  | .p15 y1 y2 y3 y4 => cond (decide (y4 < y3)) (cond (inB y4 (List.length y2)) ((spec_l7Named n (List.getD y2 (Int.toNat y4) default).1).bind fun r7 => cond (!r7) (K (.p26 y1 y2 y3 y4 true)) ((spec_GoodSamples n (List.getD y2 (Int.toNat y4) default).2.1).bind fun r8 => cond (!r8) (K (.p26 y1 y2 y3 y4 true)) (cond (decide (((List.length (List.getD y2 (Int.toNat y4) default).2.1) : Int) = (0 : Int))) (K (.p26 y1 y2 y3 y4 true)) (cond (decide ((0 : Int) < y4)) (cond (inB (IntKind.wrap .i64 (y4 - (1 : Int))) (List.length y1)) ((spec_l2Cmp n (List.getD y1 (Int.toNat (IntKind.wrap .i64 (y4 - (1 : Int)))) default).1 (List.getD y2 (Int.toNat y4) default).1).bind fun (r9 : Int) => K (.p26 y1 y2 y3 y4 (decide ((0 : Int) ≤ r9)))) (none)) (K (.p26 y1 y2 y3 y4 false)))))) (none)) (some true)
  | .p26 y1 y2 y3 y4 y5 => cond y5 (some false) (K (.p15 y1 y2 y3 (IntKind.wrap .i64 (y4 + (1 : Int)))))
def spec_GoodSeries (n : Nat) (a0 : List ((List ((ByteArray) × ((ByteArray) × (Unit)))) × ((List ((Int) × ((Int) × (Unit)))) × (Unit)))) : Option (Tup [.bool]) := goRec spec_GoodSeries.step n (.p0 a0)
def spec_GoodSeries.spec : Ctr := ⟨32, [.v (.sl false (.pair (.sl false (.pair .str (.pair .str .unit))) (.pair (.sl false (.pair (.int .i64) (.pair (.int .i64) .unit))) .unit)))], [.bool], [], none, fun n x => spec_GoodSeries n x.1⟩
theorem spec_GoodSeries.seg_eq : SegEq ty gl spec_GoodSeries.F spec_GoodSeries.md spec_GoodSeries.T spec_GoodSeries.spec spec_GoodSeries.lb spec_GoodSeries.st spec_GoodSeries.step := by
  intro n goto y; cases y <;> kernel_rfl
theorem spec_GoodSeries.text : Text Go.Proofs.Tryz.prog spec_GoodSeries.F spec_GoodSeries.spec := textOf Go.Proofs.Tryz.f32
theorem spec_GoodSeries.ok : CtrOK Go.Proofs.Tryz.prog gl spec_GoodSeries.spec :=
  ctr_okS tabs spec_GoodSeries.text spec_GoodSeries.seg_eq (fun n x => ⟨.p0 x.1, rfl, rfl, rfl⟩) (consC spec_l7Named.ok (consC spec_GoodSamples.ok (consC spec_l2Cmp.ok (nilC))))

/-! loop.example/g00039/spec.l2Alternatives -/
def spec_l2Alternatives.T : List Ctr := [spec_l2Printed.spec]
def spec_l2Alternatives.md : List (Nat × List Md) := []
noncomputable def spec_l2Alternatives.F : Fun := ⟨(Go.Proofs.Tryz.f111.body).getD .skip, [.v .str], [(.tmp 2, (.sl false (.sl false (.int .i64)))), (.tmp 3, .bool)], [], 0, [(8, ⟨[0, 4, 5, 14], [(4, (.sl false (.int .i64))), (5, (.int .i64))], [], false⟩), (19, ⟨[0, 4, 5, 6], [(4, (.sl false (.int .i64))), (5, (.int .i64))], [], false⟩), (51, ⟨[0, 4, 5, 6, 78], [(4, (.sl false (.int .i64))), (5, (.int .i64))], [], false⟩)]⟩
inductive spec_l2Alternatives.Pt where
  | p0 (a0 : ByteArray)
  | p8 (y1 : ByteArray) (y2 : Bool) (y3 : List (List (Int))) (y4 : List (Int))
  | p19 (y1 : ByteArray) (y2 : Int) (y3 : List (List (Int))) (y4 : List (Int))
  | p51 (y1 : ByteArray) (y2 : Int) (y3 : Bool) (y4 : List (List (Int))) (y5 : List (Int))
def spec_l2Alternatives.lb : spec_l2Alternatives.Pt → Nat
  | .p0 _ => 0
  | .p8 _ _ _ _ => 8
  | .p19 _ _ _ _ => 19
  | .p51 _ _ _ _ _ => 51
def spec_l2Alternatives.st : spec_l2Alternatives.Pt → St
  | .p0 a0 => enter [.v .str a0] 0
  | .p8 y1 y2 y3 y4 => ⟨[(0, .im .str y1), (4, .hs 0 [] none 0), (5, .hs 1 [] none 0), (14, .im .bool y2)], [(0, .arr true (.sl false (.int .i64)) y3 0), (1, .arr true (.int .i64) y4 0)], 2⟩
  | .p19 y1 y2 y3 y4 => ⟨[(0, .im .str y1), (4, .hs 0 [] none 0), (5, .hs 1 [] none 0), (6, .im (.int .i64) y2)], [(0, .arr true (.sl false (.int .i64)) y3 0), (1, .arr true (.int .i64) y4 0)], 2⟩
  | .p51 y1 y2 y3 y4 y5 => ⟨[(0, .im .str y1), (4, .hs 0 [] none 0), (5, .hs 1 [] none 0), (6, .im (.int .i64) y2), (78, .im .bool y3)], [(0, .arr true (.sl false (.int .i64)) y4 0), (1, .arr true (.int .i64) y5 0)], 2⟩
def spec_l2Alternatives.step (n : Nat) (K : spec_l2Alternatives.Pt → Option (Tup [(.sl false (.sl false (.int .i64))), .bool])) : spec_l2Alternatives.Pt → Option (Tup [(.sl false (.sl false (.int .i64))), .bool])
  | .p0 a0 => cond (decide ((100 : Int) < ((ByteArray.size a0) : Int))) (K (.p8 a0 true ([] : List (List (Int))) ([] : List (Int)))) ((spec_l2Printed n a0).bind fun r4 => K (.p8 a0 (!r4) ([] : List (List (Int))) ([] : List (Int))))
  | .p8 y1 y2 y3 y4 => cond y2 (some (([] : List (List (Int))), false)) (K (.p19 y1 (0 : Int) y3 y4))
  | .p19 y1 y2 y3 y4 => cond (decide (y2 < ((ByteArray.size y1) : Int))) (cond (inB y2 (ByteArray.size y1)) (cond (decide ((bt y1 y2) = (124 : Int))) (cond (room ((List.length y3) + (List.length [y4]))) (K (.p19 y1 (IntKind.wrap .i64 (y2 + (1 : Int))) (y3 ++ [y4]) ([] : List (Int)))) (none)) (cond (decide ((bt y1 y2) = (42 : Int))) (cond (room ((List.length y4) + (List.length [(-(1 : Int))]))) (K (.p19 y1 (IntKind.wrap .i64 (y2 + (1 : Int))) y3 (y4 ++ [(-(1 : Int))]))) (none)) (cond (decide ((bt y1 y2) = (63 : Int))) (cond (room ((List.length y4) + (List.length [(-(2 : Int))]))) (K (.p19 y1 (IntKind.wrap .i64 (y2 + (1 : Int))) y3 (y4 ++ [(-(2 : Int))]))) (none)) (cond (decide ((bt y1 y2) = (92 : Int))) (cond (decide ((IntKind.wrap .i64 (y2 + (1 : Int))) = ((ByteArray.size y1) : Int))) (K (.p51 y1 (IntKind.wrap .i64 (y2 + (1 : Int))) true y3 y4)) (cond (inB (IntKind.wrap .i64 (y2 + (1 : Int))) (ByteArray.size y1)) (cond (!(decide ((bt y1 (IntKind.wrap .i64 (y2 + (1 : Int)))) = (42 : Int)))) (cond (inB (IntKind.wrap .i64 (y2 + (1 : Int))) (ByteArray.size y1)) (cond (!(decide ((bt y1 (IntKind.wrap .i64 (y2 + (1 : Int)))) = (63 : Int)))) (cond (inB (IntKind.wrap .i64 (y2 + (1 : Int))) (ByteArray.size y1)) (cond (!(decide ((bt y1 (IntKind.wrap .i64 (y2 + (1 : Int)))) = (124 : Int)))) (cond (inB (IntKind.wrap .i64 (y2 + (1 : Int))) (ByteArray.size y1)) (K (.p51 y1 (IntKind.wrap .i64 (y2 + (1 : Int))) (!(decide ((bt y1 (IntKind.wrap .i64 (y2 + (1 : Int)))) = (92 : Int)))) y3 y4)) (none)) (K (.p51 y1 (IntKind.wrap .i64 (y2 + (1 : Int))) false y3 y4))) (none)) (K (.p51 y1 (IntKind.wrap .i64 (y2 + (1 : Int))) false y3 y4))) (none)) (K (.p51 y1 (IntKind.wrap .i64 (y2 + (1 : Int))) false y3 y4))) (none))) (cond (inB y2 (ByteArray.size y1)) (cond (room ((List.length y4) + (List.length [(IntKind.wrap .i64 (bt y1 y2))]))) (K (.p19 y1 (IntKind.wrap .i64 (y2 + (1 : Int))) y3 (y4 ++ [(IntKind.wrap .i64 (bt y1 y2))]))) (none)) (none)))))) (none)) (cond (room ((List.length y3) + (List.length [y4]))) (some ((y3 ++ [y4]), true)) (none))
  | .p51 y1 y2 y3 y4 y5 => cond y3 (some (([] : List (List (Int))), false)) (cond (inB y2 (ByteArray.size y1)) (cond (room ((List.length y5) + (List.length [(IntKind.wrap .i64 (bt y1 y2))]))) (K (.p19 y1 (IntKind.wrap .i64 (y2 + (1 : Int))) y4 (y5 ++ [(IntKind.wrap .i64 (bt y1 y2))]))) (none)) (none))
def spec_l2Alternatives (n : Nat) (a0 : ByteArray) : Option (Tup [(.sl false (.sl false (.int .i64))), .bool]) := goRec spec_l2Alternatives.step n (.p0 a0)
def spec_l2Alternatives.spec : Ctr := ⟨111, [.v .str], [(.sl false (.sl false (.int .i64))), .bool], [], none, fun n x => spec_l2Alternatives n x.1⟩
theorem spec_l2Alternatives.seg_eq : SegEq ty gl spec_l2Alternatives.F spec_l2Alternatives.md spec_l2Alternatives.T spec_l2Alternatives.spec spec_l2Alternatives.lb spec_l2Alternatives.st spec_l2Alternatives.step := by
  intro n goto y; cases y <;> kernel_rfl
theorem spec_l2Alternatives.text : Text Go.Proofs.Tryz.prog spec_l2Alternatives.F spec_l2Alternatives.spec := textOf Go.Proofs.Tryz.f111
theorem spec_l2Alternatives.ok : CtrOK Go.Proofs.Tryz.prog gl spec_l2Alternatives.spec :=
  ctr_okS tabs spec_l2Alternatives.text spec_l2Alternatives.seg_eq (fun n x => ⟨.p0 x.1, rfl, rfl, rfl⟩) (consC spec_l2Printed.ok (nilC))

/-! loop.example/g00039/spec.GoodPattern -/
def spec_GoodPattern.T : List Ctr := [spec_l2Alternatives.spec]
def spec_GoodPattern.md : List (Nat × List Md) := []
noncomputable def spec_GoodPattern.F : Fun := ⟨(Go.Proofs.Tryz.f72.body).getD .skip, [.v .str], [(.tmp 2, .bool)], [], 0, []⟩
inductive spec_GoodPattern.Pt where
  | p0 (a0 : ByteArray)
def spec_GoodPattern.lb : spec_GoodPattern.Pt → Nat
  | .p0 _ => 0
def spec_GoodPattern.st : spec_GoodPattern.Pt → St
  | .p0 a0 => enter [.v .str a0] 0
def spec_GoodPattern.step (n : Nat) (K : spec_GoodPattern.Pt → Option (Tup [.bool])) : spec_GoodPattern.Pt → Option (Tup [.bool])
  | .p0 a0 => (spec_l2Alternatives n a0).bind fun r4 => some r4.2
def spec_GoodPattern (n : Nat) (a0 : ByteArray) : Option (Tup [.bool]) := goRec spec_GoodPattern.step n (.p0 a0)
def spec_GoodPattern.spec : Ctr := ⟨72, [.v .str], [.bool], [], none, fun n x => spec_GoodPattern n x.1⟩
theorem spec_GoodPattern.seg_eq : SegEq ty gl spec_GoodPattern.F spec_GoodPattern.md spec_GoodPattern.T spec_GoodPattern.spec spec_GoodPattern.lb spec_GoodPattern.st spec_GoodPattern.step := by
  intro n goto y; cases y <;> kernel_rfl
theorem spec_GoodPattern.text : Text Go.Proofs.Tryz.prog spec_GoodPattern.F spec_GoodPattern.spec := textOf Go.Proofs.Tryz.f72
theorem spec_GoodPattern.ok : CtrOK Go.Proofs.Tryz.prog gl spec_GoodPattern.spec :=
  ctr_okS tabs spec_GoodPattern.text spec_GoodPattern.seg_eq (fun n x => ⟨.p0 x.1, rfl, rfl, rfl⟩) (consC spec_l2Alternatives.ok (nilC))

/-! loop.example/g00039/spec.GoodMatchers -/
def spec_GoodMatchers.T : List Ctr := [spec_l2Name.spec, spec_l2Printed.spec, spec_GoodPattern.spec]
def spec_GoodMatchers.md : List (Nat × List Md) := []
noncomputable def spec_GoodMatchers.F : Fun := ⟨(Go.Proofs.Tryz.f33.body).getD .skip, [.v (.sl false (.pair .str (.pair (.int .i64) (.pair .str .unit))))], [(.tmp 2, .bool)], [], 0, [(15, ⟨[8, 9, 10], [(8, (.pair .str (.pair (.int .i64) (.pair .str .unit))))], [], false⟩), (26, ⟨[8, 9, 10, 50], [(8, (.pair .str (.pair (.int .i64) (.pair .str .unit))))], [], false⟩)]⟩
inductive spec_GoodMatchers.Pt where
  | p0 (a0 : List ((ByteArray) × ((Int) × ((ByteArray) × (Unit)))))
  | p15 (y1 : List ((ByteArray) × ((Int) × ((ByteArray) × (Unit))))) (y2 : Int) (y3 : Int)
  | p26 (y1 : List ((ByteArray) × ((Int) × ((ByteArray) × (Unit))))) (y2 : Int) (y3 : Int) (y4 : Bool)
def spec_GoodMatchers.lb : spec_GoodMatchers.Pt → Nat
  | .p0 _ => 0
  | .p15 _ _ _ => 15
  | .p26 _ _ _ _ => 26
def spec_GoodMatchers.st : spec_GoodMatchers.Pt → St
  | .p0 a0 => enter [.v (.sl false (.pair .str (.pair (.int .i64) (.pair .str .unit)))) a0] 0
  | .p15 y1 y2 y3 => ⟨[(8, .im (.sl false (.pair .str (.pair (.int .i64) (.pair .str .unit)))) y1), (9, .im (.int .i64) y2), (10, .im (.int .i64) y3)], [], 0⟩
  | .p26 y1 y2 y3 y4 => ⟨[(8, .im (.sl false (.pair .str (.pair (.int .i64) (.pair .str .unit)))) y1), (9, .im (.int .i64) y2), (10, .im (.int .i64) y3), (50, .im .bool y4)], [], 0⟩
def spec_GoodMatchers.step (n : Nat) (K : spec_GoodMatchers.Pt → Option (Tup [.bool])) : spec_GoodMatchers.Pt → Option (Tup [.bool])
  | .p0 a0 => cond (decide ((10 : Int) < ((List.length a0) : Int))) (some false) (K (.p15 a0 ((List.length a0) : Int) (0 : Int)))
  | .p15 y1 y2 y3 => cond (decide (y3 < y2)) (cond (inB y3 (List.length y1)) ((spec_l2Name n (List.getD y1 (Int.toNat y3) default).1).bind fun r6 => cond (!r6) (K (.p26 y1 y2 y3 true)) (cond (decide ((List.getD y1 (Int.toNat y3) default).2.1 < (1 : Int))) (K (.p26 y1 y2 y3 true)) (cond (decide ((4 : Int) < (List.getD y1 (Int.toNat y3) default).2.1)) (K (.p26 y1 y2 y3 true)) (cond (decide ((100 : Int) < ((ByteArray.size (List.getD y1 (Int.toNat y3) default).2.2.1) : Int))) (K (.p26 y1 y2 y3 true)) ((spec_l2Printed n (List.getD y1 (Int.toNat y3) default).2.2.1).bind fun r7 => cond (!r7) (K (.p26 y1 y2 y3 true)) (cond (decide ((3 : Int) ≤ (List.getD y1 (Int.toNat y3) default).2.1)) ((spec_GoodPattern n (List.getD y1 (Int.toNat y3) default).2.2.1).bind fun r8 => K (.p26 y1 y2 y3 (!r8))) (K (.p26 y1 y2 y3 false)))))))) (none)) (some true)
  | .p26 y1 y2 y3 y4 => cond y4 (some false) (K (.p15 y1 y2 (IntKind.wrap .i64 (y3 + (1 : Int)))))
def spec_GoodMatchers (n : Nat) (a0 : List ((ByteArray) × ((Int) × ((ByteArray) × (Unit))))) : Option (Tup [.bool]) := goRec spec_GoodMatchers.step n (.p0 a0)
def spec_GoodMatchers.spec : Ctr := ⟨33, [.v (.sl false (.pair .str (.pair (.int .i64) (.pair .str .unit))))], [.bool], [], none, fun n x => spec_GoodMatchers n x.1⟩
theorem spec_GoodMatchers.seg_eq : SegEq ty gl spec_GoodMatchers.F spec_GoodMatchers.md spec_GoodMatchers.T spec_GoodMatchers.spec spec_GoodMatchers.lb spec_GoodMatchers.st spec_GoodMatchers.step := by
  intro n goto y; cases y <;> kernel_rfl
theorem spec_GoodMatchers.text : Text Go.Proofs.Tryz.prog spec_GoodMatchers.F spec_GoodMatchers.spec := textOf Go.Proofs.Tryz.f33
theorem spec_GoodMatchers.ok : CtrOK Go.Proofs.Tryz.prog gl spec_GoodMatchers.spec :=
  ctr_okS tabs spec_GoodMatchers.text spec_GoodMatchers.seg_eq (fun n x => ⟨.p0 x.1, rfl, rfl, rfl⟩) (consC spec_l2Name.ok (consC spec_l2Printed.ok (consC spec_GoodPattern.ok (nilC))))

/-! loop.example/g00039/spec.l2Rest -/
def spec_l2Rest.T : List Ctr := []
def spec_l2Rest.md : List (Nat × List Md) := []
noncomputable def spec_l2Rest.F : Fun := ⟨(Go.Proofs.Tryz.f146.body).getD .skip, [.v (.sl false (.int .i64)), .v .str], [(.tmp 4, (.sl false .bool))], [], 0, [(11, ⟨[0, 1, 5, 6], [(5, .bool)], [], false⟩), (26, ⟨[0, 1, 5, 6, 7, 8], [(5, .bool), (7, .bool)], [], false⟩)]⟩
inductive spec_l2Rest.Pt where
  | p0 (a0 : List (Int)) (a1 : ByteArray)
  | p11 (y1 : List (Int)) (y2 : ByteArray) (y3 : Int) (y4 : List (Bool))
  | p26 (y1 : List (Int)) (y2 : ByteArray) (y3 : Int) (y4 : Int) (y5 : List (Bool)) (y6 : List (Bool))
def spec_l2Rest.lb : spec_l2Rest.Pt → Nat
  | .p0 _ _ => 0
  | .p11 _ _ _ _ => 11
  | .p26 _ _ _ _ _ _ => 26
def spec_l2Rest.st : spec_l2Rest.Pt → St
  | .p0 a0 a1 => enter [.v (.sl false (.int .i64)) a0, .v .str a1] 0
  | .p11 y1 y2 y3 y4 => ⟨[(0, .im (.sl false (.int .i64)) y1), (1, .im .str y2), (5, .hs 0 [] none 0), (6, .im (.int .i64) y3)], [(0, .arr false .bool y4 0)], 1⟩
  | .p26 y1 y2 y3 y4 y5 y6 => ⟨[(0, .im (.sl false (.int .i64)) y1), (1, .im .str y2), (5, .hs 0 [] none 0), (6, .im (.int .i64) y3), (7, .hs 1 [] none 0), (8, .im (.int .i64) y4)], [(0, .arr false .bool y5 0), (1, .arr false .bool y6 0)], 2⟩
def spec_l2Rest.step (n : Nat) (K : spec_l2Rest.Pt → Option (Tup [(.sl false .bool)])) : spec_l2Rest.Pt → Option (Tup [(.sl false .bool)])
  | .p0 a0 a1 => cond (inC (IntKind.wrap .i64 (((ByteArray.size a1) : Int) + (1 : Int))) (IntKind.wrap .i64 (((ByteArray.size a1) : Int) + (1 : Int))) 1000000000) (cond (inB ((ByteArray.size a1) : Int) (List.length (List.replicate (Int.toNat (IntKind.wrap .i64 (((ByteArray.size a1) : Int) + (1 : Int)))) (default : Bool)))) (K (.p11 a0 a1 (IntKind.wrap .i64 (((List.length a0) : Int) - (1 : Int))) (List.set (List.replicate (Int.toNat (IntKind.wrap .i64 (((ByteArray.size a1) : Int) + (1 : Int)))) (default : Bool)) (0 + (Int.toNat ((ByteArray.size a1) : Int))) true))) (none)) (none)
  | .p11 y1 y2 y3 y4 => cond (decide ((0 : Int) ≤ y3)) (cond (inC (IntKind.wrap .i64 (((ByteArray.size y2) : Int) + (1 : Int))) (IntKind.wrap .i64 (((ByteArray.size y2) : Int) + (1 : Int))) 1000000000) (K (.p26 y1 y2 y3 ((ByteArray.size y2) : Int) y4 (List.replicate (Int.toNat (IntKind.wrap .i64 (((ByteArray.size y2) : Int) + (1 : Int)))) (default : Bool)))) (none)) (some y4)
  | .p26 y1 y2 y3 y4 y5 y6 => cond (decide ((0 : Int) ≤ y4)) (cond (inB y3 (List.length y1)) (cond (decide ((List.getD y1 (Int.toNat y3) default) = (-(1 : Int)))) (cond (inB y4 (List.length y5)) (cond (List.getD y5 (0 + (Int.toNat y4)) default) (cond (inB y4 (List.length y6)) (K (.p26 y1 y2 y3 (IntKind.wrap .i64 (y4 - (1 : Int))) y5 (List.set y6 (0 + (Int.toNat y4)) true))) (none)) (cond (decide (y4 < ((ByteArray.size y2) : Int))) (cond (inB (IntKind.wrap .i64 (y4 + (1 : Int))) (List.length y6)) (cond (inB y4 (List.length y6)) (K (.p26 y1 y2 y3 (IntKind.wrap .i64 (y4 - (1 : Int))) y5 (List.set y6 (0 + (Int.toNat y4)) (List.getD y6 (0 + (Int.toNat (IntKind.wrap .i64 (y4 + (1 : Int))))) default)))) (none)) (none)) (cond (inB y4 (List.length y6)) (K (.p26 y1 y2 y3 (IntKind.wrap .i64 (y4 - (1 : Int))) y5 (List.set y6 (0 + (Int.toNat y4)) false))) (none)))) (none)) (cond (decide (y4 < ((ByteArray.size y2) : Int))) (cond (inB (IntKind.wrap .i64 (y4 + (1 : Int))) (List.length y5)) (cond (List.getD y5 (0 + (Int.toNat (IntKind.wrap .i64 (y4 + (1 : Int))))) default) (cond (inB y3 (List.length y1)) (cond (decide ((List.getD y1 (Int.toNat y3) default) = (-(2 : Int)))) (cond (inB y4 (List.length y6)) (K (.p26 y1 y2 y3 (IntKind.wrap .i64 (y4 - (1 : Int))) y5 (List.set y6 (0 + (Int.toNat y4)) true))) (none)) (cond (inB y3 (List.length y1)) (cond (inB y4 (ByteArray.size y2)) (cond (inB y4 (List.length y6)) (K (.p26 y1 y2 y3 (IntKind.wrap .i64 (y4 - (1 : Int))) y5 (List.set y6 (0 + (Int.toNat y4)) (decide ((List.getD y1 (Int.toNat y3) default) = (IntKind.wrap .i64 (bt y2 y4))))))) (none)) (none)) (none))) (none)) (cond (inB y4 (List.length y6)) (K (.p26 y1 y2 y3 (IntKind.wrap .i64 (y4 - (1 : Int))) y5 (List.set y6 (0 + (Int.toNat y4)) false))) (none))) (none)) (cond (inB y4 (List.length y6)) (K (.p26 y1 y2 y3 (IntKind.wrap .i64 (y4 - (1 : Int))) y5 (List.set y6 (0 + (Int.toNat y4)) false))) (none)))) (none)) (K (.p11 y1 y2 (IntKind.wrap .i64 (y3 - (1 : Int))) y6))
def spec_l2Rest (n : Nat) (a0 : List (Int)) (a1 : ByteArray) : Option (Tup [(.sl false .bool)]) := goRec spec_l2Rest.step n (.p0 a0 a1)
def spec_l2Rest.spec : Ctr := ⟨146, [.v (.sl false (.int .i64)), .v .str], [(.sl false .bool)], [], none, fun n x => spec_l2Rest n x.1 x.2.1⟩
theorem spec_l2Rest.seg_eq : SegEq ty gl spec_l2Rest.F spec_l2Rest.md spec_l2Rest.T spec_l2Rest.spec spec_l2Rest.lb spec_l2Rest.st spec_l2Rest.step := by
  intro n goto y; cases y <;> kernel_rfl
theorem spec_l2Rest.text : Text Go.Proofs.Tryz.prog spec_l2Rest.F spec_l2Rest.spec := textOf Go.Proofs.Tryz.f146
theorem spec_l2Rest.ok : CtrOK Go.Proofs.Tryz.prog gl spec_l2Rest.spec :=
  ctr_okS tabs spec_l2Rest.text spec_l2Rest.seg_eq (fun n x => ⟨.p0 x.1 x.2.1, rfl, rfl, rfl⟩) (nilC)

/-! loop.example/g00039/spec.l2Fits -/
def spec_l2Fits.T : List Ctr := [spec_l2Alternatives.spec, spec_l2Rest.spec]
def spec_l2Fits.md : List (Nat × List Md) := []
noncomputable def spec_l2Fits.F : Fun := ⟨(Go.Proofs.Tryz.f137.body).getD .skip, [.v .str, .v .str], [(.tmp 4, .bool)], [], 0, [(9, ⟨[1, 14, 15, 16], [(14, (.sl false (.int .i64)))], [], false⟩)]⟩
inductive spec_l2Fits.Pt where
  | p0 (a0 : ByteArray) (a1 : ByteArray)
  | p9 (y1 : ByteArray) (y2 : Int) (y3 : Int) (y4 : List (List (Int)))
def spec_l2Fits.lb : spec_l2Fits.Pt → Nat
  | .p0 _ _ => 0
  | .p9 _ _ _ _ => 9
def spec_l2Fits.st : spec_l2Fits.Pt → St
  | .p0 a0 a1 => enter [.v .str a0, .v .str a1] 0
  | .p9 y1 y2 y3 y4 => ⟨[(1, .im .str y1), (14, .hs 0 [] none 0), (15, .im (.int .i64) y2), (16, .im (.int .i64) y3)], [(0, .arr false (.sl false (.int .i64)) y4 0)], 1⟩
def spec_l2Fits.step (n : Nat) (K : spec_l2Fits.Pt → Option (Tup [.bool])) : spec_l2Fits.Pt → Option (Tup [.bool])
  | .p0 a0 a1 => (spec_l2Alternatives n a0).bind fun r5 => K (.p9 a1 ((List.length r5.1) : Int) (0 : Int) r5.1)
  | .p9 y1 y2 y3 y4 => cond (decide (y3 < y2)) (cond (inB y3 (List.length y4)) ((spec_l2Rest n (List.getD y4 (0 + (Int.toNat y3)) default) y1).bind fun r7 => cond (inB (0 : Int) (List.length r7)) (cond (List.getD r7 (0 + (Int.toNat (0 : Int))) default) (some true) (K (.p9 y1 y2 (IntKind.wrap .i64 (y3 + (1 : Int))) y4))) (none)) (none)) (some false)
def spec_l2Fits (n : Nat) (a0 : ByteArray) (a1 : ByteArray) : Option (Tup [.bool]) := goRec spec_l2Fits.step n (.p0 a0 a1)
def spec_l2Fits.spec : Ctr := ⟨137, [.v .str, .v .str], [.bool], [], none, fun n x => spec_l2Fits n x.1 x.2.1⟩
theorem spec_l2Fits.seg_eq : SegEq ty gl spec_l2Fits.F spec_l2Fits.md spec_l2Fits.T spec_l2Fits.spec spec_l2Fits.lb spec_l2Fits.st spec_l2Fits.step := by
  intro n goto y; cases y <;> kernel_rfl
theorem spec_l2Fits.text : Text Go.Proofs.Tryz.prog spec_l2Fits.F spec_l2Fits.spec := textOf Go.Proofs.Tryz.f137
theorem spec_l2Fits.ok : CtrOK Go.Proofs.Tryz.prog gl spec_l2Fits.spec :=
  ctr_okS tabs spec_l2Fits.text spec_l2Fits.seg_eq (fun n x => ⟨.p0 x.1 x.2.1, rfl, rfl, rfl⟩) (consC spec_l2Alternatives.ok (consC spec_l2Rest.ok (nilC)))

/-! loop.example/g00039/spec.l2Match -/
def spec_l2Match.T : List Ctr := [spec_l2Fits.spec]
def spec_l2Match.md : List (Nat × List Md) := []
noncomputable def spec_l2Match.F : Fun := ⟨(Go.Proofs.Tryz.f112.body).getD .skip, [.v (.pair .str (.pair (.int .i64) (.pair .str .unit))), .v .str], [(.tmp 4, .bool)], [], 0, []⟩
inductive spec_l2Match.Pt where
  | p0 (a0 : (ByteArray) × ((Int) × ((ByteArray) × (Unit)))) (a1 : ByteArray)
def spec_l2Match.lb : spec_l2Match.Pt → Nat
  | .p0 _ _ => 0
def spec_l2Match.st : spec_l2Match.Pt → St
  | .p0 a0 a1 => enter [.v (.pair .str (.pair (.int .i64) (.pair .str .unit))) a0, .v .str a1] 0
def spec_l2Match.step (n : Nat) (K : spec_l2Match.Pt → Option (Tup [.bool])) : spec_l2Match.Pt → Option (Tup [.bool])
  | .p0 a0 a1 => cond (decide (a0.2.1 = (1 : Int))) (some (seq a1 a0.2.2.1)) (cond (decide (a0.2.1 = (2 : Int))) (some (!(seq a1 a0.2.2.1))) (cond (decide (a0.2.1 = (3 : Int))) ((spec_l2Fits n a0.2.2.1 a1).bind fun r5 => some r5) ((spec_l2Fits n a0.2.2.1 a1).bind fun r5 => some (!r5))))
def spec_l2Match (n : Nat) (a0 : (ByteArray) × ((Int) × ((ByteArray) × (Unit)))) (a1 : ByteArray) : Option (Tup [.bool]) := goRec spec_l2Match.step n (.p0 a0 a1)
def spec_l2Match.spec : Ctr := ⟨112, [.v (.pair .str (.pair (.int .i64) (.pair .str .unit))), .v .str], [.bool], [], none, fun n x => spec_l2Match n x.1 x.2.1⟩
theorem spec_l2Match.seg_eq : SegEq ty gl spec_l2Match.F spec_l2Match.md spec_l2Match.T spec_l2Match.spec spec_l2Match.lb spec_l2Match.st spec_l2Match.step := by
  intro n goto y; cases y <;> kernel_rfl
theorem spec_l2Match.text : Text Go.Proofs.Tryz.prog spec_l2Match.F spec_l2Match.spec := textOf Go.Proofs.Tryz.f112
theorem spec_l2Match.ok : CtrOK Go.Proofs.Tryz.prog gl spec_l2Match.spec :=
  ctr_okS tabs spec_l2Match.text spec_l2Match.seg_eq (fun n x => ⟨.p0 x.1 x.2.1, rfl, rfl, rfl⟩) (consC spec_l2Fits.ok (nilC))

/-! loop.example/g00039/spec.l2All -/
def spec_l2All.T : List Ctr := [spec_l2Of.spec, spec_l2Match.spec]
def spec_l2All.md : List (Nat × List Md) := []
noncomputable def spec_l2All.F : Fun := ⟨(Go.Proofs.Tryz.f73.body).getD .skip, [.v (.sl false (.pair .str (.pair (.int .i64) (.pair .str .unit)))), .v (.sl false (.pair .str (.pair .str .unit)))], [(.tmp 4, .bool)], [], 0, [(7, ⟨[1, 7, 8, 9], [(7, (.pair .str (.pair (.int .i64) (.pair .str .unit))))], [], false⟩)]⟩
inductive spec_l2All.Pt where
  | p0 (a0 : List ((ByteArray) × ((Int) × ((ByteArray) × (Unit))))) (a1 : List ((ByteArray) × ((ByteArray) × (Unit))))
  | p7 (y1 : List ((ByteArray) × ((ByteArray) × (Unit)))) (y2 : List ((ByteArray) × ((Int) × ((ByteArray) × (Unit))))) (y3 : Int) (y4 : Int)
def spec_l2All.lb : spec_l2All.Pt → Nat
  | .p0 _ _ => 0
  | .p7 _ _ _ _ => 7
def spec_l2All.st : spec_l2All.Pt → St
  | .p0 a0 a1 => enter [.v (.sl false (.pair .str (.pair (.int .i64) (.pair .str .unit)))) a0, .v (.sl false (.pair .str (.pair .str .unit))) a1] 0
  | .p7 y1 y2 y3 y4 => ⟨[(1, .im (.sl false (.pair .str (.pair .str .unit))) y1), (7, .im (.sl false (.pair .str (.pair (.int .i64) (.pair .str .unit)))) y2), (8, .im (.int .i64) y3), (9, .im (.int .i64) y4)], [], 0⟩
def spec_l2All.step (n : Nat) (K : spec_l2All.Pt → Option (Tup [.bool])) : spec_l2All.Pt → Option (Tup [.bool])
  | .p0 a0 a1 => K (.p7 a1 a0 ((List.length a0) : Int) (0 : Int))
  | .p7 y1 y2 y3 y4 => cond (decide (y4 < y3)) (cond (inB y4 (List.length y2)) ((spec_l2Of n y1 (List.getD y2 (Int.toNat y4) default).1).bind fun r7 => (spec_l2Match n (List.getD y2 (Int.toNat y4) default) r7).bind fun r8 => cond (!r8) (some false) (K (.p7 y1 y2 y3 (IntKind.wrap .i64 (y4 + (1 : Int)))))) (none)) (some true)
def spec_l2All (n : Nat) (a0 : List ((ByteArray) × ((Int) × ((ByteArray) × (Unit))))) (a1 : List ((ByteArray) × ((ByteArray) × (Unit)))) : Option (Tup [.bool]) := goRec spec_l2All.step n (.p0 a0 a1)
def spec_l2All.spec : Ctr := ⟨73, [.v (.sl false (.pair .str (.pair (.int .i64) (.pair .str .unit)))), .v (.sl false (.pair .str (.pair .str .unit)))], [.bool], [], none, fun n x => spec_l2All n x.1 x.2.1⟩
theorem spec_l2All.seg_eq : SegEq ty gl spec_l2All.F spec_l2All.md spec_l2All.T spec_l2All.spec spec_l2All.lb spec_l2All.st spec_l2All.step := by
  intro n goto y; cases y <;> kernel_rfl
theorem spec_l2All.text : Text Go.Proofs.Tryz.prog spec_l2All.F spec_l2All.spec := textOf Go.Proofs.Tryz.f73
theorem spec_l2All.ok : CtrOK Go.Proofs.Tryz.prog gl spec_l2All.spec :=
  ctr_okS tabs spec_l2All.text spec_l2All.seg_eq (fun n x => ⟨.p0 x.1 x.2.1, rfl, rfl, rfl⟩) (consC spec_l2Of.ok (consC spec_l2Match.ok (nilC)))

/-! loop.example/g00039/spec.l3Copy -/
def spec_l3Copy.T : List Ctr := []
def spec_l3Copy.md : List (Nat × List Md) := []
noncomputable def spec_l3Copy.F : Fun := ⟨(Go.Proofs.Tryz.f74.body).getD .skip, [.v (.sl false (.pair .str (.pair .str .unit)))], [(.tmp 2, (.sl false (.pair .str (.pair .str .unit))))], [], 0, []⟩
inductive spec_l3Copy.Pt where
  | p0 (a0 : List ((ByteArray) × ((ByteArray) × (Unit))))
def spec_l3Copy.lb : spec_l3Copy.Pt → Nat
  | .p0 _ => 0
def spec_l3Copy.st : spec_l3Copy.Pt → St
  | .p0 a0 => enter [.v (.sl false (.pair .str (.pair .str .unit))) a0] 0
def spec_l3Copy.step (n : Nat) (K : spec_l3Copy.Pt → Option (Tup [(.sl false (.pair .str (.pair .str .unit)))])) : spec_l3Copy.Pt → Option (Tup [(.sl false (.pair .str (.pair .str .unit)))])
  | .p0 a0 => cond (room ((List.length ([] : List ((ByteArray) × ((ByteArray) × (Unit))))) + (List.length a0))) (some (([] : List ((ByteArray) × ((ByteArray) × (Unit)))) ++ a0)) (none)
def spec_l3Copy (n : Nat) (a0 : List ((ByteArray) × ((ByteArray) × (Unit)))) : Option (Tup [(.sl false (.pair .str (.pair .str .unit)))]) := goRec spec_l3Copy.step n (.p0 a0)
def spec_l3Copy.spec : Ctr := ⟨74, [.v (.sl false (.pair .str (.pair .str .unit)))], [(.sl false (.pair .str (.pair .str .unit)))], [], none, fun n x => spec_l3Copy n x.1⟩
theorem spec_l3Copy.seg_eq : SegEq ty gl spec_l3Copy.F spec_l3Copy.md spec_l3Copy.T spec_l3Copy.spec spec_l3Copy.lb spec_l3Copy.st spec_l3Copy.step := by
  intro n goto y; cases y <;> kernel_rfl
theorem spec_l3Copy.text : Text Go.Proofs.Tryz.prog spec_l3Copy.F spec_l3Copy.spec := textOf Go.Proofs.Tryz.f74
theorem spec_l3Copy.ok : CtrOK Go.Proofs.Tryz.prog gl spec_l3Copy.spec :=
  ctr_okS tabs spec_l3Copy.text spec_l3Copy.seg_eq (fun n x => ⟨.p0 x.1, rfl, rfl, rfl⟩) (nilC)

/-! loop.example/g00039/spec.l17Trim -/
def spec_l17Trim.T : List Ctr := [spec_l2All.spec, spec_l3Copy.spec]
def spec_l17Trim.md : List (Nat × List Md) := []
noncomputable def spec_l17Trim.F : Fun := ⟨(Go.Proofs.Tryz.f34.body).getD .skip, [.v (.sl false (.pair (.sl false (.pair .str (.pair .str .unit))) (.pair (.sl false (.pair (.int .i64) (.pair (.int .i64) .unit))) .unit))), .v (.sl false (.pair (.sl false (.pair .str (.pair (.int .i64) (.pair .str .unit)))) (.pair (.int .i64) (.pair (.int .i64) .unit))))], [(.tmp 4, (.sl false (.pair (.sl false (.pair .str (.pair .str .unit))) (.pair (.sl false (.pair (.int .i64) (.pair (.int .i64) .unit))) .unit))))], [], 0, [(9, ⟨[1, 5, 14, 15, 16], [(5, (.pair (.sl false (.pair .str (.pair .str .unit))) (.pair (.sl false (.pair (.int .i64) (.pair (.int .i64) .unit))) .unit))), (14, (.pair (.sl false (.pair .str (.pair .str .unit))) (.pair (.sl false (.pair (.int .i64) (.pair (.int .i64) .unit))) .unit)))], [], false⟩), (26, ⟨[1, 5, 7, 8, 14, 15, 16, 21, 22, 23], [(5, (.pair (.sl false (.pair .str (.pair .str .unit))) (.pair (.sl false (.pair (.int .i64) (.pair (.int .i64) .unit))) .unit))), (8, (.pair (.int .i64) (.pair (.int .i64) .unit))), (14, (.pair (.sl false (.pair .str (.pair .str .unit))) (.pair (.sl false (.pair (.int .i64) (.pair (.int .i64) .unit))) .unit))), (21, (.pair (.int .i64) (.pair (.int .i64) .unit)))], [(7, 0, (.pair .str (.pair .str .unit))), (7, 1, (.pair (.int .i64) (.pair (.int .i64) .unit)))], false⟩), (43, ⟨[1, 5, 7, 8, 10, 11, 14, 15, 16, 21, 22, 23, 27, 28, 29], [(5, (.pair (.sl false (.pair .str (.pair .str .unit))) (.pair (.sl false (.pair (.int .i64) (.pair (.int .i64) .unit))) .unit))), (8, (.pair (.int .i64) (.pair (.int .i64) .unit))), (14, (.pair (.sl false (.pair .str (.pair .str .unit))) (.pair (.sl false (.pair (.int .i64) (.pair (.int .i64) .unit))) .unit))), (21, (.pair (.int .i64) (.pair (.int .i64) .unit))), (27, (.pair (.sl false (.pair .str (.pair (.int .i64) (.pair .str .unit)))) (.pair (.int .i64) (.pair (.int .i64) .unit))))], [(7, 0, (.pair .str (.pair .str .unit))), (7, 1, (.pair (.int .i64) (.pair (.int .i64) .unit)))], false⟩)]⟩
inductive spec_l17Trim.Pt where
  | p0 (a0 : List ((List ((ByteArray) × ((ByteArray) × (Unit)))) × ((List ((Int) × ((Int) × (Unit)))) × (Unit)))) (a1 : List ((List ((ByteArray) × ((Int) × ((ByteArray) × (Unit))))) × ((Int) × ((Int) × (Unit)))))
  | p9 (y1 : List ((List ((ByteArray) × ((Int) × ((ByteArray) × (Unit))))) × ((Int) × ((Int) × (Unit))))) (y2 : List ((List ((ByteArray) × ((ByteArray) × (Unit)))) × ((List ((Int) × ((Int) × (Unit)))) × (Unit)))) (y3 : Int) (y4 : Int) (y5 : List ((List ((ByteArray) × ((ByteArray) × (Unit)))) × ((List ((Int) × ((Int) × (Unit)))) × (Unit))))
  | p26 (y1 : List ((List ((ByteArray) × ((Int) × ((ByteArray) × (Unit))))) × ((Int) × ((Int) × (Unit))))) (y2 : List ((List ((ByteArray) × ((ByteArray) × (Unit)))) × ((List ((Int) × ((Int) × (Unit)))) × (Unit)))) (y3 : Int) (y4 : Int) (y5 : List ((Int) × ((Int) × (Unit)))) (y6 : Int) (y7 : Int) (y8 : List ((List ((ByteArray) × ((ByteArray) × (Unit)))) × ((List ((Int) × ((Int) × (Unit)))) × (Unit)))) (y9 : List ((ByteArray) × ((ByteArray) × (Unit)))) (y10 : List ((Int) × ((Int) × (Unit)))) (y11 : List ((Int) × ((Int) × (Unit))))
  | p43 (y1 : List ((List ((ByteArray) × ((Int) × ((ByteArray) × (Unit))))) × ((Int) × ((Int) × (Unit))))) (y2 : Bool) (y3 : List ((List ((ByteArray) × ((ByteArray) × (Unit)))) × ((List ((Int) × ((Int) × (Unit)))) × (Unit)))) (y4 : Int) (y5 : Int) (y6 : List ((Int) × ((Int) × (Unit)))) (y7 : Int) (y8 : Int) (y9 : List ((List ((ByteArray) × ((Int) × ((ByteArray) × (Unit))))) × ((Int) × ((Int) × (Unit))))) (y10 : Int) (y11 : Int) (y12 : List ((List ((ByteArray) × ((ByteArray) × (Unit)))) × ((List ((Int) × ((Int) × (Unit)))) × (Unit)))) (y13 : List ((ByteArray) × ((ByteArray) × (Unit)))) (y14 : List ((Int) × ((Int) × (Unit)))) (y15 : List ((Int) × ((Int) × (Unit)))) (y16 : Int) (y17 : Int)
def spec_l17Trim.lb : spec_l17Trim.Pt → Nat
  | .p0 _ _ => 0
  | .p9 _ _ _ _ _ => 9
  | .p26 _ _ _ _ _ _ _ _ _ _ _ => 26
  | .p43 _ _ _ _ _ _ _ _ _ _ _ _ _ _ _ _ _ => 43
def spec_l17Trim.st : spec_l17Trim.Pt → St
  | .p0 a0 a1 => enter [.v (.sl false (.pair (.sl false (.pair .str (.pair .str .unit))) (.pair (.sl false (.pair (.int .i64) (.pair (.int .i64) .unit))) .unit))) a0, .v (.sl false (.pair (.sl false (.pair .str (.pair (.int .i64) (.pair .str .unit)))) (.pair (.int .i64) (.pair (.int .i64) .unit)))) a1] 0
  | .p9 y1 y2 y3 y4 y5 => ⟨[(1, .im (.sl false (.pair (.sl false (.pair .str (.pair (.int .i64) (.pair .str .unit)))) (.pair (.int .i64) (.pair (.int .i64) .unit)))) y1), (5, .hs 0 [] none 0), (14, .im (.sl false (.pair (.sl false (.pair .str (.pair .str .unit))) (.pair (.sl false (.pair (.int .i64) (.pair (.int .i64) .unit))) .unit))) y2), (15, .im (.int .i64) y3), (16, .im (.int .i64) y4)], [(0, .arr true (.pair (.sl false (.pair .str (.pair .str .unit))) (.pair (.sl false (.pair (.int .i64) (.pair (.int .i64) .unit))) .unit)) y5 0)], 1⟩
  | .p26 y1 y2 y3 y4 y5 y6 y7 y8 y9 y10 y11 => ⟨[(1, .im (.sl false (.pair (.sl false (.pair .str (.pair (.int .i64) (.pair .str .unit)))) (.pair (.int .i64) (.pair (.int .i64) .unit)))) y1), (5, .hs 0 [] none 0), (7, .po 1 0), (8, .hs 2 [] none 0), (14, .im (.sl false (.pair (.sl false (.pair .str (.pair .str .unit))) (.pair (.sl false (.pair (.int .i64) (.pair (.int .i64) .unit))) .unit))) y2), (15, .im (.int .i64) y3), (16, .im (.int .i64) y4), (21, .im (.sl false (.pair (.int .i64) (.pair (.int .i64) .unit))) y5), (22, .im (.int .i64) y6), (23, .im (.int .i64) y7)], [(0, .arr true (.pair (.sl false (.pair .str (.pair .str .unit))) (.pair (.sl false (.pair (.int .i64) (.pair (.int .i64) .unit))) .unit)) y8 0), (1, .obj [.im (.sl false (.pair .str (.pair .str .unit))) y9, .im (.sl false (.pair (.int .i64) (.pair (.int .i64) .unit))) y10]), (2, .arr true (.pair (.int .i64) (.pair (.int .i64) .unit)) y11 0)], 3⟩
  | .p43 y1 y2 y3 y4 y5 y6 y7 y8 y9 y10 y11 y12 y13 y14 y15 y16 y17 => ⟨[(1, .im (.sl false (.pair (.sl false (.pair .str (.pair (.int .i64) (.pair .str .unit)))) (.pair (.int .i64) (.pair (.int .i64) .unit)))) y1), (5, .hs 0 [] none 0), (7, .po 1 0), (8, .hs 2 [] none 0), (10, .po 3 0), (11, .im .bool y2), (14, .im (.sl false (.pair (.sl false (.pair .str (.pair .str .unit))) (.pair (.sl false (.pair (.int .i64) (.pair (.int .i64) .unit))) .unit))) y3), (15, .im (.int .i64) y4), (16, .im (.int .i64) y5), (21, .im (.sl false (.pair (.int .i64) (.pair (.int .i64) .unit))) y6), (22, .im (.int .i64) y7), (23, .im (.int .i64) y8), (27, .im (.sl false (.pair (.sl false (.pair .str (.pair (.int .i64) (.pair .str .unit)))) (.pair (.int .i64) (.pair (.int .i64) .unit)))) y9), (28, .im (.int .i64) y10), (29, .im (.int .i64) y11)], [(0, .arr true (.pair (.sl false (.pair .str (.pair .str .unit))) (.pair (.sl false (.pair (.int .i64) (.pair (.int .i64) .unit))) .unit)) y12 0), (1, .obj [.im (.sl false (.pair .str (.pair .str .unit))) y13, .im (.sl false (.pair (.int .i64) (.pair (.int .i64) .unit))) y14]), (2, .arr true (.pair (.int .i64) (.pair (.int .i64) .unit)) y15 0), (3, .obj [.im (.int .i64) y16, .im (.int .i64) y17])], 4⟩
def spec_l17Trim.step (n : Nat) (K : spec_l17Trim.Pt → Option (Tup [(.sl false (.pair (.sl false (.pair .str (.pair .str .unit))) (.pair (.sl false (.pair (.int .i64) (.pair (.int .i64) .unit))) .unit)))])) : spec_l17Trim.Pt → Option (Tup [(.sl false (.pair (.sl false (.pair .str (.pair .str .unit))) (.pair (.sl false (.pair (.int .i64) (.pair (.int .i64) .unit))) .unit)))])
  | .p0 a0 a1 => K (.p9 a1 a0 ((List.length a0) : Int) (0 : Int) ([] : List ((List ((ByteArray) × ((ByteArray) × (Unit)))) × ((List ((Int) × ((Int) × (Unit)))) × (Unit)))))
  | .p9 y1 y2 y3 y4 y5 => cond (decide (y4 < y3)) (cond (inB y4 (List.length y2)) (K (.p26 y1 y2 y3 y4 (List.getD y2 (Int.toNat y4) default).2.1 ((List.length (List.getD y2 (Int.toNat y4) default).2.1) : Int) (0 : Int) y5 (List.getD y2 (Int.toNat y4) default).1 (List.getD y2 (Int.toNat y4) default).2.1 ([] : List ((Int) × ((Int) × (Unit)))))) (none)) (some y5)
  | .p26 y1 y2 y3 y4 y5 y6 y7 y8 y9 y10 y11 => cond (decide (y7 < y6)) (cond (inB y7 (List.length y5)) (K (.p43 y1 false y2 y3 y4 y5 y6 y7 y1 ((List.length y1) : Int) (0 : Int) y8 y9 y10 y11 (List.getD y5 (Int.toNat y7) default).1 (List.getD y5 (Int.toNat y7) default).2.1)) (none)) (cond (decide ((0 : Int) < ((List.length y11) : Int))) ((spec_l3Copy n y9).bind fun r14 => cond (room ((List.length y8) + (List.length [(r14, (y11, ()))]))) (K (.p9 y1 y2 y3 (IntKind.wrap .i64 (y4 + (1 : Int))) (y8 ++ [(r14, (y11, ()))]))) (none)) (K (.p9 y1 y2 y3 (IntKind.wrap .i64 (y4 + (1 : Int))) y8)))
  | .p43 y1 y2 y3 y4 y5 y6 y7 y8 y9 y10 y11 y12 y13 y14 y15 y16 y17 => cond (decide (y11 < y10)) (cond (inB y11 (List.length y9)) (cond y2 (K (.p43 y1 true y3 y4 y5 y6 y7 y8 y9 y10 (IntKind.wrap .i64 (y11 + (1 : Int))) y12 y13 y14 y15 y16 y17)) (cond (decide ((List.getD y9 (Int.toNat y11) default).2.1 ≤ y16)) (cond (decide (y16 ≤ (List.getD y9 (Int.toNat y11) default).2.2.1)) ((spec_l2All n (List.getD y9 (Int.toNat y11) default).1 y13).bind fun r20 => K (.p43 y1 r20 y3 y4 y5 y6 y7 y8 y9 y10 (IntKind.wrap .i64 (y11 + (1 : Int))) y12 y13 y14 y15 y16 y17)) (K (.p43 y1 false y3 y4 y5 y6 y7 y8 y9 y10 (IntKind.wrap .i64 (y11 + (1 : Int))) y12 y13 y14 y15 y16 y17))) (K (.p43 y1 false y3 y4 y5 y6 y7 y8 y9 y10 (IntKind.wrap .i64 (y11 + (1 : Int))) y12 y13 y14 y15 y16 y17)))) (none)) (cond y2 (cond (room ((List.length y15) + (List.length [(y16, (y17, ()))]))) (K (.p26 y1 y3 y4 y5 y6 y7 (IntKind.wrap .i64 (y8 + (1 : Int))) y12 y13 y14 (y15 ++ [(y16, (y17, ()))]))) (none)) (K (.p26 y1 y3 y4 y5 y6 y7 (IntKind.wrap .i64 (y8 + (1 : Int))) y12 y13 y14 y15)))
def spec_l17Trim (n : Nat) (a0 : List ((List ((ByteArray) × ((ByteArray) × (Unit)))) × ((List ((Int) × ((Int) × (Unit)))) × (Unit)))) (a1 : List ((List ((ByteArray) × ((Int) × ((ByteArray) × (Unit))))) × ((Int) × ((Int) × (Unit))))) : Option (Tup [(.sl false (.pair (.sl false (.pair .str (.pair .str .unit))) (.pair (.sl false (.pair (.int .i64) (.pair (.int .i64) .unit))) .unit)))]) := goRec spec_l17Trim.step n (.p0 a0 a1)
def spec_l17Trim.spec : Ctr := ⟨34, [.v (.sl false (.pair (.sl false (.pair .str (.pair .str .unit))) (.pair (.sl false (.pair (.int .i64) (.pair (.int .i64) .unit))) .unit))), .v (.sl false (.pair (.sl false (.pair .str (.pair (.int .i64) (.pair .str .unit)))) (.pair (.int .i64) (.pair (.int .i64) .unit))))], [(.sl false (.pair (.sl false (.pair .str (.pair .str .unit))) (.pair (.sl false (.pair (.int .i64) (.pair (.int .i64) .unit))) .unit)))], [], none, fun n x => spec_l17Trim n x.1 x.2.1⟩
theorem spec_l17Trim.seg_eq : SegEq ty gl spec_l17Trim.F spec_l17Trim.md spec_l17Trim.T spec_l17Trim.spec spec_l17Trim.lb spec_l17Trim.st spec_l17Trim.step := by
  intro n goto y; cases y <;> kernel_rfl
theorem spec_l17Trim.text : Text Go.Proofs.Tryz.prog spec_l17Trim.F spec_l17Trim.spec := textOf Go.Proofs.Tryz.f34
theorem spec_l17Trim.ok : CtrOK Go.Proofs.Tryz.prog gl spec_l17Trim.spec :=
  ctr_okS tabs spec_l17Trim.text spec_l17Trim.seg_eq (fun n x => ⟨.p0 x.1 x.2.1, rfl, rfl, rfl⟩) (consC spec_l2All.ok (consC spec_l3Copy.ok (nilC)))

/-! loop.example/g00039/spec.TrimSeries -/
def spec_TrimSeries.T : List Ctr := [spec_GoodSeries.spec, spec_GoodMatchers.spec, spec_l17Trim.spec]
def spec_TrimSeries.md : List (Nat × List Md) := []
noncomputable def spec_TrimSeries.F : Fun := ⟨(Go.Proofs.Tryz.f7.body).getD .skip, [.v (.sl false (.pair (.sl false (.pair .str (.pair .str .unit))) (.pair (.sl false (.pair (.int .i64) (.pair (.int .i64) .unit))) .unit))), .v (.sl false (.pair (.sl false (.pair .str (.pair (.int .i64) (.pair .str .unit)))) (.pair (.int .i64) (.pair (.int .i64) .unit))))], [(.tmp 4, (.sl false (.pair (.sl false (.pair .str (.pair .str .unit))) (.pair (.sl false (.pair (.int .i64) (.pair (.int .i64) .unit))) .unit))))], [], 0, [(4, ⟨[0, 1, 14], [], [], false⟩), (15, ⟨[0, 1, 15, 16, 17], [(15, (.pair (.sl false (.pair .str (.pair (.int .i64) (.pair .str .unit)))) (.pair (.int .i64) (.pair (.int .i64) .unit))))], [], false⟩)]⟩
inductive spec_TrimSeries.Pt where
  | p0 (a0 : List ((List ((ByteArray) × ((ByteArray) × (Unit)))) × ((List ((Int) × ((Int) × (Unit)))) × (Unit)))) (a1 : List ((List ((ByteArray) × ((Int) × ((ByteArray) × (Unit))))) × ((Int) × ((Int) × (Unit)))))
  | p4 (y1 : List ((List ((ByteArray) × ((ByteArray) × (Unit)))) × ((List ((Int) × ((Int) × (Unit)))) × (Unit)))) (y2 : List ((List ((ByteArray) × ((Int) × ((ByteArray) × (Unit))))) × ((Int) × ((Int) × (Unit))))) (y3 : Bool)
  | p15 (y1 : List ((List ((ByteArray) × ((ByteArray) × (Unit)))) × ((List ((Int) × ((Int) × (Unit)))) × (Unit)))) (y2 : List ((List ((ByteArray) × ((Int) × ((ByteArray) × (Unit))))) × ((Int) × ((Int) × (Unit))))) (y3 : List ((List ((ByteArray) × ((Int) × ((ByteArray) × (Unit))))) × ((Int) × ((Int) × (Unit))))) (y4 : Int) (y5 : Int)
def spec_TrimSeries.lb : spec_TrimSeries.Pt → Nat
  | .p0 _ _ => 0
  | .p4 _ _ _ => 4
  | .p15 _ _ _ _ _ => 15
def spec_TrimSeries.st : spec_TrimSeries.Pt → St
  | .p0 a0 a1 => enter [.v (.sl false (.pair (.sl false (.pair .str (.pair .str .unit))) (.pair (.sl false (.pair (.int .i64) (.pair (.int .i64) .unit))) .unit))) a0, .v (.sl false (.pair (.sl false (.pair .str (.pair (.int .i64) (.pair .str .unit)))) (.pair (.int .i64) (.pair (.int .i64) .unit)))) a1] 0
  | .p4 y1 y2 y3 => ⟨[(0, .im (.sl false (.pair (.sl false (.pair .str (.pair .str .unit))) (.pair (.sl false (.pair (.int .i64) (.pair (.int .i64) .unit))) .unit))) y1), (1, .im (.sl false (.pair (.sl false (.pair .str (.pair (.int .i64) (.pair .str .unit)))) (.pair (.int .i64) (.pair (.int .i64) .unit)))) y2), (14, .im .bool y3)], [], 0⟩
  | .p15 y1 y2 y3 y4 y5 => ⟨[(0, .im (.sl false (.pair (.sl false (.pair .str (.pair .str .unit))) (.pair (.sl false (.pair (.int .i64) (.pair (.int .i64) .unit))) .unit))) y1), (1, .im (.sl false (.pair (.sl false (.pair .str (.pair (.int .i64) (.pair .str .unit)))) (.pair (.int .i64) (.pair (.int .i64) .unit)))) y2), (15, .im (.sl false (.pair (.sl false (.pair .str (.pair (.int .i64) (.pair .str .unit)))) (.pair (.int .i64) (.pair (.int .i64) .unit)))) y3), (16, .im (.int .i64) y4), (17, .im (.int .i64) y5)], [], 0⟩
def spec_TrimSeries.step (n : Nat) (K : spec_TrimSeries.Pt → Option (Tup [(.sl false (.pair (.sl false (.pair .str (.pair .str .unit))) (.pair (.sl false (.pair (.int .i64) (.pair (.int .i64) .unit))) .unit)))])) : spec_TrimSeries.Pt → Option (Tup [(.sl false (.pair (.sl false (.pair .str (.pair .str .unit))) (.pair (.sl false (.pair (.int .i64) (.pair (.int .i64) .unit))) .unit)))])
  | .p0 a0 a1 => (spec_GoodSeries n a0).bind fun r5 => cond (!r5) (K (.p4 a0 a1 true)) (K (.p4 a0 a1 (decide ((60 : Int) < ((List.length a1) : Int)))))
  | .p4 y1 y2 y3 => cond y3 (some ([] : List ((List ((ByteArray) × ((ByteArray) × (Unit)))) × ((List ((Int) × ((Int) × (Unit)))) × (Unit))))) (K (.p15 y1 y2 y2 ((List.length y2) : Int) (0 : Int)))
  | .p15 y1 y2 y3 y4 y5 => cond (decide (y5 < y4)) (cond (inB y5 (List.length y3)) ((spec_GoodMatchers n (List.getD y3 (Int.toNat y5) default).1).bind fun r8 => cond (!r8) (some ([] : List ((List ((ByteArray) × ((ByteArray) × (Unit)))) × ((List ((Int) × ((Int) × (Unit)))) × (Unit))))) (K (.p15 y1 y2 y3 y4 (IntKind.wrap .i64 (y5 + (1 : Int)))))) (none)) ((spec_l17Trim n y1 y2).bind fun r8 => some r8)
def spec_TrimSeries (n : Nat) (a0 : List ((List ((ByteArray) × ((ByteArray) × (Unit)))) × ((List ((Int) × ((Int) × (Unit)))) × (Unit)))) (a1 : List ((List ((ByteArray) × ((Int) × ((ByteArray) × (Unit))))) × ((Int) × ((Int) × (Unit))))) : Option (Tup [(.sl false (.pair (.sl false (.pair .str (.pair .str .unit))) (.pair (.sl false (.pair (.int .i64) (.pair (.int .i64) .unit))) .unit)))]) := goRec spec_TrimSeries.step n (.p0 a0 a1)
def spec_TrimSeries.spec : Ctr := ⟨7, [.v (.sl false (.pair (.sl false (.pair .str (.pair .str .unit))) (.pair (.sl false (.pair (.int .i64) (.pair (.int .i64) .unit))) .unit))), .v (.sl false (.pair (.sl false (.pair .str (.pair (.int .i64) (.pair .str .unit)))) (.pair (.int .i64) (.pair (.int .i64) .unit))))], [(.sl false (.pair (.sl false (.pair .str (.pair .str .unit))) (.pair (.sl false (.pair (.int .i64) (.pair (.int .i64) .unit))) .unit)))], [], none, fun n x => spec_TrimSeries n x.1 x.2.1⟩
theorem spec_TrimSeries.seg_eq : SegEq ty gl spec_TrimSeries.F spec_TrimSeries.md spec_TrimSeries.T spec_TrimSeries.spec spec_TrimSeries.lb spec_TrimSeries.st spec_TrimSeries.step := by
  intro n goto y; cases y <;> kernel_rfl
theorem spec_TrimSeries.text : Text Go.Proofs.Tryz.prog spec_TrimSeries.F spec_TrimSeries.spec := textOf Go.Proofs.Tryz.f7
theorem spec_TrimSeries.ok : CtrOK Go.Proofs.Tryz.prog gl spec_TrimSeries.spec :=
  ctr_okS tabs spec_TrimSeries.text spec_TrimSeries.seg_eq (fun n x => ⟨.p0 x.1 x.2.1, rfl, rfl, rfl⟩) (consC spec_GoodSeries.ok (consC spec_GoodMatchers.ok (consC spec_l17Trim.ok (nilC))))

/-! loop.example/g00039/impl.digitByte -/
def impl_digitByte.T : List Ctr := []
def impl_digitByte.md : List (Nat × List Md) := []
noncomputable def impl_digitByte.F : Fun := ⟨(Go.Proofs.Tryz.f138.body).getD .skip, [.v (.int .u8)], [(.tmp 2, .bool)], [], 0, []⟩
inductive impl_digitByte.Pt where
  | p0 (a0 : Int)
def impl_digitByte.lb : impl_digitByte.Pt → Nat
  | .p0 _ => 0
def impl_digitByte.st : impl_digitByte.Pt → St
  | .p0 a0 => enter [.v (.int .u8) a0] 0
def impl_digitByte.step (n : Nat) (K : impl_digitByte.Pt → Option (Tup [.bool])) : impl_digitByte.Pt → Option (Tup [.bool])
  | .p0 a0 => cond (decide ((48 : Int) ≤ a0)) (some (decide (a0 ≤ (57 : Int)))) (some false)
def impl_digitByte (n : Nat) (a0 : Int) : Option (Tup [.bool]) := goRec impl_digitByte.step n (.p0 a0)
def impl_digitByte.spec : Ctr := ⟨138, [.v (.int .u8)], [.bool], [], none, fun n x => impl_digitByte n x.1⟩
theorem impl_digitByte.seg_eq : SegEq ty gl impl_digitByte.F impl_digitByte.md impl_digitByte.T impl_digitByte.spec impl_digitByte.lb impl_digitByte.st impl_digitByte.step := by
  intro n goto y; cases y <;> kernel_rfl
theorem impl_digitByte.text : Text Go.Proofs.Tryz.prog impl_digitByte.F impl_digitByte.spec := textOf Go.Proofs.Tryz.f138
theorem impl_digitByte.ok : CtrOK Go.Proofs.Tryz.prog gl impl_digitByte.spec :=
  ctr_okS tabs impl_digitByte.text impl_digitByte.seg_eq (fun n x => ⟨.p0 x.1, rfl, rfl, rfl⟩) (nilC)

/-! loop.example/g00039/impl.letterByte -/
def impl_letterByte.T : List Ctr := []
def impl_letterByte.md : List (Nat × List Md) := []
noncomputable def impl_letterByte.F : Fun := ⟨(Go.Proofs.Tryz.f147.body).getD .skip, [.v (.int .u8)], [(.tmp 2, .bool)], [], 0, []⟩
inductive impl_letterByte.Pt where
  | p0 (a0 : Int)
def impl_letterByte.lb : impl_letterByte.Pt → Nat
  | .p0 _ => 0
def impl_letterByte.st : impl_letterByte.Pt → St
  | .p0 a0 => enter [.v (.int .u8) a0] 0
def impl_letterByte.step (n : Nat) (K : impl_letterByte.Pt → Option (Tup [.bool])) : impl_letterByte.Pt → Option (Tup [.bool])
  | .p0 a0 => cond (decide ((97 : Int) ≤ a0)) (cond (decide (a0 ≤ (122 : Int))) (some true) (cond (decide ((65 : Int) ≤ a0)) (some (decide (a0 ≤ (90 : Int)))) (some false))) (cond (decide ((65 : Int) ≤ a0)) (some (decide (a0 ≤ (90 : Int)))) (some false))
def impl_letterByte (n : Nat) (a0 : Int) : Option (Tup [.bool]) := goRec impl_letterByte.step n (.p0 a0)
def impl_letterByte.spec : Ctr := ⟨147, [.v (.int .u8)], [.bool], [], none, fun n x => impl_letterByte n x.1⟩
theorem impl_letterByte.seg_eq : SegEq ty gl impl_letterByte.F impl_letterByte.md impl_letterByte.T impl_letterByte.spec impl_letterByte.lb impl_letterByte.st impl_letterByte.step := by
  intro n goto y; cases y <;> kernel_rfl
theorem impl_letterByte.text : Text Go.Proofs.Tryz.prog impl_letterByte.F impl_letterByte.spec := textOf Go.Proofs.Tryz.f147
theorem impl_letterByte.ok : CtrOK Go.Proofs.Tryz.prog gl impl_letterByte.spec :=
  ctr_okS tabs impl_letterByte.text impl_letterByte.seg_eq (fun n x => ⟨.p0 x.1, rfl, rfl, rfl⟩) (nilC)

/-! loop.example/g00039/impl.wordByte -/
def impl_wordByte.T : List Ctr := [impl_digitByte.spec, impl_letterByte.spec]
def impl_wordByte.md : List (Nat × List Md) := []
noncomputable def impl_wordByte.F : Fun := ⟨(Go.Proofs.Tryz.f139.body).getD .skip, [.v (.int .u8)], [(.tmp 2, .bool)], [], 0, []⟩
inductive impl_wordByte.Pt where
  | p0 (a0 : Int)
def impl_wordByte.lb : impl_wordByte.Pt → Nat
  | .p0 _ => 0
def impl_wordByte.st : impl_wordByte.Pt → St
  | .p0 a0 => enter [.v (.int .u8) a0] 0
def impl_wordByte.step (n : Nat) (K : impl_wordByte.Pt → Option (Tup [.bool])) : impl_wordByte.Pt → Option (Tup [.bool])
  | .p0 a0 => (impl_letterByte n a0).bind fun r4 => cond r4 (some true) ((impl_digitByte n a0).bind fun r5 => cond r5 (some true) (some (decide (a0 = (95 : Int)))))
def impl_wordByte (n : Nat) (a0 : Int) : Option (Tup [.bool]) := goRec impl_wordByte.step n (.p0 a0)
def impl_wordByte.spec : Ctr := ⟨139, [.v (.int .u8)], [.bool], [], none, fun n x => impl_wordByte n x.1⟩
theorem impl_wordByte.seg_eq : SegEq ty gl impl_wordByte.F impl_wordByte.md impl_wordByte.T impl_wordByte.spec impl_wordByte.lb impl_wordByte.st impl_wordByte.step := by
  intro n goto y; cases y <;> kernel_rfl
theorem impl_wordByte.text : Text Go.Proofs.Tryz.prog impl_wordByte.F impl_wordByte.spec := textOf Go.Proofs.Tryz.f139
theorem impl_wordByte.ok : CtrOK Go.Proofs.Tryz.prog gl impl_wordByte.spec :=
  ctr_okS tabs impl_wordByte.text impl_wordByte.seg_eq (fun n x => ⟨.p0 x.1, rfl, rfl, rfl⟩) (consC impl_digitByte.ok (consC impl_letterByte.ok (nilC)))

/-! loop.example/g00039/impl.isName -/
def impl_isName.T : List Ctr := [impl_digitByte.spec, impl_wordByte.spec]
def impl_isName.md : List (Nat × List Md) := []
noncomputable def impl_isName.F : Fun := ⟨(Go.Proofs.Tryz.f116.body).getD .skip, [.v .str], [(.tmp 2, .bool)], [], 0, [(4, ⟨[0, 15], [], [], false⟩), (15, ⟨[0, 17, 18], [], [], false⟩)]⟩
inductive impl_isName.Pt where
  | p0 (a0 : ByteArray)
  | p4 (y1 : ByteArray) (y2 : Bool)
  | p15 (y1 : ByteArray) (y2 : Int) (y3 : Int)
def impl_isName.lb : impl_isName.Pt → Nat
  | .p0 _ => 0
  | .p4 _ _ => 4
  | .p15 _ _ _ => 15
def impl_isName.st : impl_isName.Pt → St
  | .p0 a0 => enter [.v .str a0] 0
  | .p4 y1 y2 => ⟨[(0, .im .str y1), (15, .im .bool y2)], [], 0⟩
  | .p15 y1 y2 y3 => ⟨[(0, .im .str y1), (17, .im (.int .i64) y2), (18, .im (.int .i64) y3)], [], 0⟩
def impl_isName.step (n : Nat) (K : impl_isName.Pt → Option (Tup [.bool])) : impl_isName.Pt → Option (Tup [.bool])
  | .p0 a0 => cond (seq a0 (⟨#[]⟩ : ByteArray)) (K (.p4 a0 true)) (cond (decide ((40 : Int) < ((ByteArray.size a0) : Int))) (K (.p4 a0 true)) (cond (inB (0 : Int) (ByteArray.size a0)) ((impl_digitByte n (bt a0 (0 : Int))).bind fun r4 => K (.p4 a0 r4)) (none)))
  | .p4 y1 y2 => cond y2 (some false) (K (.p15 y1 ((ByteArray.size y1) : Int) (0 : Int)))
  | .p15 y1 y2 y3 => cond (decide (y3 < y2)) (cond (inB y3 (ByteArray.size y1)) ((impl_wordByte n (bt y1 y3)).bind fun r6 => cond (!r6) (some false) (K (.p15 y1 y2 (IntKind.wrap .i64 (y3 + (1 : Int)))))) (none)) (some true)
def impl_isName (n : Nat) (a0 : ByteArray) : Option (Tup [.bool]) := goRec impl_isName.step n (.p0 a0)
def impl_isName.spec : Ctr := ⟨116, [.v .str], [.bool], [], none, fun n x => impl_isName n x.1⟩
theorem impl_isName.seg_eq : SegEq ty gl impl_isName.F impl_isName.md impl_isName.T impl_isName.spec impl_isName.lb impl_isName.st impl_isName.step := by
  intro n goto y; cases y <;> kernel_rfl
theorem impl_isName.text : Text Go.Proofs.Tryz.prog impl_isName.F impl_isName.spec := textOf Go.Proofs.Tryz.f116
theorem impl_isName.ok : CtrOK Go.Proofs.Tryz.prog gl impl_isName.spec :=
  ctr_okS tabs impl_isName.text impl_isName.seg_eq (fun n x => ⟨.p0 x.1, rfl, rfl, rfl⟩) (consC impl_digitByte.ok (consC impl_wordByte.ok (nilC)))

/-! loop.example/g00039/impl.printed -/
def impl_printed.T : List Ctr := []
def impl_printed.md : List (Nat × List Md) := []
noncomputable def impl_printed.F : Fun := ⟨(Go.Proofs.Tryz.f122.body).getD .skip, [.v .str, .v (.int .i64)], [(.tmp 4, .bool)], [], 0, [(15, ⟨[0, 11, 12], [], [], false⟩)]⟩
inductive impl_printed.Pt where
  | p0 (a0 : ByteArray) (a1 : Int)
  | p15 (y1 : ByteArray) (y2 : Int) (y3 : Int)
def impl_printed.lb : impl_printed.Pt → Nat
  | .p0 _ _ => 0
  | .p15 _ _ _ => 15
def impl_printed.st : impl_printed.Pt → St
  | .p0 a0 a1 => enter [.v .str a0, .v (.int .i64) a1] 0
  | .p15 y1 y2 y3 => ⟨[(0, .im .str y1), (11, .im (.int .i64) y2), (12, .im (.int .i64) y3)], [], 0⟩
def impl_printed.step (n : Nat) (K : impl_printed.Pt → Option (Tup [.bool])) : impl_printed.Pt → Option (Tup [.bool])
  | .p0 a0 a1 => cond (decide (a1 < ((ByteArray.size a0) : Int))) (some false) (K (.p15 a0 ((ByteArray.size a0) : Int) (0 : Int)))
  | .p15 y1 y2 y3 => cond (decide (y3 < y2)) (cond (inB y3 (ByteArray.size y1)) (cond (decide ((bt y1 y3) < (32 : Int))) (some false) (cond (inB y3 (ByteArray.size y1)) (cond (decide ((126 : Int) < (bt y1 y3))) (some false) (K (.p15 y1 y2 (IntKind.wrap .i64 (y3 + (1 : Int)))))) (none))) (none)) (some true)
def impl_printed (n : Nat) (a0 : ByteArray) (a1 : Int) : Option (Tup [.bool]) := goRec impl_printed.step n (.p0 a0 a1)
def impl_printed.spec : Ctr := ⟨122, [.v .str, .v (.int .i64)], [.bool], [], none, fun n x => impl_printed n x.1 x.2.1⟩
theorem impl_printed.seg_eq : SegEq ty gl impl_printed.F impl_printed.md impl_printed.T impl_printed.spec impl_printed.lb impl_printed.st impl_printed.step := by
  intro n goto y; cases y <;> kernel_rfl
theorem impl_printed.text : Text Go.Proofs.Tryz.prog impl_printed.F impl_printed.spec := textOf Go.Proofs.Tryz.f122
theorem impl_printed.ok : CtrOK Go.Proofs.Tryz.prog gl impl_printed.spec :=
  ctr_okS tabs impl_printed.text impl_printed.seg_eq (fun n x => ⟨.p0 x.1 x.2.1, rfl, rfl, rfl⟩) (nilC)

/-! loop.example/g00039/impl.isValue -/
def impl_isValue.T : List Ctr := [impl_printed.spec]
def impl_isValue.md : List (Nat × List Md) := []
noncomputable def impl_isValue.F : Fun := ⟨(Go.Proofs.Tryz.f117.body).getD .skip, [.v .str], [(.tmp 2, .bool)], [], 0, []⟩
inductive impl_isValue.Pt where
  | p0 (a0 : ByteArray)
def impl_isValue.lb : impl_isValue.Pt → Nat
  | .p0 _ => 0
def impl_isValue.st : impl_isValue.Pt → St
  | .p0 a0 => enter [.v .str a0] 0
def impl_isValue.step (n : Nat) (K : impl_isValue.Pt → Option (Tup [.bool])) : impl_isValue.Pt → Option (Tup [.bool])
  | .p0 a0 => cond (!(seq a0 (⟨#[]⟩ : ByteArray))) ((impl_printed n a0 (100 : Int)).bind fun r4 => some r4) (some false)
def impl_isValue (n : Nat) (a0 : ByteArray) : Option (Tup [.bool]) := goRec impl_isValue.step n (.p0 a0)
def impl_isValue.spec : Ctr := ⟨117, [.v .str], [.bool], [], none, fun n x => impl_isValue n x.1⟩
theorem impl_isValue.seg_eq : SegEq ty gl impl_isValue.F impl_isValue.md impl_isValue.T impl_isValue.spec impl_isValue.lb impl_isValue.st impl_isValue.step := by
  intro n goto y; cases y <;> kernel_rfl
theorem impl_isValue.text : Text Go.Proofs.Tryz.prog impl_isValue.F impl_isValue.spec := textOf Go.Proofs.Tryz.f117
theorem impl_isValue.ok : CtrOK Go.Proofs.Tryz.prog gl impl_isValue.spec :=
  ctr_okS tabs impl_isValue.text impl_isValue.seg_eq (fun n x => ⟨.p0 x.1, rfl, rfl, rfl⟩) (consC impl_printed.ok (nilC))

/-! loop.example/g00039/impl.GoodLabels -/
def impl_GoodLabels.T : List Ctr := [impl_isName.spec, impl_isValue.spec]
def impl_GoodLabels.md : List (Nat × List Md) := []
noncomputable def impl_GoodLabels.F : Fun := ⟨(Go.Proofs.Tryz.f78.body).getD .skip, [.v (.sl false (.pair .str (.pair .str .unit)))], [(.tmp 2, .bool)], [], 0, [(15, ⟨[0, 8, 9, 10], [(8, (.pair .str (.pair .str .unit)))], [], false⟩), (26, ⟨[0, 8, 9, 10, 39], [(8, (.pair .str (.pair .str .unit)))], [], false⟩)]⟩
inductive impl_GoodLabels.Pt where
  | p0 (a0 : List ((ByteArray) × ((ByteArray) × (Unit))))
  | p15 (y1 : List ((ByteArray) × ((ByteArray) × (Unit)))) (y2 : List ((ByteArray) × ((ByteArray) × (Unit)))) (y3 : Int) (y4 : Int)
  | p26 (y1 : List ((ByteArray) × ((ByteArray) × (Unit)))) (y2 : List ((ByteArray) × ((ByteArray) × (Unit)))) (y3 : Int) (y4 : Int) (y5 : Bool)
def impl_GoodLabels.lb : impl_GoodLabels.Pt → Nat
  | .p0 _ => 0
  | .p15 _ _ _ _ => 15
  | .p26 _ _ _ _ _ => 26
def impl_GoodLabels.st : impl_GoodLabels.Pt → St
  | .p0 a0 => enter [.v (.sl false (.pair .str (.pair .str .unit))) a0] 0
  | .p15 y1 y2 y3 y4 => ⟨[(0, .im (.sl false (.pair .str (.pair .str .unit))) y1), (8, .im (.sl false (.pair .str (.pair .str .unit))) y2), (9, .im (.int .i64) y3), (10, .im (.int .i64) y4)], [], 0⟩
  | .p26 y1 y2 y3 y4 y5 => ⟨[(0, .im (.sl false (.pair .str (.pair .str .unit))) y1), (8, .im (.sl false (.pair .str (.pair .str .unit))) y2), (9, .im (.int .i64) y3), (10, .im (.int .i64) y4), (39, .im .bool y5)], [], 0⟩
def impl_GoodLabels.step (n : Nat) (K : impl_GoodLabels.Pt → Option (Tup [.bool])) : impl_GoodLabels.Pt → Option (Tup [.bool])
  | .p0 a0 => cond (decide ((20 : Int) < ((List.length a0) : Int))) (some false) (K (.p15 a0 a0 ((List.length a0) : Int) (0 : Int)))
  | .p15 y1 y2 y3 y4 => cond (decide (y4 < y3)) (cond (inB y4 (List.length y2)) ((impl_isName n (List.getD y2 (Int.toNat y4) default).1).bind fun r7 => cond (!r7) (K (.p26 y1 y2 y3 y4 true)) ((impl_isValue n (List.getD y2 (Int.toNat y4) default).2.1).bind fun r8 => cond (!r8) (K (.p26 y1 y2 y3 y4 true)) (cond (decide ((0 : Int) < y4)) (cond (inB (IntKind.wrap .i64 (y4 - (1 : Int))) (List.length y1)) (K (.p26 y1 y2 y3 y4 (!(slt (List.getD y1 (Int.toNat (IntKind.wrap .i64 (y4 - (1 : Int)))) default).1 (List.getD y2 (Int.toNat y4) default).1)))) (none)) (K (.p26 y1 y2 y3 y4 false))))) (none)) (some true)
  | .p26 y1 y2 y3 y4 y5 => cond y5 (some false) (K (.p15 y1 y2 y3 (IntKind.wrap .i64 (y4 + (1 : Int)))))
def impl_GoodLabels (n : Nat) (a0 : List ((ByteArray) × ((ByteArray) × (Unit)))) : Option (Tup [.bool]) := goRec impl_GoodLabels.step n (.p0 a0)
def impl_GoodLabels.spec : Ctr := ⟨78, [.v (.sl false (.pair .str (.pair .str .unit)))], [.bool], [], none, fun n x => impl_GoodLabels n x.1⟩
theorem impl_GoodLabels.seg_eq : SegEq ty gl impl_GoodLabels.F impl_GoodLabels.md impl_GoodLabels.T impl_GoodLabels.spec impl_GoodLabels.lb impl_GoodLabels.st impl_GoodLabels.step := by
  intro n goto y; cases y <;> kernel_rfl
theorem impl_GoodLabels.text : Text Go.Proofs.Tryz.prog impl_GoodLabels.F impl_GoodLabels.spec := textOf Go.Proofs.Tryz.f78
theorem impl_GoodLabels.ok : CtrOK Go.Proofs.Tryz.prog gl impl_GoodLabels.spec :=
  ctr_okS tabs impl_GoodLabels.text impl_GoodLabels.seg_eq (fun n x => ⟨.p0 x.1, rfl, rfl, rfl⟩) (consC impl_isName.ok (consC impl_isValue.ok (nilC)))

/-! loop.example/g00039/impl.valueOf -/
def impl_valueOf.T : List Ctr := []
def impl_valueOf.md : List (Nat × List Md) := []
noncomputable def impl_valueOf.F : Fun := ⟨(Go.Proofs.Tryz.f79.body).getD .skip, [.v (.sl false (.pair .str (.pair .str .unit))), .v .str], [(.tmp 4, .str)], [], 0, [(7, ⟨[1, 7, 8, 9], [(7, (.pair .str (.pair .str .unit)))], [], false⟩)]⟩
inductive impl_valueOf.Pt where
  | p0 (a0 : List ((ByteArray) × ((ByteArray) × (Unit)))) (a1 : ByteArray)
  | p7 (y1 : ByteArray) (y2 : List ((ByteArray) × ((ByteArray) × (Unit)))) (y3 : Int) (y4 : Int)
def impl_valueOf.lb : impl_valueOf.Pt → Nat
  | .p0 _ _ => 0
  | .p7 _ _ _ _ => 7
def impl_valueOf.st : impl_valueOf.Pt → St
  | .p0 a0 a1 => enter [.v (.sl false (.pair .str (.pair .str .unit))) a0, .v .str a1] 0
  | .p7 y1 y2 y3 y4 => ⟨[(1, .im .str y1), (7, .im (.sl false (.pair .str (.pair .str .unit))) y2), (8, .im (.int .i64) y3), (9, .im (.int .i64) y4)], [], 0⟩
def impl_valueOf.step (n : Nat) (K : impl_valueOf.Pt → Option (Tup [.str])) : impl_valueOf.Pt → Option (Tup [.str])
  | .p0 a0 a1 => K (.p7 a1 a0 ((List.length a0) : Int) (0 : Int))
  | .p7 y1 y2 y3 y4 => cond (decide (y4 < y3)) (cond (inB y4 (List.length y2)) (cond (seq (List.getD y2 (Int.toNat y4) default).1 y1) (some (List.getD y2 (Int.toNat y4) default).2.1) (K (.p7 y1 y2 y3 (IntKind.wrap .i64 (y4 + (1 : Int)))))) (none)) (some (⟨#[]⟩ : ByteArray))
def impl_valueOf (n : Nat) (a0 : List ((ByteArray) × ((ByteArray) × (Unit)))) (a1 : ByteArray) : Option (Tup [.str]) := goRec impl_valueOf.step n (.p0 a0 a1)
def impl_valueOf.spec : Ctr := ⟨79, [.v (.sl false (.pair .str (.pair .str .unit))), .v .str], [.str], [], none, fun n x => impl_valueOf n x.1 x.2.1⟩
theorem impl_valueOf.seg_eq : SegEq ty gl impl_valueOf.F impl_valueOf.md impl_valueOf.T impl_valueOf.spec impl_valueOf.lb impl_valueOf.st impl_valueOf.step := by
  intro n goto y; cases y <;> kernel_rfl
theorem impl_valueOf.text : Text Go.Proofs.Tryz.prog impl_valueOf.F impl_valueOf.spec := textOf Go.Proofs.Tryz.f79
theorem impl_valueOf.ok : CtrOK Go.Proofs.Tryz.prog gl impl_valueOf.spec :=
  ctr_okS tabs impl_valueOf.text impl_valueOf.seg_eq (fun n x => ⟨.p0 x.1 x.2.1, rfl, rfl, rfl⟩) (nilC)

/-! loop.example/g00039/impl.isTime -/
def impl_isTime.T : List Ctr := []
def impl_isTime.md : List (Nat × List Md) := []
noncomputable def impl_isTime.F : Fun := ⟨(Go.Proofs.Tryz.f97.body).getD .skip, [.v (.int .i64)], [(.tmp 2, .bool)], [], 0, []⟩
inductive impl_isTime.Pt where
  | p0 (a0 : Int)
def impl_isTime.lb : impl_isTime.Pt → Nat
  | .p0 _ => 0
def impl_isTime.st : impl_isTime.Pt → St
  | .p0 a0 => enter [.v (.int .i64) a0] 0
def impl_isTime.step (n : Nat) (K : impl_isTime.Pt → Option (Tup [.bool])) : impl_isTime.Pt → Option (Tup [.bool])
  | .p0 a0 => cond (decide ((0 : Int) ≤ a0)) (some (decide (a0 ≤ (1000000000000 : Int)))) (some false)
def impl_isTime (n : Nat) (a0 : Int) : Option (Tup [.bool]) := goRec impl_isTime.step n (.p0 a0)
def impl_isTime.spec : Ctr := ⟨97, [.v (.int .i64)], [.bool], [], none, fun n x => impl_isTime n x.1⟩
theorem impl_isTime.seg_eq : SegEq ty gl impl_isTime.F impl_isTime.md impl_isTime.T impl_isTime.spec impl_isTime.lb impl_isTime.st impl_isTime.step := by
  intro n goto y; cases y <;> kernel_rfl
theorem impl_isTime.text : Text Go.Proofs.Tryz.prog impl_isTime.F impl_isTime.spec := textOf Go.Proofs.Tryz.f97
theorem impl_isTime.ok : CtrOK Go.Proofs.Tryz.prog gl impl_isTime.spec :=
  ctr_okS tabs impl_isTime.text impl_isTime.seg_eq (fun n x => ⟨.p0 x.1, rfl, rfl, rfl⟩) (nilC)

/-! loop.example/g00039/impl.GoodSamples -/
def impl_GoodSamples.T : List Ctr := [impl_isTime.spec]
def impl_GoodSamples.md : List (Nat × List Md) := []
noncomputable def impl_GoodSamples.F : Fun := ⟨(Go.Proofs.Tryz.f80.body).getD .skip, [.v (.sl false (.pair (.int .i64) (.pair (.int .i64) .unit)))], [(.tmp 2, .bool)], [], 0, [(15, ⟨[0, 8, 9, 10], [(8, (.pair (.int .i64) (.pair (.int .i64) .unit)))], [], false⟩), (26, ⟨[0, 8, 9, 10, 33], [(8, (.pair (.int .i64) (.pair (.int .i64) .unit)))], [], false⟩)]⟩
inductive impl_GoodSamples.Pt where
  | p0 (a0 : List ((Int) × ((Int) × (Unit))))
  | p15 (y1 : List ((Int) × ((Int) × (Unit)))) (y2 : List ((Int) × ((Int) × (Unit)))) (y3 : Int) (y4 : Int)
  | p26 (y1 : List ((Int) × ((Int) × (Unit)))) (y2 : List ((Int) × ((Int) × (Unit)))) (y3 : Int) (y4 : Int) (y5 : Bool)
def impl_GoodSamples.lb : impl_GoodSamples.Pt → Nat
  | .p0 _ => 0
  | .p15 _ _ _ _ => 15
  | .p26 _ _ _ _ _ => 26
def impl_GoodSamples.st : impl_GoodSamples.Pt → St
  | .p0 a0 => enter [.v (.sl false (.pair (.int .i64) (.pair (.int .i64) .unit))) a0] 0
  | .p15 y1 y2 y3 y4 => ⟨[(0, .im (.sl false (.pair (.int .i64) (.pair (.int .i64) .unit))) y1), (8, .im (.sl false (.pair (.int .i64) (.pair (.int .i64) .unit))) y2), (9, .im (.int .i64) y3), (10, .im (.int .i64) y4)], [], 0⟩
  | .p26 y1 y2 y3 y4 y5 => ⟨[(0, .im (.sl false (.pair (.int .i64) (.pair (.int .i64) .unit))) y1), (8, .im (.sl false (.pair (.int .i64) (.pair (.int .i64) .unit))) y2), (9, .im (.int .i64) y3), (10, .im (.int .i64) y4), (33, .im .bool y5)], [], 0⟩
def impl_GoodSamples.step (n : Nat) (K : impl_GoodSamples.Pt → Option (Tup [.bool])) : impl_GoodSamples.Pt → Option (Tup [.bool])
  | .p0 a0 => cond (decide ((2000 : Int) < ((List.length a0) : Int))) (some false) (K (.p15 a0 a0 ((List.length a0) : Int) (0 : Int)))
  | .p15 y1 y2 y3 y4 => cond (decide (y4 < y3)) (cond (inB y4 (List.length y2)) ((impl_isTime n (List.getD y2 (Int.toNat y4) default).1).bind fun r7 => cond (!r7) (K (.p26 y1 y2 y3 y4 true)) (cond (decide ((0 : Int) < y4)) (cond (inB (IntKind.wrap .i64 (y4 - (1 : Int))) (List.length y1)) (K (.p26 y1 y2 y3 y4 (decide ((List.getD y2 (Int.toNat y4) default).1 ≤ (List.getD y1 (Int.toNat (IntKind.wrap .i64 (y4 - (1 : Int)))) default).1)))) (none)) (K (.p26 y1 y2 y3 y4 false)))) (none)) (some true)
  | .p26 y1 y2 y3 y4 y5 => cond y5 (some false) (K (.p15 y1 y2 y3 (IntKind.wrap .i64 (y4 + (1 : Int)))))
def impl_GoodSamples (n : Nat) (a0 : List ((Int) × ((Int) × (Unit)))) : Option (Tup [.bool]) := goRec impl_GoodSamples.step n (.p0 a0)
def impl_GoodSamples.spec : Ctr := ⟨80, [.v (.sl false (.pair (.int .i64) (.pair (.int .i64) .unit)))], [.bool], [], none, fun n x => impl_GoodSamples n x.1⟩
theorem impl_GoodSamples.seg_eq : SegEq ty gl impl_GoodSamples.F impl_GoodSamples.md impl_GoodSamples.T impl_GoodSamples.spec impl_GoodSamples.lb impl_GoodSamples.st impl_GoodSamples.step := by
  intro n goto y; cases y <;> kernel_rfl
theorem impl_GoodSamples.text : Text Go.Proofs.Tryz.prog impl_GoodSamples.F impl_GoodSamples.spec := textOf Go.Proofs.Tryz.f80
theorem impl_GoodSamples.ok : CtrOK Go.Proofs.Tryz.prog gl impl_GoodSamples.spec :=
  ctr_okS tabs impl_GoodSamples.text impl_GoodSamples.seg_eq (fun n x => ⟨.p0 x.1, rfl, rfl, rfl⟩) (consC impl_isTime.ok (nilC))

/-! cmp.isNaN[string] -/
def cmp_isNaN_string.T : List Ctr := []
def cmp_isNaN_string.md : List (Nat × List Md) := []
noncomputable def cmp_isNaN_string.F : Fun := ⟨(Go.Proofs.Tryz.f140.body).getD .skip, [.v .str], [(.tmp 2, .bool)], [], 0, []⟩
inductive cmp_isNaN_string.Pt where
  | p0 (a0 : ByteArray)
def cmp_isNaN_string.lb : cmp_isNaN_string.Pt → Nat
  | .p0 _ => 0
def cmp_isNaN_string.st : cmp_isNaN_string.Pt → St
  | .p0 a0 => enter [.v .str a0] 0
def cmp_isNaN_string.step (n : Nat) (K : cmp_isNaN_string.Pt → Option (Tup [.bool])) : cmp_isNaN_string.Pt → Option (Tup [.bool])
  | .p0 a0 => some (!(seq a0 a0))
def cmp_isNaN_string (n : Nat) (a0 : ByteArray) : Option (Tup [.bool]) := goRec cmp_isNaN_string.step n (.p0 a0)
def cmp_isNaN_string.spec : Ctr := ⟨140, [.v .str], [.bool], [], none, fun n x => cmp_isNaN_string n x.1⟩
theorem cmp_isNaN_string.seg_eq : SegEq ty gl cmp_isNaN_string.F cmp_isNaN_string.md cmp_isNaN_string.T cmp_isNaN_string.spec cmp_isNaN_string.lb cmp_isNaN_string.st cmp_isNaN_string.step := by
  intro n goto y; cases y <;> kernel_rfl
theorem cmp_isNaN_string.text : Text Go.Proofs.Tryz.prog cmp_isNaN_string.F cmp_isNaN_string.spec := textOf Go.Proofs.Tryz.f140
theorem cmp_isNaN_string.ok : CtrOK Go.Proofs.Tryz.prog gl cmp_isNaN_string.spec :=
  ctr_okS tabs cmp_isNaN_string.text cmp_isNaN_string.seg_eq (fun n x => ⟨.p0 x.1, rfl, rfl, rfl⟩) (nilC)

/-! cmp.Compare[string] -/
def cmp_Compare_string.T : List Ctr := [cmp_isNaN_string.spec]
def cmp_Compare_string.md : List (Nat × List Md) := []
noncomputable def cmp_Compare_string.F : Fun := ⟨(Go.Proofs.Tryz.f119.body).getD .skip, [.v .str, .v .str], [(.tmp 4, (.int .i64))], [], 0, []⟩
inductive cmp_Compare_string.Pt where
  | p0 (a0 : ByteArray) (a1 : ByteArray)
def cmp_Compare_string.lb : cmp_Compare_string.Pt → Nat
  | .p0 _ _ => 0
def cmp_Compare_string.st : cmp_Compare_string.Pt → St
  | .p0 a0 a1 => enter [.v .str a0, .v .str a1] 0
def cmp_Compare_string.step (n : Nat) (K : cmp_Compare_string.Pt → Option (Tup [(.int .i64)])) : cmp_Compare_string.Pt → Option (Tup [(.int .i64)])
  | .p0 a0 a1 => (cmp_isNaN_string n a0).bind fun r5 => (cmp_isNaN_string n a1).bind fun r6 => cond r5 (cond r6 (some (0 : Int)) (some (-(1 : Int)))) (cond r6 (some (1 : Int)) (cond (slt a0 a1) (some (-(1 : Int))) (cond (slt a1 a0) (some (1 : Int)) (some (0 : Int)))))
def cmp_Compare_string (n : Nat) (a0 : ByteArray) (a1 : ByteArray) : Option (Tup [(.int .i64)]) := goRec cmp_Compare_string.step n (.p0 a0 a1)
def cmp_Compare_string.spec : Ctr := ⟨119, [.v .str, .v .str], [(.int .i64)], [], none, fun n x => cmp_Compare_string n x.1 x.2.1⟩
theorem cmp_Compare_string.seg_eq : SegEq ty gl cmp_Compare_string.F cmp_Compare_string.md cmp_Compare_string.T cmp_Compare_string.spec cmp_Compare_string.lb cmp_Compare_string.st cmp_Compare_string.step := by
  intro n goto y; cases y <;> kernel_rfl
theorem cmp_Compare_string.text : Text Go.Proofs.Tryz.prog cmp_Compare_string.F cmp_Compare_string.spec := textOf Go.Proofs.Tryz.f119
theorem cmp_Compare_string.ok : CtrOK Go.Proofs.Tryz.prog gl cmp_Compare_string.spec :=
  ctr_okS tabs cmp_Compare_string.text cmp_Compare_string.seg_eq (fun n x => ⟨.p0 x.1 x.2.1, rfl, rfl, rfl⟩) (consC cmp_isNaN_string.ok (nilC))

/-! cmp.Or[int] -/
def cmp_Or_int.T : List Ctr := []
def cmp_Or_int.md : List (Nat × List Md) := []
noncomputable def cmp_Or_int.F : Fun := ⟨(Go.Proofs.Tryz.f118.body).getD .skip, [.v (.sl false (.int .i64))], [(.tmp 2, (.int .i64))], [], 0, [(9, ⟨[3, 6, 7, 8], [(6, (.int .i64))], [], false⟩)]⟩
inductive cmp_Or_int.Pt where
  | p0 (a0 : List (Int))
  | p9 (y1 : Int) (y2 : List (Int)) (y3 : Int) (y4 : Int)
def cmp_Or_int.lb : cmp_Or_int.Pt → Nat
  | .p0 _ => 0
  | .p9 _ _ _ _ => 9
def cmp_Or_int.st : cmp_Or_int.Pt → St
  | .p0 a0 => enter [.v (.sl false (.int .i64)) a0] 0
  | .p9 y1 y2 y3 y4 => ⟨[(3, .im (.int .i64) y1), (6, .im (.sl false (.int .i64)) y2), (7, .im (.int .i64) y3), (8, .im (.int .i64) y4)], [], 0⟩
def cmp_Or_int.step (n : Nat) (K : cmp_Or_int.Pt → Option (Tup [(.int .i64)])) : cmp_Or_int.Pt → Option (Tup [(.int .i64)])
  | .p0 a0 => K (.p9 (0 : Int) a0 ((List.length a0) : Int) (0 : Int))
  | .p9 y1 y2 y3 y4 => cond (decide (y4 < y3)) (cond (inB y4 (List.length y2)) (cond (!(decide ((List.getD y2 (Int.toNat y4) default) = y1))) (some (List.getD y2 (Int.toNat y4) default)) (K (.p9 y1 y2 y3 (IntKind.wrap .i64 (y4 + (1 : Int)))))) (none)) (some y1)
def cmp_Or_int (n : Nat) (a0 : List (Int)) : Option (Tup [(.int .i64)]) := goRec cmp_Or_int.step n (.p0 a0)
def cmp_Or_int.spec : Ctr := ⟨118, [.v (.sl false (.int .i64))], [(.int .i64)], [], none, fun n x => cmp_Or_int n x.1⟩
theorem cmp_Or_int.seg_eq : SegEq ty gl cmp_Or_int.F cmp_Or_int.md cmp_Or_int.T cmp_Or_int.spec cmp_Or_int.lb cmp_Or_int.st cmp_Or_int.step := by
  intro n goto y; cases y <;> kernel_rfl
theorem cmp_Or_int.text : Text Go.Proofs.Tryz.prog cmp_Or_int.F cmp_Or_int.spec := textOf Go.Proofs.Tryz.f118
theorem cmp_Or_int.ok : CtrOK Go.Proofs.Tryz.prog gl cmp_Or_int.spec :=
  ctr_okS tabs cmp_Or_int.text cmp_Or_int.seg_eq (fun n x => ⟨.p0 x.1, rfl, rfl, rfl⟩) (nilC)

/-! cmp.isNaN[int] -/
def cmp_isNaN_int.T : List Ctr := []
def cmp_isNaN_int.md : List (Nat × List Md) := []
noncomputable def cmp_isNaN_int.F : Fun := ⟨(Go.Proofs.Tryz.f141.body).getD .skip, [.v (.int .i64)], [(.tmp 2, .bool)], [], 0, []⟩
inductive cmp_isNaN_int.Pt where
  | p0 (a0 : Int)
def cmp_isNaN_int.lb : cmp_isNaN_int.Pt → Nat
  | .p0 _ => 0
def cmp_isNaN_int.st : cmp_isNaN_int.Pt → St
  | .p0 a0 => enter [.v (.int .i64) a0] 0
def cmp_isNaN_int.step (n : Nat) (K : cmp_isNaN_int.Pt → Option (Tup [.bool])) : cmp_isNaN_int.Pt → Option (Tup [.bool])
  | .p0 a0 => some (!(decide (a0 = a0)))
def cmp_isNaN_int (n : Nat) (a0 : Int) : Option (Tup [.bool]) := goRec cmp_isNaN_int.step n (.p0 a0)
def cmp_isNaN_int.spec : Ctr := ⟨141, [.v (.int .i64)], [.bool], [], none, fun n x => cmp_isNaN_int n x.1⟩
theorem cmp_isNaN_int.seg_eq : SegEq ty gl cmp_isNaN_int.F cmp_isNaN_int.md cmp_isNaN_int.T cmp_isNaN_int.spec cmp_isNaN_int.lb cmp_isNaN_int.st cmp_isNaN_int.step := by
  intro n goto y; cases y <;> kernel_rfl
theorem cmp_isNaN_int.text : Text Go.Proofs.Tryz.prog cmp_isNaN_int.F cmp_isNaN_int.spec := textOf Go.Proofs.Tryz.f141
theorem cmp_isNaN_int.ok : CtrOK Go.Proofs.Tryz.prog gl cmp_isNaN_int.spec :=
  ctr_okS tabs cmp_isNaN_int.text cmp_isNaN_int.seg_eq (fun n x => ⟨.p0 x.1, rfl, rfl, rfl⟩) (nilC)

/-! cmp.Compare[int] -/
def cmp_Compare_int.T : List Ctr := [cmp_isNaN_int.spec]
def cmp_Compare_int.md : List (Nat × List Md) := []
noncomputable def cmp_Compare_int.F : Fun := ⟨(Go.Proofs.Tryz.f120.body).getD .skip, [.v (.int .i64), .v (.int .i64)], [(.tmp 4, (.int .i64))], [], 0, []⟩
inductive cmp_Compare_int.Pt where
  | p0 (a0 : Int) (a1 : Int)
def cmp_Compare_int.lb : cmp_Compare_int.Pt → Nat
  | .p0 _ _ => 0
def cmp_Compare_int.st : cmp_Compare_int.Pt → St
  | .p0 a0 a1 => enter [.v (.int .i64) a0, .v (.int .i64) a1] 0
def cmp_Compare_int.step (n : Nat) (K : cmp_Compare_int.Pt → Option (Tup [(.int .i64)])) : cmp_Compare_int.Pt → Option (Tup [(.int .i64)])
  | .p0 a0 a1 => (cmp_isNaN_int n a0).bind fun r5 => (cmp_isNaN_int n a1).bind fun r6 => cond r5 (cond r6 (some (0 : Int)) (some (-(1 : Int)))) (cond r6 (some (1 : Int)) (cond (decide (a0 < a1)) (some (-(1 : Int))) (cond (decide (a1 < a0)) (some (1 : Int)) (some (0 : Int)))))
def cmp_Compare_int (n : Nat) (a0 : Int) (a1 : Int) : Option (Tup [(.int .i64)]) := goRec cmp_Compare_int.step n (.p0 a0 a1)
def cmp_Compare_int.spec : Ctr := ⟨120, [.v (.int .i64), .v (.int .i64)], [(.int .i64)], [], none, fun n x => cmp_Compare_int n x.1 x.2.1⟩
theorem cmp_Compare_int.seg_eq : SegEq ty gl cmp_Compare_int.F cmp_Compare_int.md cmp_Compare_int.T cmp_Compare_int.spec cmp_Compare_int.lb cmp_Compare_int.st cmp_Compare_int.step := by
  intro n goto y; cases y <;> kernel_rfl
theorem cmp_Compare_int.text : Text Go.Proofs.Tryz.prog cmp_Compare_int.F cmp_Compare_int.spec := textOf Go.Proofs.Tryz.f120
theorem cmp_Compare_int.ok : CtrOK Go.Proofs.Tryz.prog gl cmp_Compare_int.spec :=
  ctr_okS tabs cmp_Compare_int.text cmp_Compare_int.seg_eq (fun n x => ⟨.p0 x.1 x.2.1, rfl, rfl, rfl⟩) (consC cmp_isNaN_int.ok (nilC))

/-! loop.example/g00039/impl.compare -/
def impl_compare.T : List Ctr := [cmp_Compare_string.spec, cmp_Or_int.spec, cmp_Compare_int.spec]
def impl_compare.md : List (Nat × List Md) := []
noncomputable def impl_compare.F : Fun := ⟨(Go.Proofs.Tryz.f81.body).getD .skip, [.v (.sl false (.pair .str (.pair .str .unit))), .v (.sl false (.pair .str (.pair .str .unit)))], [(.tmp 4, (.int .i64))], [], 0, [(7, ⟨[0, 1, 11, 12], [], [], false⟩)]⟩
inductive impl_compare.Pt where
  | p0 (a0 : List ((ByteArray) × ((ByteArray) × (Unit)))) (a1 : List ((ByteArray) × ((ByteArray) × (Unit))))
  | p7 (y1 : List ((ByteArray) × ((ByteArray) × (Unit)))) (y2 : List ((ByteArray) × ((ByteArray) × (Unit)))) (y3 : Int) (y4 : Int)
def impl_compare.lb : impl_compare.Pt → Nat
  | .p0 _ _ => 0
  | .p7 _ _ _ _ => 7
def impl_compare.st : impl_compare.Pt → St
  | .p0 a0 a1 => enter [.v (.sl false (.pair .str (.pair .str .unit))) a0, .v (.sl false (.pair .str (.pair .str .unit))) a1] 0
  | .p7 y1 y2 y3 y4 => ⟨[(0, .im (.sl false (.pair .str (.pair .str .unit))) y1), (1, .im (.sl false (.pair .str (.pair .str .unit))) y2), (11, .im (.int .i64) y3), (12, .im (.int .i64) y4)], [], 0⟩
def impl_compare.step (n : Nat) (K : impl_compare.Pt → Option (Tup [(.int .i64)])) : impl_compare.Pt → Option (Tup [(.int .i64)])
  | .p0 a0 a1 => K (.p7 a0 a1 (min ((List.length a0) : Int) ((List.length a1) : Int)) (0 : Int))
  | .p7 y1 y2 y3 y4 => cond (decide (y4 < y3)) (cond (inB y4 (List.length y1)) (cond (inB y4 (List.length y2)) ((cmp_Compare_string n (List.getD y1 (Int.toNat y4) default).1 (List.getD y2 (Int.toNat y4) default).1).bind fun (r7 : Int) => cond (inB y4 (List.length y1)) (cond (inB y4 (List.length y2)) ((cmp_Compare_string n (List.getD y1 (Int.toNat y4) default).2.1 (List.getD y2 (Int.toNat y4) default).2.1).bind fun (r8 : Int) => (cmp_Or_int n [r7, r8]).bind fun (r9 : Int) => cond (!(decide (r9 = (0 : Int)))) (some r9) (K (.p7 y1 y2 y3 (IntKind.wrap .i64 (y4 + (1 : Int)))))) (none)) (none)) (none)) (none)) ((cmp_Compare_int n ((List.length y1) : Int) ((List.length y2) : Int)).bind fun (r7 : Int) => some r7)
def impl_compare (n : Nat) (a0 : List ((ByteArray) × ((ByteArray) × (Unit)))) (a1 : List ((ByteArray) × ((ByteArray) × (Unit)))) : Option (Tup [(.int .i64)]) := goRec impl_compare.step n (.p0 a0 a1)
def impl_compare.spec : Ctr := ⟨81, [.v (.sl false (.pair .str (.pair .str .unit))), .v (.sl false (.pair .str (.pair .str .unit)))], [(.int .i64)], [], none, fun n x => impl_compare n x.1 x.2.1⟩
theorem impl_compare.seg_eq : SegEq ty gl impl_compare.F impl_compare.md impl_compare.T impl_compare.spec impl_compare.lb impl_compare.st impl_compare.step := by
  intro n goto y; cases y <;> kernel_rfl
theorem impl_compare.text : Text Go.Proofs.Tryz.prog impl_compare.F impl_compare.spec := textOf Go.Proofs.Tryz.f81
theorem impl_compare.ok : CtrOK Go.Proofs.Tryz.prog gl impl_compare.spec :=
  ctr_okS tabs impl_compare.text impl_compare.seg_eq (fun n x => ⟨.p0 x.1 x.2.1, rfl, rfl, rfl⟩) (consC cmp_Compare_string.ok (consC cmp_Or_int.ok (consC cmp_Compare_int.ok (nilC))))

/-! loop.example/g00039/impl.GoodSeries -/
def impl_GoodSeries.T : List Ctr := [impl_GoodLabels.spec, impl_valueOf.spec, impl_GoodSamples.spec, impl_compare.spec]
def impl_GoodSeries.md : List (Nat × List Md) := []
noncomputable def impl_GoodSeries.F : Fun := ⟨(Go.Proofs.Tryz.f37.body).getD .skip, [.v (.sl false (.pair (.sl false (.pair .str (.pair .str .unit))) (.pair (.sl false (.pair (.int .i64) (.pair (.int .i64) .unit))) .unit)))], [(.tmp 2, .bool)], [], 0, [(15, ⟨[0, 8, 9, 10], [(8, (.pair (.sl false (.pair .str (.pair .str .unit))) (.pair (.sl false (.pair (.int .i64) (.pair (.int .i64) .unit))) .unit)))], [], false⟩), (26, ⟨[0, 8, 9, 10, 52], [(8, (.pair (.sl false (.pair .str (.pair .str .unit))) (.pair (.sl false (.pair (.int .i64) (.pair (.int .i64) .unit))) .unit)))], [], false⟩)]⟩
inductive impl_GoodSeries.Pt where
  | p0 (a0 : List ((List ((ByteArray) × ((ByteArray) × (Unit)))) × ((List ((Int) × ((Int) × (Unit)))) × (Unit))))
  | p15 (y1 : List ((List ((ByteArray) × ((ByteArray) × (Unit)))) × ((List ((Int) × ((Int) × (Unit)))) × (Unit)))) (y2 : List ((List ((ByteArray) × ((ByteArray) × (Unit)))) × ((List ((Int) × ((Int) × (Unit)))) × (Unit)))) (y3 : Int) (y4 : Int)
  | p26 (y1 : List ((List ((ByteArray) × ((ByteArray) × (Unit)))) × ((List ((Int) × ((Int) × (Unit)))) × (Unit)))) (y2 : List ((List ((ByteArray) × ((ByteArray) × (Unit)))) × ((List ((Int) × ((Int) × (Unit)))) × (Unit)))) (y3 : Int) (y4 : Int) (y5 : Bool)
def impl_GoodSeries.lb : impl_GoodSeries.Pt → Nat
  | .p0 _ => 0
  | .p15 _ _ _ _ => 15
  | .p26 _ _ _ _ _ => 26
def impl_GoodSeries.st : impl_GoodSeries.Pt → St
  | .p0 a0 => enter [.v (.sl false (.pair (.sl false (.pair .str (.pair .str .unit))) (.pair (.sl false (.pair (.int .i64) (.pair (.int .i64) .unit))) .unit))) a0] 0
  | .p15 y1 y2 y3 y4 => ⟨[(0, .im (.sl false (.pair (.sl false (.pair .str (.pair .str .unit))) (.pair (.sl false (.pair (.int .i64) (.pair (.int .i64) .unit))) .unit))) y1), (8, .im (.sl false (.pair (.sl false (.pair .str (.pair .str .unit))) (.pair (.sl false (.pair (.int .i64) (.pair (.int .i64) .unit))) .unit))) y2), (9, .im (.int .i64) y3), (10, .im (.int .i64) y4)], [], 0⟩
  | .p26 y1 y2 y3 y4 y5 => ⟨[(0, .im (.sl false (.pair (.sl false (.pair .str (.pair .str .unit))) (.pair (.sl false (.pair (.int .i64) (.pair (.int .i64) .unit))) .unit))) y1), (8, .im (.sl false (.pair (.sl false (.pair .str (.pair .str .unit))) (.pair (.sl false (.pair (.int .i64) (.pair (.int .i64) .unit))) .unit))) y2), (9, .im (.int .i64) y3), (10, .im (.int .i64) y4), (52, .im .bool y5)], [], 0⟩
def impl_GoodSeries.step (n : Nat) (K : impl_GoodSeries.Pt → Option (Tup [.bool])) : impl_GoodSeries.Pt → Option (Tup [.bool])
  | .p0 a0 => cond (decide ((200 : Int) < ((List.length a0) : Int))) (some false) (K (.p15 a0 a0 ((List.length a0) : Int) (0 : Int)))
  | .p15 y1 y2 y3 y4 => cond (decide (y4 < y3)) (cond (inB y4 (List.length y2)) ((impl_GoodLabels n (List.getD y2 (Int.toNat y4) default).1).bind fun r7 => cond (!r7) (K (.p26 y1 y2 y3 y4 true)) ((impl_valueOf n (List.getD y2 (Int.toNat y4) default).1 (⟨#[95, 110, 97, 109, 101]⟩ : ByteArray)).bind fun r8 => cond (seq r8 (⟨#[]⟩ : ByteArray)) (K (.p26 y1 y2 y3 y4 true)) (cond (decide (((List.length (List.getD y2 (Int.toNat y4) default).2.1) : Int) = (0 : Int))) (K (.p26 y1 y2 y3 y4 true)) ((impl_GoodSamples n (List.getD y2 (Int.toNat y4) default).2.1).bind fun r9 => cond (!r9) (K (.p26 y1 y2 y3 y4 true)) (cond (decide ((0 : Int) < y4)) (cond (inB (IntKind.wrap .i64 (y4 - (1 : Int))) (List.length y1)) ((impl_compare n (List.getD y1 (Int.toNat (IntKind.wrap .i64 (y4 - (1 : Int)))) default).1 (List.getD y2 (Int.toNat y4) default).1).bind fun (r10 : Int) => K (.p26 y1 y2 y3 y4 (decide ((0 : Int) ≤ r10)))) (none)) (K (.p26 y1 y2 y3 y4 false))))))) (none)) (some true)
  | .p26 y1 y2 y3 y4 y5 => cond y5 (some false) (K (.p15 y1 y2 y3 (IntKind.wrap .i64 (y4 + (1 : Int)))))
def impl_GoodSeries (n : Nat) (a0 : List ((List ((ByteArray) × ((ByteArray) × (Unit)))) × ((List ((Int) × ((Int) × (Unit)))) × (Unit)))) : Option (Tup [.bool]) := goRec impl_GoodSeries.step n (.p0 a0)
def impl_GoodSeries.spec : Ctr := ⟨37, [.v (.sl false (.pair (.sl false (.pair .str (.pair .str .unit))) (.pair (.sl false (.pair (.int .i64) (.pair (.int .i64) .unit))) .unit)))], [.bool], [], none, fun n x => impl_GoodSeries n x.1⟩
theorem impl_GoodSeries.seg_eq : SegEq ty gl impl_GoodSeries.F impl_GoodSeries.md impl_GoodSeries.T impl_GoodSeries.spec impl_GoodSeries.lb impl_GoodSeries.st impl_GoodSeries.step := by
  intro n goto y; cases y <;> kernel_rfl
theorem impl_GoodSeries.text : Text Go.Proofs.Tryz.prog impl_GoodSeries.F impl_GoodSeries.spec := textOf Go.Proofs.Tryz.f37
theorem impl_GoodSeries.ok : CtrOK Go.Proofs.Tryz.prog gl impl_GoodSeries.spec :=
  ctr_okS tabs impl_GoodSeries.text impl_GoodSeries.seg_eq (fun n x => ⟨.p0 x.1, rfl, rfl, rfl⟩) (consC impl_GoodLabels.ok (consC impl_valueOf.ok (consC impl_GoodSamples.ok (consC impl_compare.ok (nilC)))))

/-! slices.Clone[[]loop.example/g00039/impl.Label,loop.example/g00039/impl.Label] -/
def slices_Clone_Label.T : List Ctr := []
def slices_Clone_Label.md : List (Nat × List Md) := []
noncomputable def slices_Clone_Label.F : Fun := ⟨(Go.Proofs.Tryz.f47.body).getD .skip, [.v (.sl false (.pair .str (.pair .str .unit)))], [(.tmp 2, (.sl false (.pair .str (.pair .str .unit))))], [], 0, []⟩
inductive slices_Clone_Label.Pt where
  | p0 (a0 : List ((ByteArray) × ((ByteArray) × (Unit))))
def slices_Clone_Label.lb : slices_Clone_Label.Pt → Nat
  | .p0 _ => 0
def slices_Clone_Label.st : slices_Clone_Label.Pt → St
  | .p0 a0 => enter [.v (.sl false (.pair .str (.pair .str .unit))) a0] 0
def slices_Clone_Label.step (n : Nat) (K : slices_Clone_Label.Pt → Option (Tup [(.sl false (.pair .str (.pair .str .unit)))])) : slices_Clone_Label.Pt → Option (Tup [(.sl false (.pair .str (.pair .str .unit)))])
  | .p0 a0 => cond (List.isEmpty a0) (none) (cond (room ((List.length ([] : List ((ByteArray) × ((ByteArray) × (Unit))))) + (List.length a0))) (some (([] : List ((ByteArray) × ((ByteArray) × (Unit)))) ++ a0)) (none))
def slices_Clone_Label (n : Nat) (a0 : List ((ByteArray) × ((ByteArray) × (Unit)))) : Option (Tup [(.sl false (.pair .str (.pair .str .unit)))]) := goRec slices_Clone_Label.step n (.p0 a0)
def slices_Clone_Label.spec : Ctr := ⟨47, [.v (.sl false (.pair .str (.pair .str .unit)))], [(.sl false (.pair .str (.pair .str .unit)))], [], none, fun n x => slices_Clone_Label n x.1⟩
theorem slices_Clone_Label.seg_eq : SegEq ty gl slices_Clone_Label.F slices_Clone_Label.md slices_Clone_Label.T slices_Clone_Label.spec slices_Clone_Label.lb slices_Clone_Label.st slices_Clone_Label.step := by
  intro n goto y; cases y <;> kernel_rfl
theorem slices_Clone_Label.text : Text Go.Proofs.Tryz.prog slices_Clone_Label.F slices_Clone_Label.spec := textOf Go.Proofs.Tryz.f47
theorem slices_Clone_Label.ok : CtrOK Go.Proofs.Tryz.prog gl slices_Clone_Label.spec :=
  ctr_okS tabs slices_Clone_Label.text slices_Clone_Label.seg_eq (fun n x => ⟨.p0 x.1, rfl, rfl, rfl⟩) (nilC)

/-! strings.IndexByte -/
def strings_IndexByte (n : Nat) (a0 : ByteArray) (a1 : Int) : Option Int := hold n (some (Lib.indexByte a0.data.toList a1.toNat.toUInt8))
def strings_IndexByte.spec : Ctr := ⟨149, [.v .str, .v (.int .u8)], [.int .i64], [], none, fun n x => strings_IndexByte n x.1 x.2.1⟩
section
open Go.Proofs
def layIndexByte_ren : Go.Shelf.Ren := ⟨fun | 137 => 149 | 217 => 153 | 266 => 154 | n => n, fun | 9 => 9 | 5 => 5 | 3 => 3 | n => n, fun | n => n⟩
theorem layIndexByte : Go.Proofs.Lays.n137 Tryz.prog layIndexByte_ren where
  mixed := by kernel_rfl
  f137 := Tryz.func149.trans (congrArg some (by kernel_rfl))
  f217 := Tryz.func153.trans (congrArg some (by kernel_rfl))
  f266 := Tryz.func154.trans (congrArg some (by kernel_rfl))
  t3 := Tryz.underlying3
  a3 := Tryz.isAgg3
  z3 := Tryz.sizeOf3
  v3 := Tryz.zeroValue3
  t5 := Tryz.underlying5
  a5 := Tryz.isAgg5
  z5 := Tryz.sizeOf5
  v5 := Tryz.zeroValue5
  t9 := Tryz.underlying9
  a9 := Tryz.isAgg9
  z9 := Tryz.sizeOf9
  v9 := Tryz.zeroValue9

end
theorem strings_IndexByte.ok : CtrOK Go.Proofs.Tryz.prog gl strings_IndexByte.spec := by
  refine fun n => ⟨⟨Go.Proofs.Tryz.f149, by kernel_rfl, by kernel_rfl, by decide +kernel⟩, ?_⟩
  intro inst
  rintro ⟨a0, a1, ⟨⟩⟩ y hy
  obtain rfl := Option.some.inj (hold_some hy)
  intro w vs S L harg _ hL hSL hG
  change ArgsRep w [Arg.v .str a0, Arg.v (.int .u8) a1] vs S L at harg
  unfold ArgsRep at harg
  obtain ⟨v0, vr, S1, S2, L1, L2, rfl, rfl, rfl, h1, harg⟩ := harg
  unfold ArgsRep at harg
  obtain ⟨v1, vr, S3, S4, L3, L4, rfl, rfl, rfl, h2, harg⟩ := harg
  unfold ArgsRep at harg
  obtain ⟨rfl, rfl, rfl⟩ := harg
  unfold ArgRep at h1 h2
  obtain ⟨_, ⟨cs, rfl, rfl, rfl⟩, rfl⟩ := h1
  obtain ⟨_, ⟨cs, rfl, rfl, rfl⟩, rfl⟩ := h2
  refine (Go.Proofs.Any.strings_IndexByte layIndexByte a0 a1 w).mono ?_
  rintro e w' ⟨rfl, rfl⟩
  refine ⟨[.int .i64 (Lib.indexByte a0.data.toList a1.toNat.toUInt8)], [], [], rfl, ⟨_, [], [], [], rfl, rfl, rfl, ⟨rfl, rfl⟩, rfl, rfl⟩, ?_, by simp, by simp, rfl, rfl, rfl, Nat.le_refl _, fun _ _ _ => rfl⟩
  change OutsRep _ w' [Arg.v .str a0, Arg.v (.int .u8) a1] _ _ _
  simp only [OutsRep, OutRep]
  exact ⟨_, _, [], [], [], [], rfl, rfl, rfl, ⟨rfl, rfl⟩, _, _, [], [], [], [], rfl, rfl, rfl, ⟨rfl, rfl⟩, rfl, rfl⟩


/-! loop.example/g00039/impl.alternatives$1 -/
abbrev PC : U := .pair (.int .u8) (.pair .bool (.pair .bool .unit))
def impl_alternatives_1 (n : Nat) (a0 : PC.El) (a1 : List (List PC.El)) : Option (List (List PC.El)) :=
  hold n (cond (decide (a1 ≠ [] ∧ a1.length ≤ 1000000 ∧ (a1.getD (a1.length - 1) []).length ≤ 1000000)) (some (a1.set (a1.length - 1) (a1.getD (a1.length - 1) [] ++ [a0]))) none)
def impl_alternatives_1.spec : Ctr := ⟨148, [.v PC, .p (.sl false (.sl false PC))], [], [.sl false (.sl false PC)], none, fun n x => impl_alternatives_1 n x.1 x.2.1⟩
section
open Go.RowKit Go.Proofs
set_option maxHeartbeats 8000000 in
set_option maxRecDepth 100000 in
theorem put_calls (ht : TyOK Tryz.prog 176 (.sl false PC)) (c : Int) (x y : Bool) (b g q cap : Nat) (cur : Array Value) (v : Value) (l : List PC.El) (T1 T2 : TypeId) (fz : Nat × Nat) (F2 : List Nat) (W : World)
    (hb : W.heap[b]? = some (.cells #[.slice (some ⟨g, 0, none⟩) (q + 1) cap] T1 (0, 0))) (hg : W.heap[g]? = some (.cells cur T2 fz)) (hfz : ∀ j, j < cur.size → ¬ (fz.1 ≤ j ∧ j < fz.2))
    (hn2 : q ≤ 1000000) (hv : cur[q]? = some v) (hs : SlRep W true false 3 (Rep W true PC) l v F2) (hF2 : F2.Nodup) (hbF : b ∉ F2) (hgF : g ∉ F2) (hbg : b ≠ g) (hl : l.length ≤ 1000000) :
    Calls Tryz.prog 148 #[.agg #[.int .u8 c, .bool x, .bool y], .pointer (some ⟨b, 0, none⟩)] W fun e w' => e = .returned (.tuple #[]) ∧ ∃ v1 F3,
      SlRep w' true false 3 (Rep w' true PC) (l ++ [(c, x, y, ())]) v1 F3 ∧ F3.Nodup ∧ w'.heap[g]? = some (.cells (cur.setIfInBounds q v1) T2 fz) ∧ w'.os = W.os ∧ w'.tape = W.tape ∧ w'.output = W.output ∧ W.heap.size ≤ w'.heap.size ∧
      (∀ k, k < W.heap.size → k ≠ g → k ∉ F2 → w'.heap[k]? = W.heap[k]?) ∧ (∀ k ∈ F3, k < w'.heap.size ∧ (k < W.heap.size → k ∈ F2)) := by
  have e1 : wrap64 (((q + 1 : Nat) : Int) - 1) = (q : Int) := by unfold wrap64; omega
  have e2 : wrap64 (q : Int) = (q : Int) := by unfold wrap64; omega
  have hlt := lt_of_heap hb
  have hltg := lt_of_heap hg
  have hqs : q < cur.size := by
    rcases Nat.lt_or_ge q cur.size with h | h
    · exact h
    · rw [Array.getElem?_eq_none h] at hv; cases hv
  go_enter Tryz.func148, Tryz.ntmps148
  go_wp2
  have hbx : (W.alloc (.cells #[.int .u8 c, .bool x, .bool y] 175)).drew.heap[W.heap.size]? = some (.cells #[.int .u8 c, .bool x, .bool y] 175 (0, 0)) := alloc_new W _
  have hold : ∀ k, k < W.heap.size → (W.alloc (.cells #[.int .u8 c, .bool x, .bool y] 175)).drew.heap[k]? = W.heap[k]? := fun k hk => alloc_old W _ hk
  have hb1 := (hold b hlt).trans hb
  have hg1 := (hold g hltg).trans hg
  have hsz1 : (W.alloc (.cells #[.int .u8 c, .bool x, .bool y] 175)).drew.heap.size = W.heap.size + 1 := alloc_sz _ _
  have hFlt : ∀ k ∈ F2, k < W.heap.size := fun k hk => Rep.block_lt (u := .sl false PC) (cs := [v]) ⟨v, rfl, .inl hs⟩ k hk
  have hs1 : SlRep (W.alloc (.cells #[.int .u8 c, .bool x, .bool y] 175)).drew true false 3 (Rep (W.alloc (.cells #[.int .u8 c, .bool x, .bool y] 175)).drew true PC) l v F2 := SlRep.frame (u := PC) (fun k hk => hold k (hFlt k hk)) hs
  have hos1 : (W.alloc (.cells #[.int .u8 c, .bool x, .bool y] 175)).drew.os = W.os ∧ (W.alloc (.cells #[.int .u8 c, .bool x, .bool y] 175)).drew.tape = W.tape ∧ (W.alloc (.cells #[.int .u8 c, .bool x, .bool y] 175)).drew.output = W.output := ⟨rfl, rfl, rfl⟩
  refine start_ (n := 15) (S := fun w' => w'.cell? ⟨b, 0, none⟩ = some (.slice (some ⟨g, 0, none⟩) (q + 1) cap) ∧ w'.cell? ⟨g, q, none⟩ = some v ∧ w'.cell? ⟨W.heap.size, 0, none⟩ = some (.int .u8 c) ∧ w'.cell? ⟨W.heap.size, 1, none⟩ = some (.bool x) ∧ w'.cell? ⟨W.heap.size, 2, none⟩ = some (.bool y)) (ds := [14]) #[false, false, false, false, false, false, false, false, false, false, false, false, false, false, false] (by kernel_rfl) rfl rfl ⟨(cell_row hb1).trans rfl, (cell_row hg1).trans hv, (cell_row hbx).trans rfl, (cell_row hbx).trans rfl, (cell_row hbx).trans rfl⟩ (fun hHeld => ?_)
  generalize (W.alloc (.cells #[.int .u8 c, .bool x, .bool y] 175)).drew = W1 at hold hsz1 hbx hb1 hg1 hs1 hos1 hHeld ⊢
  refine take_ (i := 0) (N := some 3) (v := ?_) (a' := ?_) #[true, false, false, false, false, false, false, false, false, false, false, false, false, false, false] rfl rfl (by kernel_rfl) (fun _ _ _ h => h) (Or.inl ⟨by rfl, ?_⟩) hHeld ?_ ?_
  rotate_left
  · rintro w' ⟨s0, s1, s2, s3, s4⟩
    go_simp
    try with_reducible rfl
  rotate_left
  · simp only [Act.put, List.setIfInBounds_toArray, List.set_cons_zero, List.set_cons_succ, i64_w, i32_w]
    rfl
  refine take_ (i := 1) (N := some 4) (v := ?_) (a' := ?_) #[true, true, false, false, false, false, false, false, false, false, false, false, false, false, false] rfl rfl (by kernel_rfl) (fun _ _ _ h => h) (Or.inl ⟨by rfl, ?_⟩) hHeld ?_ ?_
  rotate_left
  · rintro w' ⟨s0, s1, s2, s3, s4⟩
    go_simp
    try with_reducible rfl
  rotate_left
  · simp only [Act.put, List.setIfInBounds_toArray, List.set_cons_zero, List.set_cons_succ, i64_w, i32_w]
    rfl
  refine pure_ (i := 2) (N := some 5) (v := ?_) (a' := ?_) #[true, true, true, false, false, false, false, false, false, false, false, false, false, false, false] rfl rfl (by kernel_rfl) (fun _ _ _ h => h) (Or.inl ⟨by rfl, ?_⟩) ?_ ?_
  rotate_left
  · intro w'
    go_simp
    try with_reducible rfl
  rotate_left
  · simp only [Act.put, List.setIfInBounds_toArray, List.set_cons_zero, List.set_cons_succ, i64_w, i32_w]
    rfl
  refine pure_ (i := 3) (N := some 6) (v := ?_) (a' := ?_) #[true, true, true, true, false, false, false, false, false, false, false, false, false, false, false] rfl rfl (by kernel_rfl) (fun _ _ _ h => h) (Or.inl ⟨by rfl, ?_⟩) ?_ ?_
  rotate_left
  · intro w'
    go_simp
    try with_reducible rfl
  rotate_left
  · simp only [Act.put, List.setIfInBounds_toArray, List.set_cons_zero, List.set_cons_succ, i64_w, i32_w]
    rfl
  refine take_ (i := 4) (N := some 7) (v := ?_) (a' := ?_) #[true, true, true, true, true, false, false, false, false, false, false, false, false, false, false] rfl rfl (by kernel_rfl) (fun _ _ _ h => h) (Or.inl ⟨by rfl, ?_⟩) hHeld ?_ ?_
  rotate_left
  · rintro w' ⟨s0, s1, s2, s3, s4⟩
    go_simp
    try with_reducible rfl
  rotate_left
  · simp only [Act.put, List.setIfInBounds_toArray, List.set_cons_zero, List.set_cons_succ, i64_w, i32_w]
    rfl
  refine take_ (i := 5) (N := some 8) (v := ?_) (a' := ?_) #[true, true, true, true, true, true, false, false, false, false, false, false, false, false, false] rfl rfl (by kernel_rfl) (fun _ _ _ h => h) (Or.inl ⟨by rfl, ?_⟩) hHeld ?_ ?_
  rotate_left
  · rintro w' ⟨s0, s1, s2, s3, s4⟩
    go_simp
    try with_reducible rfl
  rotate_left
  · simp only [Act.put, List.setIfInBounds_toArray, List.set_cons_zero, List.set_cons_succ, i64_w, i32_w]
    rfl
  refine pure_ (i := 6) (N := some 9) (v := ?_) (a' := ?_) #[true, true, true, true, true, true, true, false, false, false, false, false, false, false, false] rfl rfl (by kernel_rfl) (fun _ _ _ h => h) (Or.inl ⟨by rfl, ?_⟩) ?_ ?_
  rotate_left
  · intro w'
    go_simp
    try with_reducible rfl
  rotate_left
  · simp only [Act.put, List.setIfInBounds_toArray, List.set_cons_zero, List.set_cons_succ, i64_w, i32_w]
    rfl
  refine pure_ (i := 7) (N := some 10) (v := ?_) (a' := ?_) #[true, true, true, true, true, true, true, true, false, false, false, false, false, false, false] rfl rfl (by kernel_rfl) (fun _ _ _ h => h) (Or.inl ⟨by rfl, ?_⟩) ?_ ?_
  rotate_left
  · intro w'
    go_simp
    try with_reducible rfl
  rotate_left
  · simp only [Act.put, List.setIfInBounds_toArray, List.set_cons_zero, List.set_cons_succ, i64_w, i32_w]
    rfl
  refine pure_ (i := 8) (N := some 11) (v := ?_) (a' := ?_) #[true, true, true, true, true, true, true, true, true, false, false, false, false, false, false] rfl rfl (by kernel_rfl) (fun _ _ _ h => h) (Or.inl ⟨by rfl, ?_⟩) ?_ ?_
  rotate_left
  · intro w'
    go_simp
    rw [if_pos (by omega)]
  rotate_left
  · simp only [Act.put, List.setIfInBounds_toArray, List.set_cons_zero, List.set_cons_succ, i64_w, i32_w]
    rfl
  refine take_ (i := 9) (N := some 12) (v := ?_) (a' := ?_) #[true, true, true, true, true, true, true, true, true, true, false, false, false, false, false] rfl rfl (by kernel_rfl) (fun _ _ _ h => h) (Or.inl ⟨by rfl, ?_⟩) hHeld ?_ ?_
  rotate_left
  · rintro w' ⟨s0, s1, s2, s3, s4⟩
    go_simp
    try with_reducible rfl
  rotate_left
  · simp only [Act.put, List.setIfInBounds_toArray, List.set_cons_zero, List.set_cons_succ, i64_w, i32_w]
    rfl
  refine take_ (i := 10) (N := some 13) (v := ?_) (a' := ?_) #[true, true, true, true, true, true, true, true, true, true, true, false, false, false, false] rfl rfl (by kernel_rfl) (fun _ _ _ h => h) (Or.inl ⟨by rfl, ?_⟩) hHeld ?_ ?_
  rotate_left
  · rintro w' ⟨s0, s1, s2, s3, s4⟩
    go_simp
    try with_reducible rfl
  rotate_left
  · simp only [Act.put, List.setIfInBounds_toArray, List.set_cons_zero, List.set_cons_succ, i64_w, i32_w]
    rfl
  clear hHeld
  have hW2 : ∀ k, k < W1.heap.size → (W1.alloc (.cells #[.int .u8 c, .bool x, .bool y] 175)).heap[k]? = W1.heap[k]? := fun k hk => alloc_old W1 _ hk
  have hnew : (W1.alloc (.cells #[.int .u8 c, .bool x, .bool y] 175)).heap[W1.heap.size]? = some (.cells #[.int .u8 c, .bool x, .bool y] 175 (0, 0)) := alloc_new W1 _
  have hb2 := (hW2 b (lt_of_heap hb1)).trans hb1
  have hg2 := (hW2 g (lt_of_heap hg1)).trans hg1
  have hbx2 := (hW2 _ (lt_of_heap hbx)).trans hbx
  refine one_ (i := 11) (N := some 14) #[true, true, true, true, true, true, true, true, true, true, true, true, false, false, false] rfl rfl (by kernel_rfl) (by decide) (fun K hK => ?_)
  refine event_step (w1 := W1.alloc (.cells #[.int .u8 c, .bool x, .bool y] 175)) (v := .slice (some ⟨W1.heap.size, 0, none⟩) 1 1) (by rfl) (by first | (go_simp; done) | (go_simp; rfl)) ?_
  refine hK.out _ _ ⟨(cell_row hb2).trans rfl, (cell_row hg2).trans hv, (cell_row hbx2).trans rfl, (cell_row hbx2).trans rfl, (cell_row hbx2).trans rfl⟩ (fun hHeld => ?_)
  clear hK K hHeld
  refine norm_ (a' := ?_) ?_ ?_
  rotate_left
  · show Act.put _ (some 14) _ = _
    simp only [Act.put, List.setIfInBounds_toArray, List.set_cons_zero, List.set_cons_succ, i64_w, i32_w]
    rfl
  have hs2 : SlRep (W1.alloc (.cells #[.int .u8 c, .bool x, .bool y] 175)) true false 3 (Rep (W1.alloc (.cells #[.int .u8 c, .bool x, .bool y] 175)) true PC) l v F2 := SlRep.frame (u := PC) (fun k hk => hW2 k (by have := hFlt k hk; omega)) hs1
  obtain ⟨v1, w2, F3, hrun, hs3, hF3, ho1, ho2, ho3, hsz2, hfr, hF3b⟩ := append_run (P := Tryz.prog) (ty := 176) (t := 176) (e := false) (u := PC) (l := l) (m := [(c, x, y, ())]) (dd := ⟨W1.heap.size, 0, none⟩) (cs := [.int .u8 c, .bool x, .bool y]) ht rfl hs2 hF2
    ⟨[.int .u8 c, .bool x, .bool y], [], [], [], rfl, rfl, ⟨[.int .u8 c], [.bool x, .bool y], [], [], rfl, rfl, ⟨rfl, rfl⟩, [.bool x], [.bool y], [], [], rfl, rfl, ⟨rfl, rfl⟩, [.bool y], [], [], [], rfl, rfl, ⟨rfl, rfl⟩, rfl, rfl⟩, rfl, rfl⟩
    (cells_at (p := []) (q := []) rfl hnew rfl rfl) (by simp) (by simp; omega) 1
  have hsz3 : (W1.alloc (.cells #[.int .u8 c, .bool x, .bool y] 175)).heap.size = W1.heap.size + 1 := alloc_sz _ _
  refine one_ (i := 12) (N := some 15) #[true, true, true, true, true, true, true, true, true, true, true, true, true, false, false] rfl rfl (by kernel_rfl) (by decide) (fun K hK => ?_)
  refine event_step (w1 := w2) (v := v1) (by rfl) ?_ ?_
  · exact append_op (x := .tmp 12) (y := .tmp 14) (t := 176) rfl hrun
  have hb3 := (hfr b (by omega) hbF).trans hb2
  have hg3 := (hfr g (by omega) hgF).trans hg2
  have hbx3 := (hfr W.heap.size (by omega) (fun h => by have := hFlt _ h; omega)).trans hbx2
  refine hK.out _ _ ⟨(cell_row hb3).trans rfl, (cell_row hg3).trans hv, (cell_row hbx3).trans rfl, (cell_row hbx3).trans rfl, (cell_row hbx3).trans rfl⟩ (fun hHeld => ?_)
  clear hK K hHeld
  refine norm_ (a' := ?_) ?_ ?_
  rotate_left
  · show Act.put _ (some 15) _ = _
    simp only [Act.put, List.setIfInBounds_toArray, List.set_cons_zero, List.set_cons_succ, i64_w, i32_w]
    rfl
  refine pure_ (i := 13) (N := some 16) (v := ?_) (a' := ?_) #[true, true, true, true, true, true, true, true, true, true, true, true, true, true, false] rfl rfl (by kernel_rfl) (fun _ _ _ h => h) (Or.inl ⟨by rfl, ?_⟩) ?_ ?_
  rotate_left
  · intro w'
    go_simp
    rw [if_pos (by omega)]
  rotate_left
  · simp only [Act.put, List.setIfInBounds_toArray, List.set_cons_zero, List.set_cons_succ, i64_w, i32_w]
    rfl
  have hcq : w2.cell? ⟨g, q, none⟩ = some v := (cell_row hg3).trans hv
  have hfq : w2.frozen? ⟨g, q, none⟩ = false := frozen_row hg3 (hfz q hqs)
  obtain ⟨A1, n1, c1, e1'⟩ : ∃ A n c, v1 = Value.slice A n c := by
    rcases hs3 with ⟨h0, _⟩ | ⟨_, _, _, _, _, _, _, _, _, h0, _⟩ <;> exact ⟨_, _, _, h0⟩
  subst e1'
  refine last_ (i := 14) (N := none) #[true, true, true, true, true, true, true, true, true, true, true, true, true, true, true] rfl rfl (by kernel_rfl) (by decide) (fun K hK => ?_)
  refine skip_step (w1 := w2.setCell ⟨g, q, none⟩ (.slice A1 n1 c1)) (by rfl) rfl ?_ ?_
  · go_simp
  refine hK.out _ _ ?_
  clear hK K
  refine done_ (by kernel_rfl) ?_
  rw [setCell_put hg3]
  have hgF3 : g ∉ F3 := fun h => hgF ((hF3b g h).2 (by omega))
  have hoth : ∀ k, k ≠ g → (putB w2 g (.cells (cur.setIfInBounds q (.slice A1 n1 c1)) T2 fz)).heap[k]? = w2.heap[k]? := fun k hk => putB_other hk
  go_end0
  refine ⟨rfl, _, F3, SlRep.frame (u := PC) (fun k hk => hoth k (fun e => hgF3 (e ▸ hk))) hs3, hF3, putB_same (lt_of_heap hg3), ho1.trans hos1.1, ho2.trans hos1.2.1, ho3.trans hos1.2.2, by rw [putB_sz]; omega, ?_, ?_⟩
  · intro k hk hkg hkF
    rw [hoth k hkg, hfr k (by omega) hkF, hW2 k (by omega), hold k hk]
  · intro k hk
    have := hF3b k hk
    rw [putB_sz]
    exact ⟨this.1, fun h => this.2 (by omega)⟩
theorem impl_alternatives_1.ok : CtrOK Tryz.prog gl impl_alternatives_1.spec := by
  have ht : TyOK Tryz.prog 176 (.sl false PC) := tabs.ty _ _ (by kernel_rfl)
  intro n
  refine ⟨⟨Tryz.f148, by kernel_rfl, by kernel_rfl, by decide +kernel⟩, ?_⟩
  intro inst
  rintro ⟨x, out, ⟨⟩⟩ y hy
  obtain ⟨hc, hy⟩ := cond_none (hold_some hy)
  simp only [decide_eq_true_eq] at hc
  obtain ⟨hne, hlen, hlast⟩ := hc
  have hy : out.set (out.length - 1) (out.getD (out.length - 1) [] ++ [x]) = y := Option.some.inj hy
  subst hy
  intro w vs S L harg _ hL hSL hG
  change ArgsRep w [Arg.v PC x, Arg.p (.sl false (.sl false PC)) out] vs S L at harg
  unfold ArgsRep at harg
  obtain ⟨v0, vr, S1, S2, L1, L2, rfl, rfl, rfl, h1, harg⟩ := harg
  unfold ArgsRep at harg
  obtain ⟨v1, vr, S3, S4, L3, L4, rfl, rfl, rfl, h2, harg⟩ := harg
  unfold ArgsRep at harg
  obtain ⟨rfl, rfl, rfl⟩ := harg
  unfold ArgRep at h1 h2
  obtain ⟨_, ⟨cs, rfl, c1, d1, G1, H1, rfl, rfl, ⟨rfl, rfl⟩, c2, d2, G2, H2, rfl, rfl, ⟨rfl, rfl⟩, c3, d3, G3, H3, rfl, rfl, ⟨rfl, rfl⟩, rfl, rfl⟩, rfl⟩ := h1
  obtain ⟨_, rfl, b, c, T1, G, rfl, hw, ⟨v, hcv, hs⟩, rfl⟩ := h2
  have hs := hs.resolve_right bare_no
  rcases hs with ⟨_, h0, _⟩ | ⟨ad, cap, cc, T2, fz, p, m, q, G0, rfl, hsp, _, hcap, hh, hcc, hp, hr, rfl, how⟩
  · exact absurd h0 hne
  obtain ⟨hoff, hfz, hcsz, hcm⟩ := how rfl
  have hp0 : p = [] := List.eq_nil_of_length_eq_zero (by omega)
  subst hp0
  have hlp : 0 < out.length := List.length_pos_iff.2 hne
  obtain ⟨m1, m2, m3, F1, F2, F3, rfl, rfl, hm1, ⟨v2, rfl, hs2⟩, hr1, hr3, _⟩ := RepL.at (n := 1) (fun _ _ _ h => Rep.length h) ([] : List PC.El) (out.length - 1) hr (by omega)
  have hs2 := hs2.resolve_right bare_no
  simp only [List.nil_append, List.append_nil] at hL hcc ⊢
  have hblk : ad = ⟨ad.block, 0, none⟩ := by
    obtain ⟨a1, a2, a3⟩ := ad
    simp only at hoff hsp
    rw [hoff, hsp]
  generalize ad.block = g at *
  subst hblk
  have hcarr : c = #[.slice (some ⟨g, 0, none⟩) (out.length - 1 + 1) cap] := by
    apply Array.toList_inj.1
    rw [hcv]
    simp; omega
  subst hcarr
  simp only [List.nodup_cons, List.nodup_append, List.mem_cons, List.mem_append, not_or] at hL
  obtain ⟨⟨hbg, ⟨hb1, hb2⟩, hb3⟩, ⟨⟨hg1, hg2⟩, hg3⟩, ⟨n1, n2, n12⟩, n3, n123⟩ := hL
  have hq1 : out.length - 1 < cc.size := by
    have := congrArg List.length hcc
    simp at this; omega
  have hcv2 : cc[out.length - 1]? = some v2 := by
    rw [← Array.getElem?_toList, hcc]
    simp [List.append_assoc, hm1, List.getElem?_append_right]
  have hput := put_calls ht x.1 x.2.1 x.2.2.1 b g (out.length - 1) cap cc v2 _ T1 T2 fz F2 w hw hh hfz (by omega) hcv2 hs2 n2 hb2 hg2 hbg hlast
  refine Calls.mono hput ?_
  rintro e w' ⟨rfl, v3, F4, hs3, hF4, hg', ho1, ho2, ho3, hsz, hfr, hF4b⟩
  have hblt : b < w.heap.size := lt_of_heap hw
  have hglt : g < w.heap.size := lt_of_heap hh
  have hlt1 : ∀ k ∈ F1, k < w.heap.size := fun k hk => RepL.block_lt (u := .sl false PC) (fun h => Rep.block_lt h) hr1 k hk
  have hlt3 : ∀ k ∈ F3, k < w.heap.size := fun k hk => RepL.block_lt (u := .sl false PC) (fun h => Rep.block_lt h) hr3 k hk
  have hfr1 : ∀ k ∈ F1, w'.heap[k]? = w.heap[k]? := fun k hk => hfr k (hlt1 k hk) (fun e => hg1 (e ▸ hk)) (fun h => n12 k hk k h rfl)
  have hfr3 : ∀ k ∈ F3, w'.heap[k]? = w.heap[k]? := fun k hk => hfr k (hlt3 k hk) (fun e => hg3 (e ▸ hk)) (fun h => n123 k (.inr h) k hk rfl)
  have hb' : w'.heap[b]? = w.heap[b]? := hfr b hblt hbg hb2
  have k1 := RepL.imp (R := Rep w true (.sl false PC)) (S := Rep w' true (.sl false PC)) (fun x c G hG h => Rep.frame (fun k hk => hfr1 k (hG k hk)) h) hr1
  have k3 := RepL.imp (R := Rep w true (.sl false PC)) (S := Rep w' true (.sl false PC)) (fun x c G hG h => Rep.frame (fun k hk => hfr3 k (hG k hk)) h) hr3
  have k2 : RepL (Rep w' true (.sl false PC)) [out.getD (out.length - 1) [] ++ [x]] [v3] F4 := ⟨[v3], [], F4, [], by simp, by simp, ⟨v3, rfl, .inl hs3⟩, rfl, rfl⟩
  have kk := RepL.append (RepL.append k1 k2) k3
  have hset : out.take (out.length - 1) ++ [out.getD (out.length - 1) [] ++ [x]] ++ out.drop (out.length - 1 + 1) = out.set (out.length - 1) (out.getD (out.length - 1) [] ++ [x]) := by
    rw [List.set_eq_take_append_cons_drop, if_pos (by omega)]; simp
  rw [hset] at kk
  have hF41 : ∀ k ∈ F4, k ∉ F1 ∧ k ∉ F3 ∧ k ≠ g ∧ k ≠ b := by
    intro k hk
    have h5 := hF4b k hk
    refine ⟨fun h => ?_, fun h => ?_, fun h => ?_, fun h => ?_⟩
    · exact n12 k h k (h5.2 (hlt1 k h)) rfl
    · exact n123 k (.inr (h5.2 (hlt3 k h))) k h rfl
    · subst h; exact hg2 (h5.2 hglt)
    · subst h; exact hb2 (h5.2 hblt)
  refine ⟨[], [], b :: g :: (F1 ++ F4 ++ F3), rfl, ⟨rfl, rfl⟩, ?_, ?_, ?_, ho1, ho2, ho3, hsz, ?_⟩
  · change OutsRep _ w' [Arg.v PC x, Arg.p (.sl false (.sl false PC)) out] _ _ _
    simp only [OutsRep, OutRep]
    refine ⟨_, _, [], _, [], _, rfl, rfl, rfl, ⟨rfl, rfl⟩, _, _, _, [], _, [], rfl, (List.append_nil _).symm, (List.append_nil _).symm, ⟨_, b, _, T1, g :: (F1 ++ F4 ++ F3), rfl, rfl, hb'.trans hw, ⟨_, rfl, .inl (.inr ⟨⟨g, 0, none⟩, cap, _, T2, fz, [], m1 ++ [v3] ++ m3, q, F1 ++ F4 ++ F3, ?_, rfl, by simp, ?_, hg', ?_, rfl, kk, rfl, fun _ => ⟨rfl, ?_, ?_, hcm⟩⟩)⟩, rfl⟩, rfl, rfl⟩
    · simp; omega
    · simp; omega
    · rw [Array.toList_setIfInBounds, hcc]
      simp only [List.append_assoc]
      rw [List.set_append_right _ _ (by omega), hm1]
      simp
    · intro j hj
      rw [Array.size_setIfInBounds] at hj
      exact hfz j hj
    · rw [Array.size_setIfInBounds]; exact hcsz
  · simp only [List.nil_append, List.nodup_cons, List.nodup_append, List.mem_cons, List.mem_append, not_or]
    refine ⟨⟨hbg, ⟨hb1, fun h => (hF41 b h).2.2.2 rfl⟩, hb3⟩, ⟨⟨hg1, fun h => (hF41 g h).2.2.1 rfl⟩, hg3⟩, ⟨n1, hF4, fun i hi j hj e => (hF41 j hj).1 (e ▸ hi)⟩, n3, fun i hi j hj e => ?_⟩
    rcases hi with hi | hi
    · exact n123 i (.inl hi) j hj e
    · exact (hF41 i hi).2.1 (e ▸ hj)
  · intro k hk
    simp only [List.nil_append, List.mem_cons, List.mem_append] at hk ⊢
    rcases hk with rfl | rfl | (hk | hk) | hk
    · exact ⟨by omega, fun _ => .inl rfl⟩
    · exact ⟨by omega, fun _ => .inr (.inl rfl)⟩
    · exact ⟨by have := hlt1 k hk; omega, fun _ => .inr (.inr (.inl (.inl hk)))⟩
    · exact ⟨(hF4b k hk).1, fun h => .inr (.inr (.inl (.inr ((hF4b k hk).2 h))))⟩
    · exact ⟨by have := hlt3 k hk; omega, fun _ => .inr (.inr (.inr hk))⟩
  · intro k hk hkL
    simp only [List.mem_cons, List.mem_append, not_or] at hkL
    exact hfr k hk hkL.2.1 hkL.2.2.1.2
end


/-! loop.example/g00039/impl.alternatives -/
def impl_alternatives.T : List Ctr := [impl_printed.spec, strings_IndexByte.spec, impl_alternatives_1.spec]
def impl_alternatives.md : List (Nat × List Md) := [(148, [.v, .p (.sl false (.sl false (.pair (.int .u8) (.pair .bool (.pair .bool .unit)))))]), (1000148, [.p (.sl false (.sl false (.pair (.int .u8) (.pair .bool (.pair .bool .unit)))))])]
noncomputable def impl_alternatives.F : Fun := ⟨(Go.Proofs.Tryz.f142.body).getD .skip, [.v .str], [(.tmp 2, (.sl false (.sl false (.pair (.int .u8) (.pair .bool (.pair .bool .unit)))))), (.tmp 3, .bool)], [], 0, [(19, ⟨[0, 4, 5, 6], [], [(4, 0, (.sl false (.pair (.int .u8) (.pair .bool (.pair .bool .unit)))))], false⟩), (51, ⟨[0, 4, 5, 6, 56], [], [(4, 0, (.sl false (.pair (.int .u8) (.pair .bool (.pair .bool .unit)))))], false⟩)]⟩
inductive impl_alternatives.Pt where
  | p0 (a0 : ByteArray)
  | p19 (y1 : ByteArray) (y2 : Int) (y3 : List (List ((Int) × ((Bool) × ((Bool) × (Unit))))))
  | p51 (y1 : ByteArray) (y2 : Int) (y3 : Bool) (y4 : List (List ((Int) × ((Bool) × ((Bool) × (Unit))))))
def impl_alternatives.lb : impl_alternatives.Pt → Nat
  | .p0 _ => 0
  | .p19 _ _ _ => 19
  | .p51 _ _ _ _ => 51
def impl_alternatives.st : impl_alternatives.Pt → St
  | .p0 a0 => enter [.v .str a0] 0
  | .p19 y1 y2 y3 => ⟨[(0, .im .str y1), (4, .po 0 0), (5, .fn 148 [.po 0 0]), (6, .im (.int .i64) y2)], [(0, .obj [.hs 1 [] none 0]), (1, .arr false (.sl false (.pair (.int .u8) (.pair .bool (.pair .bool .unit)))) y3 0)], 2⟩
  | .p51 y1 y2 y3 y4 => ⟨[(0, .im .str y1), (4, .po 0 0), (5, .fn 148 [.po 0 0]), (6, .im (.int .i64) y2), (56, .im .bool y3)], [(0, .obj [.hs 1 [] none 0]), (1, .arr false (.sl false (.pair (.int .u8) (.pair .bool (.pair .bool .unit)))) y4 0)], 2⟩
def impl_alternatives.step (n : Nat) (K : impl_alternatives.Pt → Option (Tup [(.sl false (.sl false (.pair (.int .u8) (.pair .bool (.pair .bool .unit))))), .bool])) : impl_alternatives.Pt → Option (Tup [(.sl false (.sl false (.pair (.int .u8) (.pair .bool (.pair .bool .unit))))), .bool])
  | .p0 a0 => (impl_printed n a0 (100 : Int)).bind fun r4 => cond (!r4) (some (([] : List (List ((Int) × ((Bool) × ((Bool) × (Unit)))))), false)) (K (.p19 a0 (0 : Int) [([] : List ((Int) × ((Bool) × ((Bool) × (Unit)))))]))
  | .p19 y1 y2 y3 => cond (decide (y2 < ((ByteArray.size y1) : Int))) (cond (inB y2 (ByteArray.size y1)) (cond (decide ((bt y1 y2) = (124 : Int))) (cond (room ((List.length y3) + (List.length [([] : List ((Int) × ((Bool) × ((Bool) × (Unit)))))]))) (K (.p19 y1 (IntKind.wrap .i64 (y2 + (1 : Int))) (y3 ++ [([] : List ((Int) × ((Bool) × ((Bool) × (Unit)))))]))) (none)) (cond (decide ((bt y1 y2) = (42 : Int))) ((impl_alternatives_1 n ((default : Int), ((default : Bool), (true, ()))) y3).bind fun r6 => K (.p19 y1 (IntKind.wrap .i64 (y2 + (1 : Int))) r6)) (cond (decide ((bt y1 y2) = (63 : Int))) ((impl_alternatives_1 n ((default : Int), (true, (default : (Bool) × (Unit)))) y3).bind fun r6 => K (.p19 y1 (IntKind.wrap .i64 (y2 + (1 : Int))) r6)) (cond (decide ((bt y1 y2) = (92 : Int))) (cond (decide ((IntKind.wrap .i64 (y2 + (1 : Int))) = ((ByteArray.size y1) : Int))) (K (.p51 y1 (IntKind.wrap .i64 (y2 + (1 : Int))) true y3)) (cond (inB (IntKind.wrap .i64 (y2 + (1 : Int))) (ByteArray.size y1)) ((strings_IndexByte n (⟨#[42, 63, 124, 92]⟩ : ByteArray) (bt y1 (IntKind.wrap .i64 (y2 + (1 : Int))))).bind fun (r6 : Int) => K (.p51 y1 (IntKind.wrap .i64 (y2 + (1 : Int))) (decide (r6 < (0 : Int))) y3)) (none))) ((impl_alternatives_1 n ((bt y1 y2), (default : (Bool) × ((Bool) × (Unit)))) y3).bind fun r6 => K (.p19 y1 (IntKind.wrap .i64 (y2 + (1 : Int))) r6)))))) (none)) (some (y3, true))
  | .p51 y1 y2 y3 y4 => cond y3 (some (([] : List (List ((Int) × ((Bool) × ((Bool) × (Unit)))))), false)) (cond (inB y2 (ByteArray.size y1)) ((impl_alternatives_1 n ((bt y1 y2), (default : (Bool) × ((Bool) × (Unit)))) y4).bind fun r7 => K (.p19 y1 (IntKind.wrap .i64 (y2 + (1 : Int))) r7)) (none))
def impl_alternatives (n : Nat) (a0 : ByteArray) : Option (Tup [(.sl false (.sl false (.pair (.int .u8) (.pair .bool (.pair .bool .unit))))), .bool]) := goRec impl_alternatives.step n (.p0 a0)
def impl_alternatives.spec : Ctr := ⟨142, [.v .str], [(.sl false (.sl false (.pair (.int .u8) (.pair .bool (.pair .bool .unit))))), .bool], [], none, fun n x => impl_alternatives n x.1⟩
theorem impl_alternatives.seg_eq : SegEq ty gl impl_alternatives.F impl_alternatives.md impl_alternatives.T impl_alternatives.spec impl_alternatives.lb impl_alternatives.st impl_alternatives.step := by
  intro n goto y; cases y <;> kernel_rfl
theorem impl_alternatives.text : Text Go.Proofs.Tryz.prog impl_alternatives.F impl_alternatives.spec := textOf Go.Proofs.Tryz.f142
theorem impl_alternatives.ok : CtrOK Go.Proofs.Tryz.prog gl impl_alternatives.spec :=
  ctr_okS tabs impl_alternatives.text impl_alternatives.seg_eq (fun n x => ⟨.p0 x.1, rfl, rfl, rfl⟩) (consC impl_printed.ok (consC strings_IndexByte.ok (consC impl_alternatives_1.ok (nilC))))

/-! loop.example/g00039/impl.GoodPattern -/
def impl_GoodPattern.T : List Ctr := [impl_alternatives.spec]
def impl_GoodPattern.md : List (Nat × List Md) := []
noncomputable def impl_GoodPattern.F : Fun := ⟨(Go.Proofs.Tryz.f123.body).getD .skip, [.v .str], [(.tmp 2, .bool)], [], 0, []⟩
inductive impl_GoodPattern.Pt where
  | p0 (a0 : ByteArray)
def impl_GoodPattern.lb : impl_GoodPattern.Pt → Nat
  | .p0 _ => 0
def impl_GoodPattern.st : impl_GoodPattern.Pt → St
  | .p0 a0 => enter [.v .str a0] 0
def impl_GoodPattern.step (n : Nat) (K : impl_GoodPattern.Pt → Option (Tup [.bool])) : impl_GoodPattern.Pt → Option (Tup [.bool])
  | .p0 a0 => (impl_alternatives n a0).bind fun r4 => some r4.2
def impl_GoodPattern (n : Nat) (a0 : ByteArray) : Option (Tup [.bool]) := goRec impl_GoodPattern.step n (.p0 a0)
def impl_GoodPattern.spec : Ctr := ⟨123, [.v .str], [.bool], [], none, fun n x => impl_GoodPattern n x.1⟩
theorem impl_GoodPattern.seg_eq : SegEq ty gl impl_GoodPattern.F impl_GoodPattern.md impl_GoodPattern.T impl_GoodPattern.spec impl_GoodPattern.lb impl_GoodPattern.st impl_GoodPattern.step := by
  intro n goto y; cases y <;> kernel_rfl
theorem impl_GoodPattern.text : Text Go.Proofs.Tryz.prog impl_GoodPattern.F impl_GoodPattern.spec := textOf Go.Proofs.Tryz.f123
theorem impl_GoodPattern.ok : CtrOK Go.Proofs.Tryz.prog gl impl_GoodPattern.spec :=
  ctr_okS tabs impl_GoodPattern.text impl_GoodPattern.seg_eq (fun n x => ⟨.p0 x.1, rfl, rfl, rfl⟩) (consC impl_alternatives.ok (nilC))

/-! loop.example/g00039/impl.goodMatcher -/
def impl_goodMatcher.T : List Ctr := [impl_isName.spec, impl_printed.spec, impl_GoodPattern.spec]
def impl_goodMatcher.md : List (Nat × List Md) := []
noncomputable def impl_goodMatcher.F : Fun := ⟨(Go.Proofs.Tryz.f85.body).getD .skip, [.v (.pair .str (.pair (.int .i64) (.pair .str .unit)))], [(.tmp 2, .bool)], [], 0, [(4, ⟨[1, 22], [], [], false⟩)]⟩
inductive impl_goodMatcher.Pt where
  | p0 (a0 : (ByteArray) × ((Int) × ((ByteArray) × (Unit))))
  | p4 (y1 : Bool) (y2 : ByteArray) (y3 : Int) (y4 : ByteArray)
def impl_goodMatcher.lb : impl_goodMatcher.Pt → Nat
  | .p0 _ => 0
  | .p4 _ _ _ _ => 4
def impl_goodMatcher.st : impl_goodMatcher.Pt → St
  | .p0 a0 => enter [.v (.pair .str (.pair (.int .i64) (.pair .str .unit))) a0] 0
  | .p4 y1 y2 y3 y4 => ⟨[(1, .po 0 0), (22, .im .bool y1)], [(0, .obj [.im .str y2, .im (.int .i64) y3, .im .str y4])], 1⟩
def impl_goodMatcher.step (n : Nat) (K : impl_goodMatcher.Pt → Option (Tup [.bool])) : impl_goodMatcher.Pt → Option (Tup [.bool])
  | .p0 a0 => (impl_isName n a0.1).bind fun r4 => cond (!r4) (K (.p4 true a0.1 a0.2.1 a0.2.2.1)) (cond (decide (a0.2.1 < (1 : Int))) (K (.p4 true a0.1 a0.2.1 a0.2.2.1)) (cond (decide ((4 : Int) < a0.2.1)) (K (.p4 true a0.1 a0.2.1 a0.2.2.1)) ((impl_printed n a0.2.2.1 (100 : Int)).bind fun r5 => K (.p4 (!r5) a0.1 a0.2.1 a0.2.2.1))))
  | .p4 y1 y2 y3 y4 => cond y1 (some false) (cond (decide (y3 < (3 : Int))) (some true) ((impl_GoodPattern n y4).bind fun r7 => some r7))
def impl_goodMatcher (n : Nat) (a0 : (ByteArray) × ((Int) × ((ByteArray) × (Unit)))) : Option (Tup [.bool]) := goRec impl_goodMatcher.step n (.p0 a0)
def impl_goodMatcher.spec : Ctr := ⟨85, [.v (.pair .str (.pair (.int .i64) (.pair .str .unit)))], [.bool], [], none, fun n x => impl_goodMatcher n x.1⟩
theorem impl_goodMatcher.seg_eq : SegEq ty gl impl_goodMatcher.F impl_goodMatcher.md impl_goodMatcher.T impl_goodMatcher.spec impl_goodMatcher.lb impl_goodMatcher.st impl_goodMatcher.step := by
  intro n goto y; cases y <;> kernel_rfl
theorem impl_goodMatcher.text : Text Go.Proofs.Tryz.prog impl_goodMatcher.F impl_goodMatcher.spec := textOf Go.Proofs.Tryz.f85
theorem impl_goodMatcher.ok : CtrOK Go.Proofs.Tryz.prog gl impl_goodMatcher.spec :=
  ctr_okS tabs impl_goodMatcher.text impl_goodMatcher.seg_eq (fun n x => ⟨.p0 x.1, rfl, rfl, rfl⟩) (consC impl_isName.ok (consC impl_printed.ok (consC impl_GoodPattern.ok (nilC))))

/-! loop.example/g00039/impl.GoodMatchers$1 -/
def impl_GoodMatchers_1.T : List Ctr := [impl_goodMatcher.spec]
def impl_GoodMatchers_1.md : List (Nat × List Md) := []
noncomputable def impl_GoodMatchers_1.F : Fun := ⟨(Go.Proofs.Tryz.f84.body).getD .skip, [.v (.pair .str (.pair (.int .i64) (.pair .str .unit)))], [(.tmp 2, .bool)], [], 0, []⟩
inductive impl_GoodMatchers_1.Pt where
  | p0 (a0 : (ByteArray) × ((Int) × ((ByteArray) × (Unit))))
def impl_GoodMatchers_1.lb : impl_GoodMatchers_1.Pt → Nat
  | .p0 _ => 0
def impl_GoodMatchers_1.st : impl_GoodMatchers_1.Pt → St
  | .p0 a0 => enter [.v (.pair .str (.pair (.int .i64) (.pair .str .unit))) a0] 0
def impl_GoodMatchers_1.step (n : Nat) (K : impl_GoodMatchers_1.Pt → Option (Tup [.bool])) : impl_GoodMatchers_1.Pt → Option (Tup [.bool])
  | .p0 a0 => (impl_goodMatcher n a0).bind fun r4 => some (!r4)
def impl_GoodMatchers_1 (n : Nat) (a0 : (ByteArray) × ((Int) × ((ByteArray) × (Unit)))) : Option (Tup [.bool]) := goRec impl_GoodMatchers_1.step n (.p0 a0)
def impl_GoodMatchers_1.spec : Ctr := ⟨84, [.v (.pair .str (.pair (.int .i64) (.pair .str .unit)))], [.bool], [], none, fun n x => impl_GoodMatchers_1 n x.1⟩
theorem impl_GoodMatchers_1.seg_eq : SegEq ty gl impl_GoodMatchers_1.F impl_GoodMatchers_1.md impl_GoodMatchers_1.T impl_GoodMatchers_1.spec impl_GoodMatchers_1.lb impl_GoodMatchers_1.st impl_GoodMatchers_1.step := by
  intro n goto y; cases y <;> kernel_rfl
theorem impl_GoodMatchers_1.text : Text Go.Proofs.Tryz.prog impl_GoodMatchers_1.F impl_GoodMatchers_1.spec := textOf Go.Proofs.Tryz.f84
theorem impl_GoodMatchers_1.ok : CtrOK Go.Proofs.Tryz.prog gl impl_GoodMatchers_1.spec :=
  ctr_okS tabs impl_GoodMatchers_1.text impl_GoodMatchers_1.seg_eq (fun n x => ⟨.p0 x.1, rfl, rfl, rfl⟩) (consC impl_goodMatcher.ok (nilC))

/-! slices.IndexFunc[[]loop.example/g00039/impl.Matcher,loop.example/g00039/impl.Matcher] -/
def slices_IndexFunc_Matcher_impl_GoodMatchers_1.T : List Ctr := [impl_GoodMatchers_1.spec]
def slices_IndexFunc_Matcher_impl_GoodMatchers_1.md : List (Nat × List Md) := []
noncomputable def slices_IndexFunc_Matcher_impl_GoodMatchers_1.F : Fun := ⟨(Go.Proofs.Tryz.f121.body).getD .skip, [.v (.sl false (.pair .str (.pair (.int .i64) (.pair .str .unit)))), .fn 84 []], [(.tmp 4, (.int .i64))], [], 0, [(7, ⟨[0, 1, 7, 8], [], [], false⟩)]⟩
inductive slices_IndexFunc_Matcher_impl_GoodMatchers_1.Pt where
  | p0 (a0 : List ((ByteArray) × ((Int) × ((ByteArray) × (Unit)))))
  | p7 (y1 : List ((ByteArray) × ((Int) × ((ByteArray) × (Unit))))) (y2 : Int) (y3 : Int)
def slices_IndexFunc_Matcher_impl_GoodMatchers_1.lb : slices_IndexFunc_Matcher_impl_GoodMatchers_1.Pt → Nat
  | .p0 _ => 0
  | .p7 _ _ _ => 7
def slices_IndexFunc_Matcher_impl_GoodMatchers_1.st : slices_IndexFunc_Matcher_impl_GoodMatchers_1.Pt → St
  | .p0 a0 => enter [.v (.sl false (.pair .str (.pair (.int .i64) (.pair .str .unit)))) a0, .fn 84 []] 0
  | .p7 y1 y2 y3 => ⟨[(0, .im (.sl false (.pair .str (.pair (.int .i64) (.pair .str .unit)))) y1), (1, .fn 84 []), (7, .im (.int .i64) y2), (8, .im (.int .i64) y3)], [], 0⟩
def slices_IndexFunc_Matcher_impl_GoodMatchers_1.step (n : Nat) (K : slices_IndexFunc_Matcher_impl_GoodMatchers_1.Pt → Option (Tup [(.int .i64)])) : slices_IndexFunc_Matcher_impl_GoodMatchers_1.Pt → Option (Tup [(.int .i64)])
  | .p0 a0 => K (.p7 a0 ((List.length a0) : Int) (0 : Int))
  | .p7 y1 y2 y3 => cond (decide (y3 < y2)) (cond (inB y3 (List.length y1)) ((impl_GoodMatchers_1 n (List.getD y1 (Int.toNat y3) default)).bind fun r6 => cond r6 (some y3) (K (.p7 y1 y2 (IntKind.wrap .i64 (y3 + (1 : Int)))))) (none)) (some (-(1 : Int)))
def slices_IndexFunc_Matcher_impl_GoodMatchers_1 (n : Nat) (a0 : List ((ByteArray) × ((Int) × ((ByteArray) × (Unit))))) : Option (Tup [(.int .i64)]) := goRec slices_IndexFunc_Matcher_impl_GoodMatchers_1.step n (.p0 a0)
def slices_IndexFunc_Matcher_impl_GoodMatchers_1.spec : Ctr := ⟨121, [.v (.sl false (.pair .str (.pair (.int .i64) (.pair .str .unit)))), .fn 84 []], [(.int .i64)], [], none, fun n x => slices_IndexFunc_Matcher_impl_GoodMatchers_1 n x.1⟩
theorem slices_IndexFunc_Matcher_impl_GoodMatchers_1.seg_eq : SegEq ty gl slices_IndexFunc_Matcher_impl_GoodMatchers_1.F slices_IndexFunc_Matcher_impl_GoodMatchers_1.md slices_IndexFunc_Matcher_impl_GoodMatchers_1.T slices_IndexFunc_Matcher_impl_GoodMatchers_1.spec slices_IndexFunc_Matcher_impl_GoodMatchers_1.lb slices_IndexFunc_Matcher_impl_GoodMatchers_1.st slices_IndexFunc_Matcher_impl_GoodMatchers_1.step := by
  intro n goto y; cases y <;> kernel_rfl
theorem slices_IndexFunc_Matcher_impl_GoodMatchers_1.text : Text Go.Proofs.Tryz.prog slices_IndexFunc_Matcher_impl_GoodMatchers_1.F slices_IndexFunc_Matcher_impl_GoodMatchers_1.spec := textOf Go.Proofs.Tryz.f121
theorem slices_IndexFunc_Matcher_impl_GoodMatchers_1.ok : CtrOK Go.Proofs.Tryz.prog gl slices_IndexFunc_Matcher_impl_GoodMatchers_1.spec :=
  ctr_okS tabs slices_IndexFunc_Matcher_impl_GoodMatchers_1.text slices_IndexFunc_Matcher_impl_GoodMatchers_1.seg_eq (fun n x => ⟨.p0 x.1, rfl, rfl, rfl⟩) (consC impl_GoodMatchers_1.ok (nilC))

/-! slices.ContainsFunc[[]loop.example/g00039/impl.Matcher,loop.example/g00039/impl.Matcher] -/
def slices_ContainsFunc_Matcher_impl_GoodMatchers_1.T : List Ctr := [slices_IndexFunc_Matcher_impl_GoodMatchers_1.spec]
def slices_ContainsFunc_Matcher_impl_GoodMatchers_1.md : List (Nat × List Md) := [(121, [.v, .fn])]
noncomputable def slices_ContainsFunc_Matcher_impl_GoodMatchers_1.F : Fun := ⟨(Go.Proofs.Tryz.f83.body).getD .skip, [.v (.sl false (.pair .str (.pair (.int .i64) (.pair .str .unit)))), .fn 84 []], [(.tmp 4, .bool)], [], 0, []⟩
inductive slices_ContainsFunc_Matcher_impl_GoodMatchers_1.Pt where
  | p0 (a0 : List ((ByteArray) × ((Int) × ((ByteArray) × (Unit)))))
def slices_ContainsFunc_Matcher_impl_GoodMatchers_1.lb : slices_ContainsFunc_Matcher_impl_GoodMatchers_1.Pt → Nat
  | .p0 _ => 0
def slices_ContainsFunc_Matcher_impl_GoodMatchers_1.st : slices_ContainsFunc_Matcher_impl_GoodMatchers_1.Pt → St
  | .p0 a0 => enter [.v (.sl false (.pair .str (.pair (.int .i64) (.pair .str .unit)))) a0, .fn 84 []] 0
def slices_ContainsFunc_Matcher_impl_GoodMatchers_1.step (n : Nat) (K : slices_ContainsFunc_Matcher_impl_GoodMatchers_1.Pt → Option (Tup [.bool])) : slices_ContainsFunc_Matcher_impl_GoodMatchers_1.Pt → Option (Tup [.bool])
  | .p0 a0 => (slices_IndexFunc_Matcher_impl_GoodMatchers_1 n a0).bind fun (r4 : Int) => some (decide ((0 : Int) ≤ r4))
def slices_ContainsFunc_Matcher_impl_GoodMatchers_1 (n : Nat) (a0 : List ((ByteArray) × ((Int) × ((ByteArray) × (Unit))))) : Option (Tup [.bool]) := goRec slices_ContainsFunc_Matcher_impl_GoodMatchers_1.step n (.p0 a0)
def slices_ContainsFunc_Matcher_impl_GoodMatchers_1.spec : Ctr := ⟨83, [.v (.sl false (.pair .str (.pair (.int .i64) (.pair .str .unit)))), .fn 84 []], [.bool], [], none, fun n x => slices_ContainsFunc_Matcher_impl_GoodMatchers_1 n x.1⟩
theorem slices_ContainsFunc_Matcher_impl_GoodMatchers_1.seg_eq : SegEq ty gl slices_ContainsFunc_Matcher_impl_GoodMatchers_1.F slices_ContainsFunc_Matcher_impl_GoodMatchers_1.md slices_ContainsFunc_Matcher_impl_GoodMatchers_1.T slices_ContainsFunc_Matcher_impl_GoodMatchers_1.spec slices_ContainsFunc_Matcher_impl_GoodMatchers_1.lb slices_ContainsFunc_Matcher_impl_GoodMatchers_1.st slices_ContainsFunc_Matcher_impl_GoodMatchers_1.step := by
  intro n goto y; cases y <;> kernel_rfl
theorem slices_ContainsFunc_Matcher_impl_GoodMatchers_1.text : Text Go.Proofs.Tryz.prog slices_ContainsFunc_Matcher_impl_GoodMatchers_1.F slices_ContainsFunc_Matcher_impl_GoodMatchers_1.spec := textOf Go.Proofs.Tryz.f83
theorem slices_ContainsFunc_Matcher_impl_GoodMatchers_1.ok : CtrOK Go.Proofs.Tryz.prog gl slices_ContainsFunc_Matcher_impl_GoodMatchers_1.spec :=
  ctr_okS tabs slices_ContainsFunc_Matcher_impl_GoodMatchers_1.text slices_ContainsFunc_Matcher_impl_GoodMatchers_1.seg_eq (fun n x => ⟨.p0 x.1, rfl, rfl, rfl⟩) (consC slices_IndexFunc_Matcher_impl_GoodMatchers_1.ok (nilC))

/-! loop.example/g00039/impl.GoodMatchers -/
def impl_GoodMatchers.T : List Ctr := [impl_GoodMatchers_1.spec, slices_ContainsFunc_Matcher_impl_GoodMatchers_1.spec]
def impl_GoodMatchers.md : List (Nat × List Md) := [(83, [.v, .fn])]
noncomputable def impl_GoodMatchers.F : Fun := ⟨(Go.Proofs.Tryz.f40.body).getD .skip, [.v (.sl false (.pair .str (.pair (.int .i64) (.pair .str .unit))))], [(.tmp 2, .bool)], [], 0, []⟩
inductive impl_GoodMatchers.Pt where
  | p0 (a0 : List ((ByteArray) × ((Int) × ((ByteArray) × (Unit)))))
def impl_GoodMatchers.lb : impl_GoodMatchers.Pt → Nat
  | .p0 _ => 0
def impl_GoodMatchers.st : impl_GoodMatchers.Pt → St
  | .p0 a0 => enter [.v (.sl false (.pair .str (.pair (.int .i64) (.pair .str .unit)))) a0] 0
def impl_GoodMatchers.step (n : Nat) (K : impl_GoodMatchers.Pt → Option (Tup [.bool])) : impl_GoodMatchers.Pt → Option (Tup [.bool])
  | .p0 a0 => cond (decide (((List.length a0) : Int) ≤ (10 : Int))) ((slices_ContainsFunc_Matcher_impl_GoodMatchers_1 n a0).bind fun r4 => some (!r4)) (some false)
def impl_GoodMatchers (n : Nat) (a0 : List ((ByteArray) × ((Int) × ((ByteArray) × (Unit))))) : Option (Tup [.bool]) := goRec impl_GoodMatchers.step n (.p0 a0)
def impl_GoodMatchers.spec : Ctr := ⟨40, [.v (.sl false (.pair .str (.pair (.int .i64) (.pair .str .unit))))], [.bool], [], none, fun n x => impl_GoodMatchers n x.1⟩
theorem impl_GoodMatchers.seg_eq : SegEq ty gl impl_GoodMatchers.F impl_GoodMatchers.md impl_GoodMatchers.T impl_GoodMatchers.spec impl_GoodMatchers.lb impl_GoodMatchers.st impl_GoodMatchers.step := by
  intro n goto y; cases y <;> kernel_rfl
theorem impl_GoodMatchers.text : Text Go.Proofs.Tryz.prog impl_GoodMatchers.F impl_GoodMatchers.spec := textOf Go.Proofs.Tryz.f40
theorem impl_GoodMatchers.ok : CtrOK Go.Proofs.Tryz.prog gl impl_GoodMatchers.spec :=
  ctr_okS tabs impl_GoodMatchers.text impl_GoodMatchers.seg_eq (fun n x => ⟨.p0 x.1, rfl, rfl, rfl⟩) (consC impl_GoodMatchers_1.ok (consC slices_ContainsFunc_Matcher_impl_GoodMatchers_1.ok (nilC)))

/-! loop.example/g00039/impl.TrimSeries$1 -/
def impl_TrimSeries_1.T : List Ctr := [impl_GoodMatchers.spec]
def impl_TrimSeries_1.md : List (Nat × List Md) := []
noncomputable def impl_TrimSeries_1.F : Fun := ⟨(Go.Proofs.Tryz.f39.body).getD .skip, [.v (.pair (.bs (.pair .str (.pair (.int .i64) (.pair .str .unit)))) (.pair (.int .i64) (.pair (.int .i64) .unit)))], [(.tmp 2, .bool)], [], 0, []⟩
inductive impl_TrimSeries_1.Pt where
  | p0 (a0 : (List ((ByteArray) × ((Int) × ((ByteArray) × (Unit))))) × ((Int) × ((Int) × (Unit))))
def impl_TrimSeries_1.lb : impl_TrimSeries_1.Pt → Nat
  | .p0 _ => 0
def impl_TrimSeries_1.st : impl_TrimSeries_1.Pt → St
  | .p0 a0 => enter [.v (.pair (.bs (.pair .str (.pair (.int .i64) (.pair .str .unit)))) (.pair (.int .i64) (.pair (.int .i64) .unit))) a0] 0
def impl_TrimSeries_1.step (n : Nat) (K : impl_TrimSeries_1.Pt → Option (Tup [.bool])) : impl_TrimSeries_1.Pt → Option (Tup [.bool])
  | .p0 a0 => (impl_GoodMatchers n a0.1).bind fun r4 => some (!r4)
def impl_TrimSeries_1 (n : Nat) (a0 : (List ((ByteArray) × ((Int) × ((ByteArray) × (Unit))))) × ((Int) × ((Int) × (Unit)))) : Option (Tup [.bool]) := goRec impl_TrimSeries_1.step n (.p0 a0)
def impl_TrimSeries_1.spec : Ctr := ⟨39, [.v (.pair (.bs (.pair .str (.pair (.int .i64) (.pair .str .unit)))) (.pair (.int .i64) (.pair (.int .i64) .unit)))], [.bool], [], none, fun n x => impl_TrimSeries_1 n x.1⟩
theorem impl_TrimSeries_1.seg_eq : SegEq tyN gl impl_TrimSeries_1.F impl_TrimSeries_1.md impl_TrimSeries_1.T impl_TrimSeries_1.spec impl_TrimSeries_1.lb impl_TrimSeries_1.st impl_TrimSeries_1.step := by
  intro n goto y; cases y <;> kernel_rfl
theorem impl_TrimSeries_1.text : Text Go.Proofs.Tryz.prog impl_TrimSeries_1.F impl_TrimSeries_1.spec := textOf Go.Proofs.Tryz.f39
theorem impl_TrimSeries_1.ok : CtrOK Go.Proofs.Tryz.prog gl impl_TrimSeries_1.spec :=
  ctr_okS tabsN impl_TrimSeries_1.text impl_TrimSeries_1.seg_eq (fun n x => ⟨.p0 x.1, rfl, rfl, rfl⟩) (consC impl_GoodMatchers.ok (nilC))

/-! slices.IndexFunc[[]loop.example/g00039/impl.Need,loop.example/g00039/impl.Need] -/
def slices_IndexFunc_Need_impl_TrimSeries_1.T : List Ctr := [impl_TrimSeries_1.spec]
def slices_IndexFunc_Need_impl_TrimSeries_1.md : List (Nat × List Md) := []
noncomputable def slices_IndexFunc_Need_impl_TrimSeries_1.F : Fun := ⟨(Go.Proofs.Tryz.f82.body).getD .skip, [.v (.sl false (.pair (.bs (.pair .str (.pair (.int .i64) (.pair .str .unit)))) (.pair (.int .i64) (.pair (.int .i64) .unit)))), .fn 39 []], [(.tmp 4, (.int .i64))], [], 0, [(7, ⟨[0, 1, 7, 8], [], [], false⟩)]⟩
inductive slices_IndexFunc_Need_impl_TrimSeries_1.Pt where
  | p0 (a0 : List ((List ((ByteArray) × ((Int) × ((ByteArray) × (Unit))))) × ((Int) × ((Int) × (Unit)))))
  | p7 (y1 : List ((List ((ByteArray) × ((Int) × ((ByteArray) × (Unit))))) × ((Int) × ((Int) × (Unit))))) (y2 : Int) (y3 : Int)
def slices_IndexFunc_Need_impl_TrimSeries_1.lb : slices_IndexFunc_Need_impl_TrimSeries_1.Pt → Nat
  | .p0 _ => 0
  | .p7 _ _ _ => 7
def slices_IndexFunc_Need_impl_TrimSeries_1.st : slices_IndexFunc_Need_impl_TrimSeries_1.Pt → St
  | .p0 a0 => enter [.v (.sl false (.pair (.bs (.pair .str (.pair (.int .i64) (.pair .str .unit)))) (.pair (.int .i64) (.pair (.int .i64) .unit)))) a0, .fn 39 []] 0
  | .p7 y1 y2 y3 => ⟨[(0, .im (.sl false (.pair (.bs (.pair .str (.pair (.int .i64) (.pair .str .unit)))) (.pair (.int .i64) (.pair (.int .i64) .unit)))) y1), (1, .fn 39 []), (7, .im (.int .i64) y2), (8, .im (.int .i64) y3)], [], 0⟩
def slices_IndexFunc_Need_impl_TrimSeries_1.step (n : Nat) (K : slices_IndexFunc_Need_impl_TrimSeries_1.Pt → Option (Tup [(.int .i64)])) : slices_IndexFunc_Need_impl_TrimSeries_1.Pt → Option (Tup [(.int .i64)])
  | .p0 a0 => K (.p7 a0 ((List.length a0) : Int) (0 : Int))
  | .p7 y1 y2 y3 => cond (decide (y3 < y2)) (cond (inB y3 (List.length y1)) ((impl_TrimSeries_1 n ((List.getD y1 (Int.toNat y3) default).1, (List.getD y1 (Int.toNat y3) default).2)).bind fun r6 => cond r6 (some y3) (K (.p7 y1 y2 (IntKind.wrap .i64 (y3 + (1 : Int)))))) (none)) (some (-(1 : Int)))
def slices_IndexFunc_Need_impl_TrimSeries_1 (n : Nat) (a0 : List ((List ((ByteArray) × ((Int) × ((ByteArray) × (Unit))))) × ((Int) × ((Int) × (Unit))))) : Option (Tup [(.int .i64)]) := goRec slices_IndexFunc_Need_impl_TrimSeries_1.step n (.p0 a0)
def slices_IndexFunc_Need_impl_TrimSeries_1.spec : Ctr := ⟨82, [.v (.sl false (.pair (.bs (.pair .str (.pair (.int .i64) (.pair .str .unit)))) (.pair (.int .i64) (.pair (.int .i64) .unit)))), .fn 39 []], [(.int .i64)], [], none, fun n x => slices_IndexFunc_Need_impl_TrimSeries_1 n x.1⟩
theorem slices_IndexFunc_Need_impl_TrimSeries_1.seg_eq : SegEq tyN gl slices_IndexFunc_Need_impl_TrimSeries_1.F slices_IndexFunc_Need_impl_TrimSeries_1.md slices_IndexFunc_Need_impl_TrimSeries_1.T slices_IndexFunc_Need_impl_TrimSeries_1.spec slices_IndexFunc_Need_impl_TrimSeries_1.lb slices_IndexFunc_Need_impl_TrimSeries_1.st slices_IndexFunc_Need_impl_TrimSeries_1.step := by
  intro n goto y; cases y <;> kernel_rfl
theorem slices_IndexFunc_Need_impl_TrimSeries_1.text : Text Go.Proofs.Tryz.prog slices_IndexFunc_Need_impl_TrimSeries_1.F slices_IndexFunc_Need_impl_TrimSeries_1.spec := textOf Go.Proofs.Tryz.f82
theorem slices_IndexFunc_Need_impl_TrimSeries_1.ok : CtrOK Go.Proofs.Tryz.prog gl slices_IndexFunc_Need_impl_TrimSeries_1.spec :=
  ctr_okS tabsN slices_IndexFunc_Need_impl_TrimSeries_1.text slices_IndexFunc_Need_impl_TrimSeries_1.seg_eq (fun n x => ⟨.p0 x.1, rfl, rfl, rfl⟩) (consC impl_TrimSeries_1.ok (nilC))

/-! slices.ContainsFunc[[]loop.example/g00039/impl.Need,loop.example/g00039/impl.Need] -/
def slices_ContainsFunc_Need_impl_TrimSeries_1.T : List Ctr := [slices_IndexFunc_Need_impl_TrimSeries_1.spec]
def slices_ContainsFunc_Need_impl_TrimSeries_1.md : List (Nat × List Md) := [(82, [.v, .fn])]
noncomputable def slices_ContainsFunc_Need_impl_TrimSeries_1.F : Fun := ⟨(Go.Proofs.Tryz.f38.body).getD .skip, [.v (.sl false (.pair (.bs (.pair .str (.pair (.int .i64) (.pair .str .unit)))) (.pair (.int .i64) (.pair (.int .i64) .unit)))), .fn 39 []], [(.tmp 4, .bool)], [], 0, []⟩
inductive slices_ContainsFunc_Need_impl_TrimSeries_1.Pt where
  | p0 (a0 : List ((List ((ByteArray) × ((Int) × ((ByteArray) × (Unit))))) × ((Int) × ((Int) × (Unit)))))
def slices_ContainsFunc_Need_impl_TrimSeries_1.lb : slices_ContainsFunc_Need_impl_TrimSeries_1.Pt → Nat
  | .p0 _ => 0
def slices_ContainsFunc_Need_impl_TrimSeries_1.st : slices_ContainsFunc_Need_impl_TrimSeries_1.Pt → St
  | .p0 a0 => enter [.v (.sl false (.pair (.bs (.pair .str (.pair (.int .i64) (.pair .str .unit)))) (.pair (.int .i64) (.pair (.int .i64) .unit)))) a0, .fn 39 []] 0
def slices_ContainsFunc_Need_impl_TrimSeries_1.step (n : Nat) (K : slices_ContainsFunc_Need_impl_TrimSeries_1.Pt → Option (Tup [.bool])) : slices_ContainsFunc_Need_impl_TrimSeries_1.Pt → Option (Tup [.bool])
  | .p0 a0 => (slices_IndexFunc_Need_impl_TrimSeries_1 n a0).bind fun (r4 : Int) => some (decide ((0 : Int) ≤ r4))
def slices_ContainsFunc_Need_impl_TrimSeries_1 (n : Nat) (a0 : List ((List ((ByteArray) × ((Int) × ((ByteArray) × (Unit))))) × ((Int) × ((Int) × (Unit))))) : Option (Tup [.bool]) := goRec slices_ContainsFunc_Need_impl_TrimSeries_1.step n (.p0 a0)
def slices_ContainsFunc_Need_impl_TrimSeries_1.spec : Ctr := ⟨38, [.v (.sl false (.pair (.bs (.pair .str (.pair (.int .i64) (.pair .str .unit)))) (.pair (.int .i64) (.pair (.int .i64) .unit)))), .fn 39 []], [.bool], [], none, fun n x => slices_ContainsFunc_Need_impl_TrimSeries_1 n x.1⟩
theorem slices_ContainsFunc_Need_impl_TrimSeries_1.seg_eq : SegEq tyN gl slices_ContainsFunc_Need_impl_TrimSeries_1.F slices_ContainsFunc_Need_impl_TrimSeries_1.md slices_ContainsFunc_Need_impl_TrimSeries_1.T slices_ContainsFunc_Need_impl_TrimSeries_1.spec slices_ContainsFunc_Need_impl_TrimSeries_1.lb slices_ContainsFunc_Need_impl_TrimSeries_1.st slices_ContainsFunc_Need_impl_TrimSeries_1.step := by
  intro n goto y; cases y <;> kernel_rfl
theorem slices_ContainsFunc_Need_impl_TrimSeries_1.text : Text Go.Proofs.Tryz.prog slices_ContainsFunc_Need_impl_TrimSeries_1.F slices_ContainsFunc_Need_impl_TrimSeries_1.spec := textOf Go.Proofs.Tryz.f38
theorem slices_ContainsFunc_Need_impl_TrimSeries_1.ok : CtrOK Go.Proofs.Tryz.prog gl slices_ContainsFunc_Need_impl_TrimSeries_1.spec :=
  ctr_okS tabsN slices_ContainsFunc_Need_impl_TrimSeries_1.text slices_ContainsFunc_Need_impl_TrimSeries_1.seg_eq (fun n x => ⟨.p0 x.1, rfl, rfl, rfl⟩) (consC slices_IndexFunc_Need_impl_TrimSeries_1.ok (nilC))

/-! loop.example/g00039/impl.parts -/
def impl_parts.T : List Ctr := []
def impl_parts.md : List (Nat × List Md) := []
noncomputable def impl_parts.F : Fun := ⟨(Go.Proofs.Tryz.f150.body).getD .skip, [.v (.sl false (.pair (.int .u8) (.pair .bool (.pair .bool .unit)))), .v .str], [(.tmp 4, (.sl false .str)), (.tmp 5, .bool)], [], 0, [(9, ⟨[0, 1, 6, 7], [(6, (.sl false .bool))], [], false⟩), (23, ⟨[0, 1, 6, 7, 8], [(6, (.sl false .bool))], [], false⟩), (60, ⟨[1, 6, 9, 10, 133, 134, 135], [(6, (.sl false .bool)), (9, .str), (133, (.pair (.int .u8) (.pair .bool (.pair .bool .unit))))], [], false⟩), (83, ⟨[1, 6, 9, 10, 11, 13, 133, 134, 135], [(6, (.sl false .bool)), (9, .str), (133, (.pair (.int .u8) (.pair .bool (.pair .bool .unit))))], [], false⟩)]⟩
inductive impl_parts.Pt where
  | p0 (a0 : List ((Int) × ((Bool) × ((Bool) × (Unit))))) (a1 : ByteArray)
  | p9 (y1 : List ((Int) × ((Bool) × ((Bool) × (Unit))))) (y2 : ByteArray) (y3 : Int) (y4 : List (List (Bool)))
  | p23 (y1 : List ((Int) × ((Bool) × ((Bool) × (Unit))))) (y2 : ByteArray) (y3 : Int) (y4 : Int) (y5 : List (List (Bool)))
  | p60 (y1 : ByteArray) (y2 : Int) (y3 : List ((Int) × ((Bool) × ((Bool) × (Unit))))) (y4 : Int) (y5 : Int) (y6 : List (List (Bool))) (y7 : List (ByteArray))
  | p83 (y1 : ByteArray) (y2 : Int) (y3 : Int) (y4 : Int) (y5 : List ((Int) × ((Bool) × ((Bool) × (Unit))))) (y6 : Int) (y7 : Int) (y8 : List (List (Bool))) (y9 : List (ByteArray))
def impl_parts.lb : impl_parts.Pt → Nat
  | .p0 _ _ => 0
  | .p9 _ _ _ _ => 9
  | .p23 _ _ _ _ _ => 23
  | .p60 _ _ _ _ _ _ _ => 60
  | .p83 _ _ _ _ _ _ _ _ _ => 83
def impl_parts.st : impl_parts.Pt → St
  | .p0 a0 a1 => enter [.v (.sl false (.pair (.int .u8) (.pair .bool (.pair .bool .unit)))) a0, .v .str a1] 0
  | .p9 y1 y2 y3 y4 => ⟨[(0, .im (.sl false (.pair (.int .u8) (.pair .bool (.pair .bool .unit)))) y1), (1, .im .str y2), (6, .hs 0 [] none 0), (7, .im (.int .i64) y3)], [(0, .arr false (.sl false .bool) y4 0)], 1⟩
  | .p23 y1 y2 y3 y4 y5 => ⟨[(0, .im (.sl false (.pair (.int .u8) (.pair .bool (.pair .bool .unit)))) y1), (1, .im .str y2), (6, .hs 0 [] none 0), (7, .im (.int .i64) y3), (8, .im (.int .i64) y4)], [(0, .arr false (.sl false .bool) y5 0)], 1⟩
  | .p60 y1 y2 y3 y4 y5 y6 y7 => ⟨[(1, .im .str y1), (6, .hs 0 [] none 0), (9, .hs 1 [] none 0), (10, .im (.int .i64) y2), (133, .im (.sl false (.pair (.int .u8) (.pair .bool (.pair .bool .unit)))) y3), (134, .im (.int .i64) y4), (135, .im (.int .i64) y5)], [(0, .arr false (.sl false .bool) y6 0), (1, .arr true .str y7 0)], 2⟩
  | .p83 y1 y2 y3 y4 y5 y6 y7 y8 y9 => ⟨[(1, .im .str y1), (6, .hs 0 [] none 0), (9, .hs 1 [] none 0), (10, .im (.int .i64) y2), (11, .im (.int .i64) y3), (13, .im (.int .i64) y4), (133, .im (.sl false (.pair (.int .u8) (.pair .bool (.pair .bool .unit)))) y5), (134, .im (.int .i64) y6), (135, .im (.int .i64) y7)], [(0, .arr false (.sl false .bool) y8 0), (1, .arr true .str y9 0)], 2⟩
def impl_parts.step (n : Nat) (K : impl_parts.Pt → Option (Tup [(.sl false .str), .bool])) : impl_parts.Pt → Option (Tup [(.sl false .str), .bool])
  | .p0 a0 a1 => cond (inC (IntKind.wrap .i64 (((List.length a0) : Int) + (1 : Int))) (IntKind.wrap .i64 (((List.length a0) : Int) + (1 : Int))) 1000000000) (K (.p9 a0 a1 ((List.length a0) : Int) (List.replicate (Int.toNat (IntKind.wrap .i64 (((List.length a0) : Int) + (1 : Int)))) (default : List (Bool))))) (none)
  | .p9 y1 y2 y3 y4 => cond (decide ((0 : Int) ≤ y3)) (cond (inC (IntKind.wrap .i64 (((ByteArray.size y2) : Int) + (1 : Int))) (IntKind.wrap .i64 (((ByteArray.size y2) : Int) + (1 : Int))) 1000000000) (cond (inB y3 (List.length y4)) (K (.p23 y1 y2 y3 ((ByteArray.size y2) : Int) (List.set y4 (0 + (Int.toNat y3)) (List.replicate (Int.toNat (IntKind.wrap .i64 (((ByteArray.size y2) : Int) + (1 : Int)))) (default : Bool))))) (none)) (none)) (cond (inB (0 : Int) (List.length y4)) (cond (inB (0 : Int) (List.length (List.getD y4 (0 + (Int.toNat (0 : Int))) default))) (cond (!(List.getD (List.getD y4 (0 + (Int.toNat (0 : Int))) default) (0 + (Int.toNat (0 : Int))) default)) (some (([] : List (ByteArray)), false)) (K (.p60 y2 (0 : Int) y1 ((List.length y1) : Int) (0 : Int) y4 ([] : List (ByteArray))))) (none)) (none))
  | .p23 y1 y2 y3 y4 y5 => cond (decide ((0 : Int) ≤ y4)) (cond (decide (y3 = ((List.length y1) : Int))) (cond (inB y3 (List.length y5)) (cond (inB y4 (List.length (List.getD y5 (0 + (Int.toNat y3)) default))) (K (.p23 y1 y2 y3 (IntKind.wrap .i64 (y4 - (1 : Int))) (List.set y5 (0 + (Int.toNat y3)) (List.set (List.getD y5 (0 + (Int.toNat y3)) default) (0 + (Int.toNat y4)) (decide (y4 = ((ByteArray.size y2) : Int))))))) (none)) (none)) (cond (inB y3 (List.length y1)) (cond (List.getD y1 (Int.toNat y3) default).2.2.1 (cond (inB y3 (List.length y5)) (cond (inB (IntKind.wrap .i64 (y3 + (1 : Int))) (List.length y5)) (cond (inB y4 (List.length (List.getD y5 (0 + (Int.toNat (IntKind.wrap .i64 (y3 + (1 : Int))))) default))) (cond (List.getD (List.getD y5 (0 + (Int.toNat (IntKind.wrap .i64 (y3 + (1 : Int))))) default) (0 + (Int.toNat y4)) default) (cond (inB y4 (List.length (List.getD y5 (0 + (Int.toNat y3)) default))) (K (.p23 y1 y2 y3 (IntKind.wrap .i64 (y4 - (1 : Int))) (List.set y5 (0 + (Int.toNat y3)) (List.set (List.getD y5 (0 + (Int.toNat y3)) default) (0 + (Int.toNat y4)) true)))) (none)) (cond (decide (y4 < ((ByteArray.size y2) : Int))) (cond (inB y3 (List.length y5)) (cond (inB (IntKind.wrap .i64 (y4 + (1 : Int))) (List.length (List.getD y5 (0 + (Int.toNat y3)) default))) (cond (inB y4 (List.length (List.getD y5 (0 + (Int.toNat y3)) default))) (K (.p23 y1 y2 y3 (IntKind.wrap .i64 (y4 - (1 : Int))) (List.set y5 (0 + (Int.toNat y3)) (List.set (List.getD y5 (0 + (Int.toNat y3)) default) (0 + (Int.toNat y4)) (List.getD (List.getD y5 (0 + (Int.toNat y3)) default) (0 + (Int.toNat (IntKind.wrap .i64 (y4 + (1 : Int))))) default))))) (none)) (none)) (none)) (cond (inB y4 (List.length (List.getD y5 (0 + (Int.toNat y3)) default))) (K (.p23 y1 y2 y3 (IntKind.wrap .i64 (y4 - (1 : Int))) (List.set y5 (0 + (Int.toNat y3)) (List.set (List.getD y5 (0 + (Int.toNat y3)) default) (0 + (Int.toNat y4)) false)))) (none)))) (none)) (none)) (none)) (cond (inB y3 (List.length y5)) (cond (decide (y4 < ((ByteArray.size y2) : Int))) (cond (inB y3 (List.length y1)) (cond (List.getD y1 (Int.toNat y3) default).2.1 (cond (inB (IntKind.wrap .i64 (y3 + (1 : Int))) (List.length y5)) (cond (inB (IntKind.wrap .i64 (y4 + (1 : Int))) (List.length (List.getD y5 (0 + (Int.toNat (IntKind.wrap .i64 (y3 + (1 : Int))))) default))) (cond (inB y4 (List.length (List.getD y5 (0 + (Int.toNat y3)) default))) (K (.p23 y1 y2 y3 (IntKind.wrap .i64 (y4 - (1 : Int))) (List.set y5 (0 + (Int.toNat y3)) (List.set (List.getD y5 (0 + (Int.toNat y3)) default) (0 + (Int.toNat y4)) (List.getD (List.getD y5 (0 + (Int.toNat (IntKind.wrap .i64 (y3 + (1 : Int))))) default) (0 + (Int.toNat (IntKind.wrap .i64 (y4 + (1 : Int))))) default))))) (none)) (none)) (none)) (cond (inB y3 (List.length y1)) (cond (inB y4 (ByteArray.size y2)) (cond (decide ((List.getD y1 (Int.toNat y3) default).1 = (bt y2 y4))) (cond (inB (IntKind.wrap .i64 (y3 + (1 : Int))) (List.length y5)) (cond (inB (IntKind.wrap .i64 (y4 + (1 : Int))) (List.length (List.getD y5 (0 + (Int.toNat (IntKind.wrap .i64 (y3 + (1 : Int))))) default))) (cond (inB y4 (List.length (List.getD y5 (0 + (Int.toNat y3)) default))) (K (.p23 y1 y2 y3 (IntKind.wrap .i64 (y4 - (1 : Int))) (List.set y5 (0 + (Int.toNat y3)) (List.set (List.getD y5 (0 + (Int.toNat y3)) default) (0 + (Int.toNat y4)) (List.getD (List.getD y5 (0 + (Int.toNat (IntKind.wrap .i64 (y3 + (1 : Int))))) default) (0 + (Int.toNat (IntKind.wrap .i64 (y4 + (1 : Int))))) default))))) (none)) (none)) (none)) (cond (inB y4 (List.length (List.getD y5 (0 + (Int.toNat y3)) default))) (K (.p23 y1 y2 y3 (IntKind.wrap .i64 (y4 - (1 : Int))) (List.set y5 (0 + (Int.toNat y3)) (List.set (List.getD y5 (0 + (Int.toNat y3)) default) (0 + (Int.toNat y4)) false)))) (none))) (none)) (none))) (none)) (cond (inB y4 (List.length (List.getD y5 (0 + (Int.toNat y3)) default))) (K (.p23 y1 y2 y3 (IntKind.wrap .i64 (y4 - (1 : Int))) (List.set y5 (0 + (Int.toNat y3)) (List.set (List.getD y5 (0 + (Int.toNat y3)) default) (0 + (Int.toNat y4)) false)))) (none))) (none))) (none))) (K (.p9 y1 y2 (IntKind.wrap .i64 (y3 - (1 : Int))) y5))
  | .p60 y1 y2 y3 y4 y5 y6 y7 => cond (decide (y5 < y4)) (cond (inB y5 (List.length y3)) (cond (!(List.getD y3 (Int.toNat y5) default).2.2.1) (K (.p60 y1 (IntKind.wrap .i64 (y2 + (1 : Int))) y3 y4 (IntKind.wrap .i64 (y5 + (1 : Int))) y6 y7)) (K (.p83 y1 y2 y5 y2 y3 y4 y5 y6 y7))) (none)) (some (y7, true))
  | .p83 y1 y2 y3 y4 y5 y6 y7 y8 y9 => cond (inB (IntKind.wrap .i64 (y3 + (1 : Int))) (List.length y8)) (cond (inB y4 (List.length (List.getD y8 (0 + (Int.toNat (IntKind.wrap .i64 (y3 + (1 : Int))))) default))) (cond (!(List.getD (List.getD y8 (0 + (Int.toNat (IntKind.wrap .i64 (y3 + (1 : Int))))) default) (0 + (Int.toNat y4)) default)) (K (.p83 y1 y2 y3 (IntKind.wrap .i64 (y4 + (1 : Int))) y5 y6 y7 y8 y9)) (cond (inC y2 y4 (ByteArray.size y1)) (cond (room ((List.length y9) + (List.length [(ByteArray.extract y1 (Int.toNat y2) (Int.toNat y4))]))) (K (.p60 y1 y4 y5 y6 (IntKind.wrap .i64 (y7 + (1 : Int))) y8 (y9 ++ [(ByteArray.extract y1 (Int.toNat y2) (Int.toNat y4))]))) (none)) (none))) (none)) (none)
def impl_parts (n : Nat) (a0 : List ((Int) × ((Bool) × ((Bool) × (Unit))))) (a1 : ByteArray) : Option (Tup [(.sl false .str), .bool]) := goRec impl_parts.step n (.p0 a0 a1)
def impl_parts.spec : Ctr := ⟨150, [.v (.sl false (.pair (.int .u8) (.pair .bool (.pair .bool .unit)))), .v .str], [(.sl false .str), .bool], [], none, fun n x => impl_parts n x.1 x.2.1⟩
theorem impl_parts.seg_eq : SegEq ty gl impl_parts.F impl_parts.md impl_parts.T impl_parts.spec impl_parts.lb impl_parts.st impl_parts.step := by
  intro n goto y; cases y <;> kernel_rfl
theorem impl_parts.text : Text Go.Proofs.Tryz.prog impl_parts.F impl_parts.spec := textOf Go.Proofs.Tryz.f150
theorem impl_parts.ok : CtrOK Go.Proofs.Tryz.prog gl impl_parts.spec :=
  ctr_okS tabs impl_parts.text impl_parts.seg_eq (fun n x => ⟨.p0 x.1 x.2.1, rfl, rfl, rfl⟩) (nilC)

/-! loop.example/g00039/impl.PatternParts -/
def impl_PatternParts.T : List Ctr := [impl_alternatives.spec, impl_parts.spec]
def impl_PatternParts.md : List (Nat × List Md) := []
noncomputable def impl_PatternParts.F : Fun := ⟨(Go.Proofs.Tryz.f143.body).getD .skip, [.v .str, .v .str], [(.tmp 4, (.sl false .str)), (.tmp 5, .bool)], [], 0, [(6, ⟨[1, 6, 23], [(6, (.sl false (.pair (.int .u8) (.pair .bool (.pair .bool .unit)))))], [], false⟩), (17, ⟨[1, 24, 25, 26], [(24, (.sl false (.pair (.int .u8) (.pair .bool (.pair .bool .unit)))))], [], false⟩)]⟩
inductive impl_PatternParts.Pt where
  | p0 (a0 : ByteArray) (a1 : ByteArray)
  | p6 (y1 : ByteArray) (y2 : Bool) (y3 : List (List ((Int) × ((Bool) × ((Bool) × (Unit))))))
  | p17 (y1 : ByteArray) (y2 : Int) (y3 : Int) (y4 : List (List ((Int) × ((Bool) × ((Bool) × (Unit))))))
def impl_PatternParts.lb : impl_PatternParts.Pt → Nat
  | .p0 _ _ => 0
  | .p6 _ _ _ => 6
  | .p17 _ _ _ _ => 17
def impl_PatternParts.st : impl_PatternParts.Pt → St
  | .p0 a0 a1 => enter [.v .str a0, .v .str a1] 0
  | .p6 y1 y2 y3 => ⟨[(1, .im .str y1), (6, .hs 0 [] none 0), (23, .im .bool y2)], [(0, .arr false (.sl false (.pair (.int .u8) (.pair .bool (.pair .bool .unit)))) y3 0)], 1⟩
  | .p17 y1 y2 y3 y4 => ⟨[(1, .im .str y1), (24, .hs 0 [] none 0), (25, .im (.int .i64) y2), (26, .im (.int .i64) y3)], [(0, .arr false (.sl false (.pair (.int .u8) (.pair .bool (.pair .bool .unit)))) y4 0)], 1⟩
def impl_PatternParts.step (n : Nat) (K : impl_PatternParts.Pt → Option (Tup [(.sl false .str), .bool])) : impl_PatternParts.Pt → Option (Tup [(.sl false .str), .bool])
  | .p0 a0 a1 => (impl_alternatives n a0).bind fun r5 => cond (!r5.2) (K (.p6 a1 true r5.1)) (K (.p6 a1 (decide ((100 : Int) < ((ByteArray.size a1) : Int))) r5.1))
  | .p6 y1 y2 y3 => cond y2 (some (([] : List (ByteArray)), false)) (K (.p17 y1 ((List.length y3) : Int) (0 : Int) y3))
  | .p17 y1 y2 y3 y4 => cond (decide (y3 < y2)) (cond (inB y3 (List.length y4)) ((impl_parts n (List.getD y4 (0 + (Int.toNat y3)) default) y1).bind fun r7 => cond r7.2 (some (r7.1, true)) (K (.p17 y1 y2 (IntKind.wrap .i64 (y3 + (1 : Int))) y4))) (none)) (some (([] : List (ByteArray)), false))
def impl_PatternParts (n : Nat) (a0 : ByteArray) (a1 : ByteArray) : Option (Tup [(.sl false .str), .bool]) := goRec impl_PatternParts.step n (.p0 a0 a1)
def impl_PatternParts.spec : Ctr := ⟨143, [.v .str, .v .str], [(.sl false .str), .bool], [], none, fun n x => impl_PatternParts n x.1 x.2.1⟩
theorem impl_PatternParts.seg_eq : SegEq ty gl impl_PatternParts.F impl_PatternParts.md impl_PatternParts.T impl_PatternParts.spec impl_PatternParts.lb impl_PatternParts.st impl_PatternParts.step := by
  intro n goto y; cases y <;> kernel_rfl
theorem impl_PatternParts.text : Text Go.Proofs.Tryz.prog impl_PatternParts.F impl_PatternParts.spec := textOf Go.Proofs.Tryz.f143
theorem impl_PatternParts.ok : CtrOK Go.Proofs.Tryz.prog gl impl_PatternParts.spec :=
  ctr_okS tabs impl_PatternParts.text impl_PatternParts.seg_eq (fun n x => ⟨.p0 x.1 x.2.1, rfl, rfl, rfl⟩) (consC impl_alternatives.ok (consC impl_parts.ok (nilC)))

/-! loop.example/g00039/impl.PatternFits -/
def impl_PatternFits.T : List Ctr := [impl_PatternParts.spec]
def impl_PatternFits.md : List (Nat × List Md) := []
noncomputable def impl_PatternFits.F : Fun := ⟨(Go.Proofs.Tryz.f124.body).getD .skip, [.v .str, .v .str], [(.tmp 4, .bool)], [], 0, []⟩
inductive impl_PatternFits.Pt where
  | p0 (a0 : ByteArray) (a1 : ByteArray)
def impl_PatternFits.lb : impl_PatternFits.Pt → Nat
  | .p0 _ _ => 0
def impl_PatternFits.st : impl_PatternFits.Pt → St
  | .p0 a0 a1 => enter [.v .str a0, .v .str a1] 0
def impl_PatternFits.step (n : Nat) (K : impl_PatternFits.Pt → Option (Tup [.bool])) : impl_PatternFits.Pt → Option (Tup [.bool])
  | .p0 a0 a1 => (impl_PatternParts n a0 a1).bind fun r5 => some r5.2
def impl_PatternFits (n : Nat) (a0 : ByteArray) (a1 : ByteArray) : Option (Tup [.bool]) := goRec impl_PatternFits.step n (.p0 a0 a1)
def impl_PatternFits.spec : Ctr := ⟨124, [.v .str, .v .str], [.bool], [], none, fun n x => impl_PatternFits n x.1 x.2.1⟩
theorem impl_PatternFits.seg_eq : SegEq ty gl impl_PatternFits.F impl_PatternFits.md impl_PatternFits.T impl_PatternFits.spec impl_PatternFits.lb impl_PatternFits.st impl_PatternFits.step := by
  intro n goto y; cases y <;> kernel_rfl
theorem impl_PatternFits.text : Text Go.Proofs.Tryz.prog impl_PatternFits.F impl_PatternFits.spec := textOf Go.Proofs.Tryz.f124
theorem impl_PatternFits.ok : CtrOK Go.Proofs.Tryz.prog gl impl_PatternFits.spec :=
  ctr_okS tabs impl_PatternFits.text impl_PatternFits.seg_eq (fun n x => ⟨.p0 x.1 x.2.1, rfl, rfl, rfl⟩) (consC impl_PatternParts.ok (nilC))

/-! loop.example/g00039/impl.fitsOne -/
def impl_fitsOne.T : List Ctr := [impl_valueOf.spec, impl_PatternFits.spec]
def impl_fitsOne.md : List (Nat × List Md) := []
noncomputable def impl_fitsOne.F : Fun := ⟨(Go.Proofs.Tryz.f86.body).getD .skip, [.v (.pair .str (.pair (.int .i64) (.pair .str .unit))), .v (.sl false (.pair .str (.pair .str .unit)))], [(.tmp 4, .bool)], [], 0, []⟩
inductive impl_fitsOne.Pt where
  | p0 (a0 : (ByteArray) × ((Int) × ((ByteArray) × (Unit)))) (a1 : List ((ByteArray) × ((ByteArray) × (Unit))))
def impl_fitsOne.lb : impl_fitsOne.Pt → Nat
  | .p0 _ _ => 0
def impl_fitsOne.st : impl_fitsOne.Pt → St
  | .p0 a0 a1 => enter [.v (.pair .str (.pair (.int .i64) (.pair .str .unit))) a0, .v (.sl false (.pair .str (.pair .str .unit))) a1] 0
def impl_fitsOne.step (n : Nat) (K : impl_fitsOne.Pt → Option (Tup [.bool])) : impl_fitsOne.Pt → Option (Tup [.bool])
  | .p0 a0 a1 => (impl_valueOf n a1 a0.1).bind fun r5 => cond (decide (a0.2.1 = (1 : Int))) (some (seq r5 a0.2.2.1)) (cond (decide (a0.2.1 = (2 : Int))) (some (!(seq r5 a0.2.2.1))) (cond (decide (a0.2.1 = (3 : Int))) ((impl_PatternFits n a0.2.2.1 r5).bind fun r6 => some r6) ((impl_PatternFits n a0.2.2.1 r5).bind fun r6 => some (!r6))))
def impl_fitsOne (n : Nat) (a0 : (ByteArray) × ((Int) × ((ByteArray) × (Unit)))) (a1 : List ((ByteArray) × ((ByteArray) × (Unit)))) : Option (Tup [.bool]) := goRec impl_fitsOne.step n (.p0 a0 a1)
def impl_fitsOne.spec : Ctr := ⟨86, [.v (.pair .str (.pair (.int .i64) (.pair .str .unit))), .v (.sl false (.pair .str (.pair .str .unit)))], [.bool], [], none, fun n x => impl_fitsOne n x.1 x.2.1⟩
theorem impl_fitsOne.seg_eq : SegEq ty gl impl_fitsOne.F impl_fitsOne.md impl_fitsOne.T impl_fitsOne.spec impl_fitsOne.lb impl_fitsOne.st impl_fitsOne.step := by
  intro n goto y; cases y <;> kernel_rfl
theorem impl_fitsOne.text : Text Go.Proofs.Tryz.prog impl_fitsOne.F impl_fitsOne.spec := textOf Go.Proofs.Tryz.f86
theorem impl_fitsOne.ok : CtrOK Go.Proofs.Tryz.prog gl impl_fitsOne.spec :=
  ctr_okS tabs impl_fitsOne.text impl_fitsOne.seg_eq (fun n x => ⟨.p0 x.1 x.2.1, rfl, rfl, rfl⟩) (consC impl_valueOf.ok (consC impl_PatternFits.ok (nilC)))

/-! loop.example/g00039/impl.fits -/
def impl_fits.T : List Ctr := [impl_fitsOne.spec]
def impl_fits.md : List (Nat × List Md) := []
noncomputable def impl_fits.F : Fun := ⟨(Go.Proofs.Tryz.f43.body).getD .skip, [.v (.sl false (.pair .str (.pair (.int .i64) (.pair .str .unit)))), .v (.sl false (.pair .str (.pair .str .unit)))], [(.tmp 4, .bool)], [], 0, [(7, ⟨[1, 7, 8, 9], [(7, (.pair .str (.pair (.int .i64) (.pair .str .unit))))], [], false⟩)]⟩
inductive impl_fits.Pt where
  | p0 (a0 : List ((ByteArray) × ((Int) × ((ByteArray) × (Unit))))) (a1 : List ((ByteArray) × ((ByteArray) × (Unit))))
  | p7 (y1 : List ((ByteArray) × ((ByteArray) × (Unit)))) (y2 : List ((ByteArray) × ((Int) × ((ByteArray) × (Unit))))) (y3 : Int) (y4 : Int)
def impl_fits.lb : impl_fits.Pt → Nat
  | .p0 _ _ => 0
  | .p7 _ _ _ _ => 7
def impl_fits.st : impl_fits.Pt → St
  | .p0 a0 a1 => enter [.v (.sl false (.pair .str (.pair (.int .i64) (.pair .str .unit)))) a0, .v (.sl false (.pair .str (.pair .str .unit))) a1] 0
  | .p7 y1 y2 y3 y4 => ⟨[(1, .im (.sl false (.pair .str (.pair .str .unit))) y1), (7, .im (.sl false (.pair .str (.pair (.int .i64) (.pair .str .unit)))) y2), (8, .im (.int .i64) y3), (9, .im (.int .i64) y4)], [], 0⟩
def impl_fits.step (n : Nat) (K : impl_fits.Pt → Option (Tup [.bool])) : impl_fits.Pt → Option (Tup [.bool])
  | .p0 a0 a1 => K (.p7 a1 a0 ((List.length a0) : Int) (0 : Int))
  | .p7 y1 y2 y3 y4 => cond (decide (y4 < y3)) (cond (inB y4 (List.length y2)) ((impl_fitsOne n (List.getD y2 (Int.toNat y4) default) y1).bind fun r7 => cond (!r7) (some false) (K (.p7 y1 y2 y3 (IntKind.wrap .i64 (y4 + (1 : Int)))))) (none)) (some true)
def impl_fits (n : Nat) (a0 : List ((ByteArray) × ((Int) × ((ByteArray) × (Unit))))) (a1 : List ((ByteArray) × ((ByteArray) × (Unit)))) : Option (Tup [.bool]) := goRec impl_fits.step n (.p0 a0 a1)
def impl_fits.spec : Ctr := ⟨43, [.v (.sl false (.pair .str (.pair (.int .i64) (.pair .str .unit)))), .v (.sl false (.pair .str (.pair .str .unit)))], [.bool], [], none, fun n x => impl_fits n x.1 x.2.1⟩
theorem impl_fits.seg_eq : SegEq ty gl impl_fits.F impl_fits.md impl_fits.T impl_fits.spec impl_fits.lb impl_fits.st impl_fits.step := by
  intro n goto y; cases y <;> kernel_rfl
theorem impl_fits.text : Text Go.Proofs.Tryz.prog impl_fits.F impl_fits.spec := textOf Go.Proofs.Tryz.f43
theorem impl_fits.ok : CtrOK Go.Proofs.Tryz.prog gl impl_fits.spec :=
  ctr_okS tabs impl_fits.text impl_fits.seg_eq (fun n x => ⟨.p0 x.1 x.2.1, rfl, rfl, rfl⟩) (consC impl_fitsOne.ok (nilC))

/-! loop.example/g00039/impl.TrimSeries$2 -/
def impl_TrimSeries_2.T : List Ctr := [impl_fits.spec]
def impl_TrimSeries_2.md : List (Nat × List Md) := []
noncomputable def impl_TrimSeries_2.F : Fun := ⟨(Go.Proofs.Tryz.f42.body).getD .skip, [.v (.pair (.bs (.pair .str (.pair (.int .i64) (.pair .str .unit)))) (.pair (.int .i64) (.pair (.int .i64) .unit))), .q (.pair (.sl false (.pair .str (.pair .str .unit))) (.pair (.sl false (.pair (.int .i64) (.pair (.int .i64) .unit))) .unit))], [(.tmp 3, .bool)], [], 0, []⟩
inductive impl_TrimSeries_2.Pt where
  | p0 (a0 : (List ((ByteArray) × ((Int) × ((ByteArray) × (Unit))))) × ((Int) × ((Int) × (Unit)))) (a1 : (List ((ByteArray) × ((ByteArray) × (Unit)))) × ((List ((Int) × ((Int) × (Unit)))) × (Unit)))
def impl_TrimSeries_2.lb : impl_TrimSeries_2.Pt → Nat
  | .p0 _ _ => 0
def impl_TrimSeries_2.st : impl_TrimSeries_2.Pt → St
  | .p0 a0 a1 => enter [.v (.pair (.bs (.pair .str (.pair (.int .i64) (.pair .str .unit)))) (.pair (.int .i64) (.pair (.int .i64) .unit))) a0, .q (.pair (.sl false (.pair .str (.pair .str .unit))) (.pair (.sl false (.pair (.int .i64) (.pair (.int .i64) .unit))) .unit)) a1] 0
def impl_TrimSeries_2.step (n : Nat) (K : impl_TrimSeries_2.Pt → Option (Tup [.bool])) : impl_TrimSeries_2.Pt → Option (Tup [.bool])
  | .p0 a0 a1 => (impl_fits n a0.1 a1.1).bind fun r5 => some r5
def impl_TrimSeries_2 (n : Nat) (a0 : (List ((ByteArray) × ((Int) × ((ByteArray) × (Unit))))) × ((Int) × ((Int) × (Unit)))) (a1 : (List ((ByteArray) × ((ByteArray) × (Unit)))) × ((List ((Int) × ((Int) × (Unit)))) × (Unit))) : Option (Tup [.bool]) := goRec impl_TrimSeries_2.step n (.p0 a0 a1)
def impl_TrimSeries_2.spec : Ctr := ⟨42, [.v (.pair (.bs (.pair .str (.pair (.int .i64) (.pair .str .unit)))) (.pair (.int .i64) (.pair (.int .i64) .unit))), .q (.pair (.sl false (.pair .str (.pair .str .unit))) (.pair (.sl false (.pair (.int .i64) (.pair (.int .i64) .unit))) .unit))], [.bool], [], none, fun n x => impl_TrimSeries_2 n x.1 x.2.1⟩
theorem impl_TrimSeries_2.seg_eq : SegEq tyN gl impl_TrimSeries_2.F impl_TrimSeries_2.md impl_TrimSeries_2.T impl_TrimSeries_2.spec impl_TrimSeries_2.lb impl_TrimSeries_2.st impl_TrimSeries_2.step := by
  intro n goto y; cases y <;> kernel_rfl
theorem impl_TrimSeries_2.text : Text Go.Proofs.Tryz.prog impl_TrimSeries_2.F impl_TrimSeries_2.spec := textOf Go.Proofs.Tryz.f42
theorem impl_TrimSeries_2.ok : CtrOK Go.Proofs.Tryz.prog gl impl_TrimSeries_2.spec :=
  ctr_okS tabsN impl_TrimSeries_2.text impl_TrimSeries_2.seg_eq (fun n x => ⟨.p0 x.1 x.2.1, rfl, rfl, rfl⟩) (consC impl_fits.ok (nilC))

/-! loop.example/g00039/impl.filter[loop.example/g00039/impl.Need] -/
def impl_filter_Need_impl_TrimSeries_2.T : List Ctr := [impl_TrimSeries_2.spec]
def impl_filter_Need_impl_TrimSeries_2.md : List (Nat × List Md) := [(42, [.v, .q (.pair (.sl false (.pair .str (.pair .str .unit))) (.pair (.sl false (.pair (.int .i64) (.pair (.int .i64) .unit))) .unit))]), (1000042, [.q (.pair (.sl false (.pair .str (.pair .str .unit))) (.pair (.sl false (.pair (.int .i64) (.pair (.int .i64) .unit))) .unit))])]
noncomputable def impl_filter_Need_impl_TrimSeries_2.F : Fun := ⟨(Go.Proofs.Tryz.f41.body).getD .skip, [.v (.sl false (.pair (.bs (.pair .str (.pair (.int .i64) (.pair .str .unit)))) (.pair (.int .i64) (.pair (.int .i64) .unit)))), .fn 42 [.q (.pair (.sl false (.pair .str (.pair .str .unit))) (.pair (.sl false (.pair (.int .i64) (.pair (.int .i64) .unit))) .unit))]], [(.tmp 4, (.sl false (.pair (.bs (.pair .str (.pair (.int .i64) (.pair .str .unit)))) (.pair (.int .i64) (.pair (.int .i64) .unit)))))], [], 0, [(9, ⟨[1, 5, 8, 9, 10], [(5, (.pair (.bs (.pair .str (.pair (.int .i64) (.pair .str .unit)))) (.pair (.int .i64) (.pair (.int .i64) .unit)))), (8, (.pair (.bs (.pair .str (.pair (.int .i64) (.pair .str .unit)))) (.pair (.int .i64) (.pair (.int .i64) .unit))))], [], false⟩)]⟩
inductive impl_filter_Need_impl_TrimSeries_2.Pt where
  | p0 (a0 : List ((List ((ByteArray) × ((Int) × ((ByteArray) × (Unit))))) × ((Int) × ((Int) × (Unit))))) (a1 : (List ((ByteArray) × ((ByteArray) × (Unit)))) × ((List ((Int) × ((Int) × (Unit)))) × (Unit)))
  | p9 (y1 : List ((List ((ByteArray) × ((Int) × ((ByteArray) × (Unit))))) × ((Int) × ((Int) × (Unit))))) (y2 : Int) (y3 : Int) (y4 : (List ((ByteArray) × ((ByteArray) × (Unit)))) × ((List ((Int) × ((Int) × (Unit)))) × (Unit))) (y5 : List ((List ((ByteArray) × ((Int) × ((ByteArray) × (Unit))))) × ((Int) × ((Int) × (Unit)))))
def impl_filter_Need_impl_TrimSeries_2.lb : impl_filter_Need_impl_TrimSeries_2.Pt → Nat
  | .p0 _ _ => 0
  | .p9 _ _ _ _ _ => 9
def impl_filter_Need_impl_TrimSeries_2.st : impl_filter_Need_impl_TrimSeries_2.Pt → St
  | .p0 a0 a1 => enter [.v (.sl false (.pair (.bs (.pair .str (.pair (.int .i64) (.pair .str .unit)))) (.pair (.int .i64) (.pair (.int .i64) .unit)))) a0, .fn 42 [.q (.pair (.sl false (.pair .str (.pair .str .unit))) (.pair (.sl false (.pair (.int .i64) (.pair (.int .i64) .unit))) .unit)) a1]] 0
  | .p9 y1 y2 y3 y4 y5 => ⟨[(1, .fn 42 [.po 0 0]), (5, .hs 1 [] none 0), (8, .im (.sl false (.pair (.bs (.pair .str (.pair (.int .i64) (.pair .str .unit)))) (.pair (.int .i64) (.pair (.int .i64) .unit)))) y1), (9, .im (.int .i64) y2), (10, .im (.int .i64) y3)], [(0, .imm (.pair (.sl false (.pair .str (.pair .str .unit))) (.pair (.sl false (.pair (.int .i64) (.pair (.int .i64) .unit))) .unit)) y4), (1, .arr true (.pair (.bs (.pair .str (.pair (.int .i64) (.pair .str .unit)))) (.pair (.int .i64) (.pair (.int .i64) .unit))) y5 0)], 2⟩
def impl_filter_Need_impl_TrimSeries_2.step (n : Nat) (K : impl_filter_Need_impl_TrimSeries_2.Pt → Option (Tup [(.sl false (.pair (.bs (.pair .str (.pair (.int .i64) (.pair .str .unit)))) (.pair (.int .i64) (.pair (.int .i64) .unit))))])) : impl_filter_Need_impl_TrimSeries_2.Pt → Option (Tup [(.sl false (.pair (.bs (.pair .str (.pair (.int .i64) (.pair .str .unit)))) (.pair (.int .i64) (.pair (.int .i64) .unit))))])
  | .p0 a0 a1 => K (.p9 a0 ((List.length a0) : Int) (0 : Int) a1 ([] : List ((List ((ByteArray) × ((Int) × ((ByteArray) × (Unit))))) × ((Int) × ((Int) × (Unit))))))
  | .p9 y1 y2 y3 y4 y5 => cond (decide (y3 < y2)) (cond (inB y3 (List.length y1)) ((impl_TrimSeries_2 n ((List.getD y1 (Int.toNat y3) default).1, (List.getD y1 (Int.toNat y3) default).2) (List.getD [y4] 0 default)).bind fun r8 => cond r8 (cond (room ((List.length y5) + (List.length [((List.getD y1 (Int.toNat y3) default).1, (List.getD y1 (Int.toNat y3) default).2)]))) (K (.p9 y1 y2 (IntKind.wrap .i64 (y3 + (1 : Int))) y4 (y5 ++ [((List.getD y1 (Int.toNat y3) default).1, (List.getD y1 (Int.toNat y3) default).2)]))) (none)) (K (.p9 y1 y2 (IntKind.wrap .i64 (y3 + (1 : Int))) y4 y5))) (none)) (some y5)
def impl_filter_Need_impl_TrimSeries_2 (n : Nat) (a0 : List ((List ((ByteArray) × ((Int) × ((ByteArray) × (Unit))))) × ((Int) × ((Int) × (Unit))))) (a1 : (List ((ByteArray) × ((ByteArray) × (Unit)))) × ((List ((Int) × ((Int) × (Unit)))) × (Unit))) : Option (Tup [(.sl false (.pair (.bs (.pair .str (.pair (.int .i64) (.pair .str .unit)))) (.pair (.int .i64) (.pair (.int .i64) .unit))))]) := goRec impl_filter_Need_impl_TrimSeries_2.step n (.p0 a0 a1)
def impl_filter_Need_impl_TrimSeries_2.spec : Ctr := ⟨41, [.v (.sl false (.pair (.bs (.pair .str (.pair (.int .i64) (.pair .str .unit)))) (.pair (.int .i64) (.pair (.int .i64) .unit)))), .fn 42 [.q (.pair (.sl false (.pair .str (.pair .str .unit))) (.pair (.sl false (.pair (.int .i64) (.pair (.int .i64) .unit))) .unit))]], [(.sl false (.pair (.bs (.pair .str (.pair (.int .i64) (.pair .str .unit)))) (.pair (.int .i64) (.pair (.int .i64) .unit))))], [], none, fun n x => impl_filter_Need_impl_TrimSeries_2 n x.1 x.2.1.1⟩
theorem impl_filter_Need_impl_TrimSeries_2.seg_eq : SegEq tyN gl impl_filter_Need_impl_TrimSeries_2.F impl_filter_Need_impl_TrimSeries_2.md impl_filter_Need_impl_TrimSeries_2.T impl_filter_Need_impl_TrimSeries_2.spec impl_filter_Need_impl_TrimSeries_2.lb impl_filter_Need_impl_TrimSeries_2.st impl_filter_Need_impl_TrimSeries_2.step := by
  intro n goto y; cases y <;> kernel_rfl
theorem impl_filter_Need_impl_TrimSeries_2.text : Text Go.Proofs.Tryz.prog impl_filter_Need_impl_TrimSeries_2.F impl_filter_Need_impl_TrimSeries_2.spec := textOf Go.Proofs.Tryz.f41
theorem impl_filter_Need_impl_TrimSeries_2.ok : CtrOK Go.Proofs.Tryz.prog gl impl_filter_Need_impl_TrimSeries_2.spec :=
  ctr_okS tabsN impl_filter_Need_impl_TrimSeries_2.text impl_filter_Need_impl_TrimSeries_2.seg_eq (fun n x => ⟨.p0 x.1 x.2.1.1, rfl, rfl, rfl⟩) (consC impl_TrimSeries_2.ok (nilC))

/-! loop.example/g00039/impl.TrimSeries$3$1 -/
def impl_TrimSeries_3_1.T : List Ctr := []
def impl_TrimSeries_3_1.md : List (Nat × List Md) := []
noncomputable def impl_TrimSeries_3_1.F : Fun := ⟨(Go.Proofs.Tryz.f46.body).getD .skip, [.v (.pair (.bs (.pair .str (.pair (.int .i64) (.pair .str .unit)))) (.pair (.int .i64) (.pair (.int .i64) .unit))), .q (.pair (.int .i64) (.pair (.int .i64) .unit))], [(.tmp 3, .bool)], [], 0, []⟩
inductive impl_TrimSeries_3_1.Pt where
  | p0 (a0 : (List ((ByteArray) × ((Int) × ((ByteArray) × (Unit))))) × ((Int) × ((Int) × (Unit)))) (a1 : (Int) × ((Int) × (Unit)))
def impl_TrimSeries_3_1.lb : impl_TrimSeries_3_1.Pt → Nat
  | .p0 _ _ => 0
def impl_TrimSeries_3_1.st : impl_TrimSeries_3_1.Pt → St
  | .p0 a0 a1 => enter [.v (.pair (.bs (.pair .str (.pair (.int .i64) (.pair .str .unit)))) (.pair (.int .i64) (.pair (.int .i64) .unit))) a0, .q (.pair (.int .i64) (.pair (.int .i64) .unit)) a1] 0
def impl_TrimSeries_3_1.step (n : Nat) (K : impl_TrimSeries_3_1.Pt → Option (Tup [.bool])) : impl_TrimSeries_3_1.Pt → Option (Tup [.bool])
  | .p0 a0 a1 => cond (decide (a0.2.1 ≤ a1.1)) (some (decide (a1.1 ≤ a0.2.2.1))) (some false)
def impl_TrimSeries_3_1 (n : Nat) (a0 : (List ((ByteArray) × ((Int) × ((ByteArray) × (Unit))))) × ((Int) × ((Int) × (Unit)))) (a1 : (Int) × ((Int) × (Unit))) : Option (Tup [.bool]) := goRec impl_TrimSeries_3_1.step n (.p0 a0 a1)
def impl_TrimSeries_3_1.spec : Ctr := ⟨46, [.v (.pair (.bs (.pair .str (.pair (.int .i64) (.pair .str .unit)))) (.pair (.int .i64) (.pair (.int .i64) .unit))), .q (.pair (.int .i64) (.pair (.int .i64) .unit))], [.bool], [], none, fun n x => impl_TrimSeries_3_1 n x.1 x.2.1⟩
theorem impl_TrimSeries_3_1.seg_eq : SegEq tyN gl impl_TrimSeries_3_1.F impl_TrimSeries_3_1.md impl_TrimSeries_3_1.T impl_TrimSeries_3_1.spec impl_TrimSeries_3_1.lb impl_TrimSeries_3_1.st impl_TrimSeries_3_1.step := by
  intro n goto y; cases y <;> kernel_rfl
theorem impl_TrimSeries_3_1.text : Text Go.Proofs.Tryz.prog impl_TrimSeries_3_1.F impl_TrimSeries_3_1.spec := textOf Go.Proofs.Tryz.f46
theorem impl_TrimSeries_3_1.ok : CtrOK Go.Proofs.Tryz.prog gl impl_TrimSeries_3_1.spec :=
  ctr_okS tabsN impl_TrimSeries_3_1.text impl_TrimSeries_3_1.seg_eq (fun n x => ⟨.p0 x.1 x.2.1, rfl, rfl, rfl⟩) (nilC)

/-! slices.IndexFunc[[]loop.example/g00039/impl.Need,loop.example/g00039/impl.Need] -/
def slices_IndexFunc_Need_impl_TrimSeries_3_1.T : List Ctr := [impl_TrimSeries_3_1.spec]
def slices_IndexFunc_Need_impl_TrimSeries_3_1.md : List (Nat × List Md) := [(46, [.v, .q (.pair (.int .i64) (.pair (.int .i64) .unit))]), (1000046, [.q (.pair (.int .i64) (.pair (.int .i64) .unit))])]
noncomputable def slices_IndexFunc_Need_impl_TrimSeries_3_1.F : Fun := ⟨(Go.Proofs.Tryz.f82.body).getD .skip, [.v (.sl false (.pair (.bs (.pair .str (.pair (.int .i64) (.pair .str .unit)))) (.pair (.int .i64) (.pair (.int .i64) .unit)))), .fn 46 [.q (.pair (.int .i64) (.pair (.int .i64) .unit))]], [(.tmp 4, (.int .i64))], [], 0, [(7, ⟨[0, 1, 7, 8], [], [], false⟩)]⟩
inductive slices_IndexFunc_Need_impl_TrimSeries_3_1.Pt where
  | p0 (a0 : List ((List ((ByteArray) × ((Int) × ((ByteArray) × (Unit))))) × ((Int) × ((Int) × (Unit))))) (a1 : (Int) × ((Int) × (Unit)))
  | p7 (y1 : List ((List ((ByteArray) × ((Int) × ((ByteArray) × (Unit))))) × ((Int) × ((Int) × (Unit))))) (y2 : Int) (y3 : Int) (y4 : (Int) × ((Int) × (Unit)))
def slices_IndexFunc_Need_impl_TrimSeries_3_1.lb : slices_IndexFunc_Need_impl_TrimSeries_3_1.Pt → Nat
  | .p0 _ _ => 0
  | .p7 _ _ _ _ => 7
def slices_IndexFunc_Need_impl_TrimSeries_3_1.st : slices_IndexFunc_Need_impl_TrimSeries_3_1.Pt → St
  | .p0 a0 a1 => enter [.v (.sl false (.pair (.bs (.pair .str (.pair (.int .i64) (.pair .str .unit)))) (.pair (.int .i64) (.pair (.int .i64) .unit)))) a0, .fn 46 [.q (.pair (.int .i64) (.pair (.int .i64) .unit)) a1]] 0
  | .p7 y1 y2 y3 y4 => ⟨[(0, .im (.sl false (.pair (.bs (.pair .str (.pair (.int .i64) (.pair .str .unit)))) (.pair (.int .i64) (.pair (.int .i64) .unit)))) y1), (1, .fn 46 [.po 0 0]), (7, .im (.int .i64) y2), (8, .im (.int .i64) y3)], [(0, .imm (.pair (.int .i64) (.pair (.int .i64) .unit)) y4)], 1⟩
def slices_IndexFunc_Need_impl_TrimSeries_3_1.step (n : Nat) (K : slices_IndexFunc_Need_impl_TrimSeries_3_1.Pt → Option (Tup [(.int .i64)])) : slices_IndexFunc_Need_impl_TrimSeries_3_1.Pt → Option (Tup [(.int .i64)])
  | .p0 a0 a1 => K (.p7 a0 ((List.length a0) : Int) (0 : Int) a1)
  | .p7 y1 y2 y3 y4 => cond (decide (y3 < y2)) (cond (inB y3 (List.length y1)) ((impl_TrimSeries_3_1 n ((List.getD y1 (Int.toNat y3) default).1, (List.getD y1 (Int.toNat y3) default).2) (List.getD [y4] 0 default)).bind fun r7 => cond r7 (some y3) (K (.p7 y1 y2 (IntKind.wrap .i64 (y3 + (1 : Int))) y4))) (none)) (some (-(1 : Int)))
def slices_IndexFunc_Need_impl_TrimSeries_3_1 (n : Nat) (a0 : List ((List ((ByteArray) × ((Int) × ((ByteArray) × (Unit))))) × ((Int) × ((Int) × (Unit))))) (a1 : (Int) × ((Int) × (Unit))) : Option (Tup [(.int .i64)]) := goRec slices_IndexFunc_Need_impl_TrimSeries_3_1.step n (.p0 a0 a1)
def slices_IndexFunc_Need_impl_TrimSeries_3_1.spec : Ctr := ⟨82, [.v (.sl false (.pair (.bs (.pair .str (.pair (.int .i64) (.pair .str .unit)))) (.pair (.int .i64) (.pair (.int .i64) .unit)))), .fn 46 [.q (.pair (.int .i64) (.pair (.int .i64) .unit))]], [(.int .i64)], [], none, fun n x => slices_IndexFunc_Need_impl_TrimSeries_3_1 n x.1 x.2.1.1⟩
theorem slices_IndexFunc_Need_impl_TrimSeries_3_1.seg_eq : SegEq tyN gl slices_IndexFunc_Need_impl_TrimSeries_3_1.F slices_IndexFunc_Need_impl_TrimSeries_3_1.md slices_IndexFunc_Need_impl_TrimSeries_3_1.T slices_IndexFunc_Need_impl_TrimSeries_3_1.spec slices_IndexFunc_Need_impl_TrimSeries_3_1.lb slices_IndexFunc_Need_impl_TrimSeries_3_1.st slices_IndexFunc_Need_impl_TrimSeries_3_1.step := by
  intro n goto y; cases y <;> kernel_rfl
theorem slices_IndexFunc_Need_impl_TrimSeries_3_1.text : Text Go.Proofs.Tryz.prog slices_IndexFunc_Need_impl_TrimSeries_3_1.F slices_IndexFunc_Need_impl_TrimSeries_3_1.spec := textOf Go.Proofs.Tryz.f82
theorem slices_IndexFunc_Need_impl_TrimSeries_3_1.ok : CtrOK Go.Proofs.Tryz.prog gl slices_IndexFunc_Need_impl_TrimSeries_3_1.spec :=
  ctr_okS tabsN slices_IndexFunc_Need_impl_TrimSeries_3_1.text slices_IndexFunc_Need_impl_TrimSeries_3_1.seg_eq (fun n x => ⟨.p0 x.1 x.2.1.1, rfl, rfl, rfl⟩) (consC impl_TrimSeries_3_1.ok (nilC))

/-! slices.ContainsFunc[[]loop.example/g00039/impl.Need,loop.example/g00039/impl.Need] -/
def slices_ContainsFunc_Need_impl_TrimSeries_3_1.T : List Ctr := [slices_IndexFunc_Need_impl_TrimSeries_1.spec, slices_IndexFunc_Need_impl_TrimSeries_3_1.spec]
def slices_ContainsFunc_Need_impl_TrimSeries_3_1.md : List (Nat × List Md) := [(82, [.v, .fn]), (46, [.v, .q (.pair (.int .i64) (.pair (.int .i64) .unit))]), (1000046, [.q (.pair (.int .i64) (.pair (.int .i64) .unit))])]
noncomputable def slices_ContainsFunc_Need_impl_TrimSeries_3_1.F : Fun := ⟨(Go.Proofs.Tryz.f38.body).getD .skip, [.v (.sl false (.pair (.bs (.pair .str (.pair (.int .i64) (.pair .str .unit)))) (.pair (.int .i64) (.pair (.int .i64) .unit)))), .fn 46 [.q (.pair (.int .i64) (.pair (.int .i64) .unit))]], [(.tmp 4, .bool)], [], 0, []⟩
inductive slices_ContainsFunc_Need_impl_TrimSeries_3_1.Pt where
  | p0 (a0 : List ((List ((ByteArray) × ((Int) × ((ByteArray) × (Unit))))) × ((Int) × ((Int) × (Unit))))) (a1 : (Int) × ((Int) × (Unit)))
def slices_ContainsFunc_Need_impl_TrimSeries_3_1.lb : slices_ContainsFunc_Need_impl_TrimSeries_3_1.Pt → Nat
  | .p0 _ _ => 0
def slices_ContainsFunc_Need_impl_TrimSeries_3_1.st : slices_ContainsFunc_Need_impl_TrimSeries_3_1.Pt → St
  | .p0 a0 a1 => enter [.v (.sl false (.pair (.bs (.pair .str (.pair (.int .i64) (.pair .str .unit)))) (.pair (.int .i64) (.pair (.int .i64) .unit)))) a0, .fn 46 [.q (.pair (.int .i64) (.pair (.int .i64) .unit)) a1]] 0
def slices_ContainsFunc_Need_impl_TrimSeries_3_1.step (n : Nat) (K : slices_ContainsFunc_Need_impl_TrimSeries_3_1.Pt → Option (Tup [.bool])) : slices_ContainsFunc_Need_impl_TrimSeries_3_1.Pt → Option (Tup [.bool])
  | .p0 a0 a1 => (slices_IndexFunc_Need_impl_TrimSeries_3_1 n a0 (List.getD [a1] 0 default)).bind fun (r5 : Int) => some (decide ((0 : Int) ≤ r5))
def slices_ContainsFunc_Need_impl_TrimSeries_3_1 (n : Nat) (a0 : List ((List ((ByteArray) × ((Int) × ((ByteArray) × (Unit))))) × ((Int) × ((Int) × (Unit))))) (a1 : (Int) × ((Int) × (Unit))) : Option (Tup [.bool]) := goRec slices_ContainsFunc_Need_impl_TrimSeries_3_1.step n (.p0 a0 a1)
def slices_ContainsFunc_Need_impl_TrimSeries_3_1.spec : Ctr := ⟨38, [.v (.sl false (.pair (.bs (.pair .str (.pair (.int .i64) (.pair .str .unit)))) (.pair (.int .i64) (.pair (.int .i64) .unit)))), .fn 46 [.q (.pair (.int .i64) (.pair (.int .i64) .unit))]], [.bool], [], none, fun n x => slices_ContainsFunc_Need_impl_TrimSeries_3_1 n x.1 x.2.1.1⟩
theorem slices_ContainsFunc_Need_impl_TrimSeries_3_1.seg_eq : SegEq tyN gl slices_ContainsFunc_Need_impl_TrimSeries_3_1.F slices_ContainsFunc_Need_impl_TrimSeries_3_1.md slices_ContainsFunc_Need_impl_TrimSeries_3_1.T slices_ContainsFunc_Need_impl_TrimSeries_3_1.spec slices_ContainsFunc_Need_impl_TrimSeries_3_1.lb slices_ContainsFunc_Need_impl_TrimSeries_3_1.st slices_ContainsFunc_Need_impl_TrimSeries_3_1.step := by
  intro n goto y; cases y <;> kernel_rfl
theorem slices_ContainsFunc_Need_impl_TrimSeries_3_1.text : Text Go.Proofs.Tryz.prog slices_ContainsFunc_Need_impl_TrimSeries_3_1.F slices_ContainsFunc_Need_impl_TrimSeries_3_1.spec := textOf Go.Proofs.Tryz.f38
theorem slices_ContainsFunc_Need_impl_TrimSeries_3_1.ok : CtrOK Go.Proofs.Tryz.prog gl slices_ContainsFunc_Need_impl_TrimSeries_3_1.spec :=
  ctr_okS tabsN slices_ContainsFunc_Need_impl_TrimSeries_3_1.text slices_ContainsFunc_Need_impl_TrimSeries_3_1.seg_eq (fun n x => ⟨.p0 x.1 x.2.1.1, rfl, rfl, rfl⟩) (consC slices_IndexFunc_Need_impl_TrimSeries_1.ok (consC slices_IndexFunc_Need_impl_TrimSeries_3_1.ok (nilC)))

/-! loop.example/g00039/impl.TrimSeries$3 -/
def impl_TrimSeries_3.T : List Ctr := [slices_ContainsFunc_Need_impl_TrimSeries_1.spec, impl_TrimSeries_3_1.spec, slices_ContainsFunc_Need_impl_TrimSeries_3_1.spec]
def impl_TrimSeries_3.md : List (Nat × List Md) := [(46, [.v, .q (.pair (.int .i64) (.pair (.int .i64) .unit))]), (1000046, [.q (.pair (.int .i64) (.pair (.int .i64) .unit))]), (38, [.v, .fn])]
noncomputable def impl_TrimSeries_3.F : Fun := ⟨(Go.Proofs.Tryz.f45.body).getD .skip, [.v (.pair (.int .i64) (.pair (.int .i64) .unit)), .q (.sl false (.pair (.bs (.pair .str (.pair (.int .i64) (.pair .str .unit)))) (.pair (.int .i64) (.pair (.int .i64) .unit))))], [(.tmp 3, .bool)], [], 0, []⟩
inductive impl_TrimSeries_3.Pt where
  | p0 (a0 : (Int) × ((Int) × (Unit))) (a1 : List ((List ((ByteArray) × ((Int) × ((ByteArray) × (Unit))))) × ((Int) × ((Int) × (Unit)))))
def impl_TrimSeries_3.lb : impl_TrimSeries_3.Pt → Nat
  | .p0 _ _ => 0
def impl_TrimSeries_3.st : impl_TrimSeries_3.Pt → St
  | .p0 a0 a1 => enter [.v (.pair (.int .i64) (.pair (.int .i64) .unit)) a0, .q (.sl false (.pair (.bs (.pair .str (.pair (.int .i64) (.pair .str .unit)))) (.pair (.int .i64) (.pair (.int .i64) .unit)))) a1] 0
def impl_TrimSeries_3.step (n : Nat) (K : impl_TrimSeries_3.Pt → Option (Tup [.bool])) : impl_TrimSeries_3.Pt → Option (Tup [.bool])
  | .p0 a0 a1 => (slices_ContainsFunc_Need_impl_TrimSeries_3_1 n a1 a0).bind fun r5 => some r5
def impl_TrimSeries_3 (n : Nat) (a0 : (Int) × ((Int) × (Unit))) (a1 : List ((List ((ByteArray) × ((Int) × ((ByteArray) × (Unit))))) × ((Int) × ((Int) × (Unit))))) : Option (Tup [.bool]) := goRec impl_TrimSeries_3.step n (.p0 a0 a1)
def impl_TrimSeries_3.spec : Ctr := ⟨45, [.v (.pair (.int .i64) (.pair (.int .i64) .unit)), .q (.sl false (.pair (.bs (.pair .str (.pair (.int .i64) (.pair .str .unit)))) (.pair (.int .i64) (.pair (.int .i64) .unit))))], [.bool], [], none, fun n x => impl_TrimSeries_3 n x.1 x.2.1⟩
theorem impl_TrimSeries_3.seg_eq : SegEq tyN gl impl_TrimSeries_3.F impl_TrimSeries_3.md impl_TrimSeries_3.T impl_TrimSeries_3.spec impl_TrimSeries_3.lb impl_TrimSeries_3.st impl_TrimSeries_3.step := by
  intro n goto y; cases y <;> kernel_rfl
theorem impl_TrimSeries_3.text : Text Go.Proofs.Tryz.prog impl_TrimSeries_3.F impl_TrimSeries_3.spec := textOf Go.Proofs.Tryz.f45
theorem impl_TrimSeries_3.ok : CtrOK Go.Proofs.Tryz.prog gl impl_TrimSeries_3.spec :=
  ctr_okS tabsN impl_TrimSeries_3.text impl_TrimSeries_3.seg_eq (fun n x => ⟨.p0 x.1 x.2.1, rfl, rfl, rfl⟩) (consC slices_ContainsFunc_Need_impl_TrimSeries_1.ok (consC impl_TrimSeries_3_1.ok (consC slices_ContainsFunc_Need_impl_TrimSeries_3_1.ok (nilC))))

/-! loop.example/g00039/impl.filter[loop.example/g00039/impl.Sample] -/
def impl_filter_Sample_impl_TrimSeries_3.T : List Ctr := [impl_TrimSeries_3.spec]
def impl_filter_Sample_impl_TrimSeries_3.md : List (Nat × List Md) := [(45, [.v, .q (.sl false (.pair (.bs (.pair .str (.pair (.int .i64) (.pair .str .unit)))) (.pair (.int .i64) (.pair (.int .i64) .unit))))]), (1000045, [.q (.sl false (.pair (.bs (.pair .str (.pair (.int .i64) (.pair .str .unit)))) (.pair (.int .i64) (.pair (.int .i64) .unit))))])]
noncomputable def impl_filter_Sample_impl_TrimSeries_3.F : Fun := ⟨(Go.Proofs.Tryz.f44.body).getD .skip, [.v (.sl false (.pair (.int .i64) (.pair (.int .i64) .unit))), .fn 45 [.q (.sl false (.pair (.bs (.pair .str (.pair (.int .i64) (.pair .str .unit)))) (.pair (.int .i64) (.pair (.int .i64) .unit))))]], [(.tmp 4, (.sl false (.pair (.int .i64) (.pair (.int .i64) .unit))))], [], 0, [(9, ⟨[1, 5, 8, 9, 10], [(5, (.pair (.int .i64) (.pair (.int .i64) .unit))), (8, (.pair (.int .i64) (.pair (.int .i64) .unit)))], [], false⟩)]⟩
inductive impl_filter_Sample_impl_TrimSeries_3.Pt where
  | p0 (a0 : List ((Int) × ((Int) × (Unit)))) (a1 : List ((List ((ByteArray) × ((Int) × ((ByteArray) × (Unit))))) × ((Int) × ((Int) × (Unit)))))
  | p9 (y1 : List ((Int) × ((Int) × (Unit)))) (y2 : Int) (y3 : Int) (y4 : List ((List ((ByteArray) × ((Int) × ((ByteArray) × (Unit))))) × ((Int) × ((Int) × (Unit))))) (y5 : List ((Int) × ((Int) × (Unit))))
def impl_filter_Sample_impl_TrimSeries_3.lb : impl_filter_Sample_impl_TrimSeries_3.Pt → Nat
  | .p0 _ _ => 0
  | .p9 _ _ _ _ _ => 9
def impl_filter_Sample_impl_TrimSeries_3.st : impl_filter_Sample_impl_TrimSeries_3.Pt → St
  | .p0 a0 a1 => enter [.v (.sl false (.pair (.int .i64) (.pair (.int .i64) .unit))) a0, .fn 45 [.q (.sl false (.pair (.bs (.pair .str (.pair (.int .i64) (.pair .str .unit)))) (.pair (.int .i64) (.pair (.int .i64) .unit)))) a1]] 0
  | .p9 y1 y2 y3 y4 y5 => ⟨[(1, .fn 45 [.po 0 0]), (5, .hs 1 [] none 0), (8, .im (.sl false (.pair (.int .i64) (.pair (.int .i64) .unit))) y1), (9, .im (.int .i64) y2), (10, .im (.int .i64) y3)], [(0, .imm (.sl false (.pair (.bs (.pair .str (.pair (.int .i64) (.pair .str .unit)))) (.pair (.int .i64) (.pair (.int .i64) .unit)))) y4), (1, .arr true (.pair (.int .i64) (.pair (.int .i64) .unit)) y5 0)], 2⟩
def impl_filter_Sample_impl_TrimSeries_3.step (n : Nat) (K : impl_filter_Sample_impl_TrimSeries_3.Pt → Option (Tup [(.sl false (.pair (.int .i64) (.pair (.int .i64) .unit)))])) : impl_filter_Sample_impl_TrimSeries_3.Pt → Option (Tup [(.sl false (.pair (.int .i64) (.pair (.int .i64) .unit)))])
  | .p0 a0 a1 => K (.p9 a0 ((List.length a0) : Int) (0 : Int) a1 ([] : List ((Int) × ((Int) × (Unit)))))
  | .p9 y1 y2 y3 y4 y5 => cond (decide (y3 < y2)) (cond (inB y3 (List.length y1)) ((impl_TrimSeries_3 n (List.getD y1 (Int.toNat y3) default) (List.getD [y4] 0 default)).bind fun r8 => cond r8 (cond (room ((List.length y5) + (List.length [(List.getD y1 (Int.toNat y3) default)]))) (K (.p9 y1 y2 (IntKind.wrap .i64 (y3 + (1 : Int))) y4 (y5 ++ [(List.getD y1 (Int.toNat y3) default)]))) (none)) (K (.p9 y1 y2 (IntKind.wrap .i64 (y3 + (1 : Int))) y4 y5))) (none)) (some y5)
def impl_filter_Sample_impl_TrimSeries_3 (n : Nat) (a0 : List ((Int) × ((Int) × (Unit)))) (a1 : List ((List ((ByteArray) × ((Int) × ((ByteArray) × (Unit))))) × ((Int) × ((Int) × (Unit))))) : Option (Tup [(.sl false (.pair (.int .i64) (.pair (.int .i64) .unit)))]) := goRec impl_filter_Sample_impl_TrimSeries_3.step n (.p0 a0 a1)
def impl_filter_Sample_impl_TrimSeries_3.spec : Ctr := ⟨44, [.v (.sl false (.pair (.int .i64) (.pair (.int .i64) .unit))), .fn 45 [.q (.sl false (.pair (.bs (.pair .str (.pair (.int .i64) (.pair .str .unit)))) (.pair (.int .i64) (.pair (.int .i64) .unit))))]], [(.sl false (.pair (.int .i64) (.pair (.int .i64) .unit)))], [], none, fun n x => impl_filter_Sample_impl_TrimSeries_3 n x.1 x.2.1.1⟩
theorem impl_filter_Sample_impl_TrimSeries_3.seg_eq : SegEq ty gl impl_filter_Sample_impl_TrimSeries_3.F impl_filter_Sample_impl_TrimSeries_3.md impl_filter_Sample_impl_TrimSeries_3.T impl_filter_Sample_impl_TrimSeries_3.spec impl_filter_Sample_impl_TrimSeries_3.lb impl_filter_Sample_impl_TrimSeries_3.st impl_filter_Sample_impl_TrimSeries_3.step := by
  intro n goto y; cases y <;> kernel_rfl
theorem impl_filter_Sample_impl_TrimSeries_3.text : Text Go.Proofs.Tryz.prog impl_filter_Sample_impl_TrimSeries_3.F impl_filter_Sample_impl_TrimSeries_3.spec := textOf Go.Proofs.Tryz.f44
theorem impl_filter_Sample_impl_TrimSeries_3.ok : CtrOK Go.Proofs.Tryz.prog gl impl_filter_Sample_impl_TrimSeries_3.spec :=
  ctr_okS tabs impl_filter_Sample_impl_TrimSeries_3.text impl_filter_Sample_impl_TrimSeries_3.seg_eq (fun n x => ⟨.p0 x.1 x.2.1.1, rfl, rfl, rfl⟩) (consC impl_TrimSeries_3.ok (nilC))

/-! loop.example/g00039/impl.TrimSeries -/
def impl_TrimSeries.T : List Ctr := [impl_GoodSeries.spec, slices_Clone_Label.spec, impl_TrimSeries_1.spec, slices_ContainsFunc_Need_impl_TrimSeries_1.spec, impl_TrimSeries_2.spec, impl_filter_Need_impl_TrimSeries_2.spec, slices_ContainsFunc_Need_impl_TrimSeries_3_1.spec, impl_TrimSeries_3.spec, impl_filter_Sample_impl_TrimSeries_3.spec]
def impl_TrimSeries.md : List (Nat × List Md) := [(38, [.v, .fn]), (42, [.v, .q (.pair (.sl false (.pair .str (.pair .str .unit))) (.pair (.sl false (.pair (.int .i64) (.pair (.int .i64) .unit))) .unit))]), (1000042, [.q (.pair (.sl false (.pair .str (.pair .str .unit))) (.pair (.sl false (.pair (.int .i64) (.pair (.int .i64) .unit))) .unit))]), (41, [.v, .fn]), (45, [.v, .q (.sl false (.pair (.bs (.pair .str (.pair (.int .i64) (.pair .str .unit)))) (.pair (.int .i64) (.pair (.int .i64) .unit))))]), (1000045, [.q (.sl false (.pair (.bs (.pair .str (.pair (.int .i64) (.pair .str .unit)))) (.pair (.int .i64) (.pair (.int .i64) .unit))))]), (44, [.v, .fn])]
noncomputable def impl_TrimSeries.F : Fun := ⟨(Go.Proofs.Tryz.f10.body).getD .skip, [.v (.sl false (.pair (.sl false (.pair .str (.pair .str .unit))) (.pair (.sl false (.pair (.int .i64) (.pair (.int .i64) .unit))) .unit))), .v (.sl false (.pair (.bs (.pair .str (.pair (.int .i64) (.pair .str .unit)))) (.pair (.int .i64) (.pair (.int .i64) .unit))))], [(.tmp 4, (.sl false (.pair (.sl false (.pair .str (.pair .str .unit))) (.pair (.sl false (.pair (.int .i64) (.pair (.int .i64) .unit))) .unit))))], [], 0, [(4, ⟨[0, 1, 21], [], [], false⟩), (17, ⟨[1, 5, 22, 23, 24], [(5, (.pair (.sl false (.pair .str (.pair .str .unit))) (.pair (.sl false (.pair (.int .i64) (.pair (.int .i64) .unit))) .unit))), (22, (.pair (.sl false (.pair .str (.pair .str .unit))) (.pair (.sl false (.pair (.int .i64) (.pair (.int .i64) .unit))) .unit)))], [], false⟩)]⟩
inductive impl_TrimSeries.Pt where
  | p0 (a0 : List ((List ((ByteArray) × ((ByteArray) × (Unit)))) × ((List ((Int) × ((Int) × (Unit)))) × (Unit)))) (a1 : List ((List ((ByteArray) × ((Int) × ((ByteArray) × (Unit))))) × ((Int) × ((Int) × (Unit)))))
  | p4 (y1 : List ((List ((ByteArray) × ((ByteArray) × (Unit)))) × ((List ((Int) × ((Int) × (Unit)))) × (Unit)))) (y2 : List ((List ((ByteArray) × ((Int) × ((ByteArray) × (Unit))))) × ((Int) × ((Int) × (Unit))))) (y3 : Bool)
  | p17 (y1 : List ((List ((ByteArray) × ((Int) × ((ByteArray) × (Unit))))) × ((Int) × ((Int) × (Unit))))) (y2 : List ((List ((ByteArray) × ((ByteArray) × (Unit)))) × ((List ((Int) × ((Int) × (Unit)))) × (Unit)))) (y3 : Int) (y4 : Int) (y5 : List ((List ((ByteArray) × ((ByteArray) × (Unit)))) × ((List ((Int) × ((Int) × (Unit)))) × (Unit))))
def impl_TrimSeries.lb : impl_TrimSeries.Pt → Nat
  | .p0 _ _ => 0
  | .p4 _ _ _ => 4
  | .p17 _ _ _ _ _ => 17
def impl_TrimSeries.st : impl_TrimSeries.Pt → St
  | .p0 a0 a1 => enter [.v (.sl false (.pair (.sl false (.pair .str (.pair .str .unit))) (.pair (.sl false (.pair (.int .i64) (.pair (.int .i64) .unit))) .unit))) a0, .v (.sl false (.pair (.bs (.pair .str (.pair (.int .i64) (.pair .str .unit)))) (.pair (.int .i64) (.pair (.int .i64) .unit)))) a1] 0
  | .p4 y1 y2 y3 => ⟨[(0, .im (.sl false (.pair (.sl false (.pair .str (.pair .str .unit))) (.pair (.sl false (.pair (.int .i64) (.pair (.int .i64) .unit))) .unit))) y1), (1, .im (.sl false (.pair (.bs (.pair .str (.pair (.int .i64) (.pair .str .unit)))) (.pair (.int .i64) (.pair (.int .i64) .unit)))) y2), (21, .im .bool y3)], [], 0⟩
  | .p17 y1 y2 y3 y4 y5 => ⟨[(1, .im (.sl false (.pair (.bs (.pair .str (.pair (.int .i64) (.pair .str .unit)))) (.pair (.int .i64) (.pair (.int .i64) .unit)))) y1), (5, .hs 0 [] none 0), (22, .im (.sl false (.pair (.sl false (.pair .str (.pair .str .unit))) (.pair (.sl false (.pair (.int .i64) (.pair (.int .i64) .unit))) .unit))) y2), (23, .im (.int .i64) y3), (24, .im (.int .i64) y4)], [(0, .arr true (.pair (.sl false (.pair .str (.pair .str .unit))) (.pair (.sl false (.pair (.int .i64) (.pair (.int .i64) .unit))) .unit)) y5 0)], 1⟩
def impl_TrimSeries.step (n : Nat) (K : impl_TrimSeries.Pt → Option (Tup [(.sl false (.pair (.sl false (.pair .str (.pair .str .unit))) (.pair (.sl false (.pair (.int .i64) (.pair (.int .i64) .unit))) .unit)))])) : impl_TrimSeries.Pt → Option (Tup [(.sl false (.pair (.sl false (.pair .str (.pair .str .unit))) (.pair (.sl false (.pair (.int .i64) (.pair (.int .i64) .unit))) .unit)))])
  | .p0 a0 a1 => (impl_GoodSeries n a0).bind fun r5 => cond (!r5) (K (.p4 a0 a1 true)) (cond (decide ((60 : Int) < ((List.length a1) : Int))) (K (.p4 a0 a1 true)) ((slices_ContainsFunc_Need_impl_TrimSeries_1 n a1).bind fun r6 => K (.p4 a0 a1 r6)))
  | .p4 y1 y2 y3 => cond y3 (some ([] : List ((List ((ByteArray) × ((ByteArray) × (Unit)))) × ((List ((Int) × ((Int) × (Unit)))) × (Unit))))) (K (.p17 y2 y1 ((List.length y1) : Int) (0 : Int) ([] : List ((List ((ByteArray) × ((ByteArray) × (Unit)))) × ((List ((Int) × ((Int) × (Unit)))) × (Unit))))))
  | .p17 y1 y2 y3 y4 y5 => cond (decide (y4 < y3)) (cond (inB y4 (List.length y2)) ((impl_filter_Need_impl_TrimSeries_2 n y1 ((List.getD y2 (Int.toNat y4) default).1, ((List.getD y2 (Int.toNat y4) default).2.1, ()))).bind fun r8 => (impl_filter_Sample_impl_TrimSeries_3 n (List.getD y2 (Int.toNat y4) default).2.1 r8).bind fun r9 => cond (decide ((0 : Int) < ((List.length r9) : Int))) ((slices_Clone_Label n (List.getD y2 (Int.toNat y4) default).1).bind fun r10 => cond (room ((List.length y5) + (List.length [(r10, (r9, ()))]))) (K (.p17 y1 y2 y3 (IntKind.wrap .i64 (y4 + (1 : Int))) (y5 ++ [(r10, (r9, ()))]))) (none)) (K (.p17 y1 y2 y3 (IntKind.wrap .i64 (y4 + (1 : Int))) y5))) (none)) (some y5)
def impl_TrimSeries (n : Nat) (a0 : List ((List ((ByteArray) × ((ByteArray) × (Unit)))) × ((List ((Int) × ((Int) × (Unit)))) × (Unit)))) (a1 : List ((List ((ByteArray) × ((Int) × ((ByteArray) × (Unit))))) × ((Int) × ((Int) × (Unit))))) : Option (Tup [(.sl false (.pair (.sl false (.pair .str (.pair .str .unit))) (.pair (.sl false (.pair (.int .i64) (.pair (.int .i64) .unit))) .unit)))]) := goRec impl_TrimSeries.step n (.p0 a0 a1)
def impl_TrimSeries.spec : Ctr := ⟨10, [.v (.sl false (.pair (.sl false (.pair .str (.pair .str .unit))) (.pair (.sl false (.pair (.int .i64) (.pair (.int .i64) .unit))) .unit))), .v (.sl false (.pair (.bs (.pair .str (.pair (.int .i64) (.pair .str .unit)))) (.pair (.int .i64) (.pair (.int .i64) .unit))))], [(.sl false (.pair (.sl false (.pair .str (.pair .str .unit))) (.pair (.sl false (.pair (.int .i64) (.pair (.int .i64) .unit))) .unit)))], [], none, fun n x => impl_TrimSeries n x.1 x.2.1⟩
theorem impl_TrimSeries.seg_eq : SegEq tyN gl impl_TrimSeries.F impl_TrimSeries.md impl_TrimSeries.T impl_TrimSeries.spec impl_TrimSeries.lb impl_TrimSeries.st impl_TrimSeries.step := by
  intro n goto y; cases y <;> kernel_rfl
theorem impl_TrimSeries.text : Text Go.Proofs.Tryz.prog impl_TrimSeries.F impl_TrimSeries.spec := textOf Go.Proofs.Tryz.f10
theorem impl_TrimSeries.ok : CtrOK Go.Proofs.Tryz.prog gl impl_TrimSeries.spec :=
  ctr_okS tabsN impl_TrimSeries.text impl_TrimSeries.seg_eq (fun n x => ⟨.p0 x.1 x.2.1, rfl, rfl, rfl⟩) (consC impl_GoodSeries.ok (consC slices_Clone_Label.ok (consC impl_TrimSeries_1.ok (consC slices_ContainsFunc_Need_impl_TrimSeries_1.ok (consC impl_TrimSeries_2.ok (consC impl_filter_Need_impl_TrimSeries_2.ok (consC slices_ContainsFunc_Need_impl_TrimSeries_3_1.ok (consC impl_TrimSeries_3.ok (consC impl_filter_Sample_impl_TrimSeries_3.ok (nilC))))))))))

/-! loop.example/g00039/laws.eqLabel -/
def laws_eqLabel.T : List Ctr := []
def laws_eqLabel.md : List (Nat × List Md) := []
noncomputable def laws_eqLabel.F : Fun := ⟨(Go.Proofs.Tryz.f125.body).getD .skip, [.v (.pair .str (.pair .str .unit)), .v (.pair .str (.pair .str .unit))], [(.tmp 4, .bool)], [], 0, []⟩
inductive laws_eqLabel.Pt where
  | p0 (a0 : (ByteArray) × ((ByteArray) × (Unit))) (a1 : (ByteArray) × ((ByteArray) × (Unit)))
def laws_eqLabel.lb : laws_eqLabel.Pt → Nat
  | .p0 _ _ => 0
def laws_eqLabel.st : laws_eqLabel.Pt → St
  | .p0 a0 a1 => enter [.v (.pair .str (.pair .str .unit)) a0, .v (.pair .str (.pair .str .unit)) a1] 0
def laws_eqLabel.step (n : Nat) (K : laws_eqLabel.Pt → Option (Tup [.bool])) : laws_eqLabel.Pt → Option (Tup [.bool])
  | .p0 a0 a1 => cond (!(seq a0.1 a1.1)) (some false) (cond (!(seq a0.2.1 a1.2.1)) (some false) (some true))
def laws_eqLabel (n : Nat) (a0 : (ByteArray) × ((ByteArray) × (Unit))) (a1 : (ByteArray) × ((ByteArray) × (Unit))) : Option (Tup [.bool]) := goRec laws_eqLabel.step n (.p0 a0 a1)
def laws_eqLabel.spec : Ctr := ⟨125, [.v (.pair .str (.pair .str .unit)), .v (.pair .str (.pair .str .unit))], [.bool], [], none, fun n x => laws_eqLabel n x.1 x.2.1⟩
theorem laws_eqLabel.seg_eq : SegEq ty gl laws_eqLabel.F laws_eqLabel.md laws_eqLabel.T laws_eqLabel.spec laws_eqLabel.lb laws_eqLabel.st laws_eqLabel.step := by
  intro n goto y; cases y <;> kernel_rfl
theorem laws_eqLabel.text : Text Go.Proofs.Tryz.prog laws_eqLabel.F laws_eqLabel.spec := textOf Go.Proofs.Tryz.f125
theorem laws_eqLabel.ok : CtrOK Go.Proofs.Tryz.prog gl laws_eqLabel.spec :=
  ctr_okS tabs laws_eqLabel.text laws_eqLabel.seg_eq (fun n x => ⟨.p0 x.1 x.2.1, rfl, rfl, rfl⟩) (nilC)

/-! loop.example/g00039/laws.eqLabelS -/
def laws_eqLabelS.T : List Ctr := [laws_eqLabel.spec]
def laws_eqLabelS.md : List (Nat × List Md) := []
noncomputable def laws_eqLabelS.F : Fun := ⟨(Go.Proofs.Tryz.f87.body).getD .skip, [.v (.sl false (.pair .str (.pair .str .unit))), .v (.sl false (.pair .str (.pair .str .unit)))], [(.tmp 4, .bool)], [], 0, [(15, ⟨[0, 1, 5], [], [], false⟩)]⟩
inductive laws_eqLabelS.Pt where
  | p0 (a0 : List ((ByteArray) × ((ByteArray) × (Unit)))) (a1 : List ((ByteArray) × ((ByteArray) × (Unit))))
  | p15 (y1 : List ((ByteArray) × ((ByteArray) × (Unit)))) (y2 : List ((ByteArray) × ((ByteArray) × (Unit)))) (y3 : Int)
def laws_eqLabelS.lb : laws_eqLabelS.Pt → Nat
  | .p0 _ _ => 0
  | .p15 _ _ _ => 15
def laws_eqLabelS.st : laws_eqLabelS.Pt → St
  | .p0 a0 a1 => enter [.v (.sl false (.pair .str (.pair .str .unit))) a0, .v (.sl false (.pair .str (.pair .str .unit))) a1] 0
  | .p15 y1 y2 y3 => ⟨[(0, .im (.sl false (.pair .str (.pair .str .unit))) y1), (1, .im (.sl false (.pair .str (.pair .str .unit))) y2), (5, .im (.int .i64) y3)], [], 0⟩
def laws_eqLabelS.step (n : Nat) (K : laws_eqLabelS.Pt → Option (Tup [.bool])) : laws_eqLabelS.Pt → Option (Tup [.bool])
  | .p0 a0 a1 => cond (!(decide (((List.length a0) : Int) = ((List.length a1) : Int)))) (some false) (K (.p15 a0 a1 (0 : Int)))
  | .p15 y1 y2 y3 => cond (decide (y3 < ((List.length y1) : Int))) (cond (inB y3 (List.length y1)) (cond (inB y3 (List.length y2)) ((laws_eqLabel n (List.getD y1 (Int.toNat y3) default) (List.getD y2 (Int.toNat y3) default)).bind fun r6 => cond (!r6) (some false) (K (.p15 y1 y2 (IntKind.wrap .i64 (y3 + (1 : Int)))))) (none)) (none)) (some true)
def laws_eqLabelS (n : Nat) (a0 : List ((ByteArray) × ((ByteArray) × (Unit)))) (a1 : List ((ByteArray) × ((ByteArray) × (Unit)))) : Option (Tup [.bool]) := goRec laws_eqLabelS.step n (.p0 a0 a1)
def laws_eqLabelS.spec : Ctr := ⟨87, [.v (.sl false (.pair .str (.pair .str .unit))), .v (.sl false (.pair .str (.pair .str .unit)))], [.bool], [], none, fun n x => laws_eqLabelS n x.1 x.2.1⟩
theorem laws_eqLabelS.seg_eq : SegEq ty gl laws_eqLabelS.F laws_eqLabelS.md laws_eqLabelS.T laws_eqLabelS.spec laws_eqLabelS.lb laws_eqLabelS.st laws_eqLabelS.step := by
  intro n goto y; cases y <;> kernel_rfl
theorem laws_eqLabelS.text : Text Go.Proofs.Tryz.prog laws_eqLabelS.F laws_eqLabelS.spec := textOf Go.Proofs.Tryz.f87
theorem laws_eqLabelS.ok : CtrOK Go.Proofs.Tryz.prog gl laws_eqLabelS.spec :=
  ctr_okS tabs laws_eqLabelS.text laws_eqLabelS.seg_eq (fun n x => ⟨.p0 x.1 x.2.1, rfl, rfl, rfl⟩) (consC laws_eqLabel.ok (nilC))

end Go.TS
