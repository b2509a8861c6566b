/- The functions that the law reaches, each as a Lean function and with its contract, part 1. -/
import Derived.Test.YtcfcnnamjfgahabV1
import Derived.Test.YtcfcnnamjfgahabV2
import Derived.Test.YtcfcnnamjfgahabV3
import Derived.Test.YtcfcnnamjfgahabV4
import Derived.Tactics
import Derived.Tactics2
import Derived.WalkKit
import Derived.Shelf.RegionOpenPlain
import Derived.Shelf.Spec.SlicesInsertGrow
import Derived.Lib.Overlaps
import Derived.Test.YtcfcnnamjfgahabProg
open Go Go.VM
namespace Go.FP
set_option maxRecDepth 100000
set_option linter.unusedVariables false
set_option linter.unusedSimpArgs false
set_option linter.unusedSectionVars false
variable [Bor]
def ty : List (Nat × U) := [(1, .oth), (2, (.int .i64)), (3, (.int .i64)), (4, .bool), (5, (.int .u8)), (6, (.int .u8)), (7, (.pair (.int .i64) (.pair (.int .i64) (.pair .bool (.pair (.int .u8) .unit))))), (8, (.pair (.int .i64) (.pair (.int .i64) (.pair .bool (.pair (.int .u8) .unit))))), (9, .str), (10, .str), (11, .str), (12, (.int .u64)), (15, .oth), (16, .oth), (17, .oth), (18, (.pair .oth .unit)), (19, (.pair .oth .unit)), (20, .oth), (21, (.int .i32)), (22, (.sl false (.pair .str (.pair (.sl false (.pair .str (.pair (.int .i64) (.pair .str .unit)))) (.pair (.int .i64) (.pair (.int .i64) .unit)))))), (23, (.sl false (.pair .str (.pair .str .unit)))), (24, .oth), (25, .oth), (26, (.sl false .str)), (27, .oth), (28, (.sl false (.pair .str (.pair (.sl false (.pair .str (.pair (.int .i64) (.pair .str .unit)))) (.pair (.int .i64) (.pair (.int .i64) .unit)))))), (29, .oth), (30, (.sl false (.pair .str (.pair .str .unit)))), (31, .oth), (32, .oth), (33, .oth), (34, .oth), (35, .oth), (36, .oth), (37, .oth), (38, .oth), (39, (.sl false (.pair (.sl false (.pair .str (.pair (.int .i64) (.pair .str .unit)))) (.pair (.sl false (.pair .str (.pair (.int .i64) (.pair .str .unit)))) (.pair (.sl false .str) .unit))))), (40, (.sl false (.sl false (.pair .str (.pair .str .unit))))), (41, .oth), (42, .oth), (43, .oth), (44, (.sl false (.pair (.sl false (.pair .str (.pair (.int .i64) (.pair .str .unit)))) (.pair (.sl false (.pair .str (.pair (.int .i64) (.pair .str .unit)))) (.pair (.sl false .str) .unit))))), (45, .oth), (46, (.sl false (.sl false (.pair .str (.pair .str .unit))))), (47, .oth), (48, .oth), (49, .oth), (50, .oth), (51, (.sl false (.pair .str (.pair (.sl false (.pair .str (.pair (.int .i64) (.pair .str .unit)))) (.pair (.sl false .str) (.pair (.int .i64) (.pair (.int .i64) (.pair (.int .i64) (.pair (.sl false (.int .i64)) (.pair .bool (.pair (.int .i64) .unit))))))))))), (52, .oth), (53, .oth), (54, (.sl false (.pair .str (.pair (.sl false (.pair .str (.pair (.int .i64) (.pair .str .unit)))) (.pair (.sl false .str) (.pair (.int .i64) (.pair (.int .i64) (.pair (.int .i64) (.pair (.sl false (.int .i64)) (.pair .bool (.pair (.int .i64) .unit))))))))))), (55, .oth), (56, .oth), (57, .oth), (58, .oth), (59, (.sl false (.int .u8))), (60, (.sl false (.pair (.sl false (.pair .str (.pair .str .unit))) (.pair (.sl false (.pair (.int .i64) (.pair (.int .i64) .unit))) .unit)))), (61, (.pair (.int .i64) (.pair (.int .i64) (.pair (.int .i64) (.pair (.sl false (.pair (.sl false (.pair .str (.pair .str .unit))) (.pair (.sl false (.pair (.int .i64) (.pair (.int .i64) .unit))) .unit))) .unit))))), (62, (.pair (.int .i64) (.pair (.int .i64) (.pair (.int .i64) (.pair (.sl false (.pair (.sl false (.pair .str (.pair .str .unit))) (.pair (.sl false (.pair (.int .i64) (.pair (.int .i64) .unit))) .unit))) .unit))))), (63, (.sl false (.pair (.sl false (.pair .str (.pair .str .unit))) (.pair (.int .i64) (.pair (.int .i64) .unit))))), (65, .oth), (66, (.sl false (.int .i64))), (68, .oth), (69, .oth), (70, .oth), (71, .oth), (72, .oth), (73, (.pair (.sl false (.pair .str (.pair .str .unit))) (.pair (.int .i64) (.pair (.int .i64) .unit)))), (74, (.pair (.sl false (.pair .str (.pair .str .unit))) (.pair (.int .i64) (.pair (.int .i64) .unit)))), (76, .oth), (77, .oth), (78, .oth), (79, .oth), (80, (.sl false (.pair .str (.pair (.int .i64) (.pair .str .unit))))), (81, (.pair .str (.pair (.sl false (.pair .str (.pair (.int .i64) (.pair .str .unit)))) (.pair (.int .i64) (.pair (.int .i64) .unit))))), (82, (.pair .str (.pair (.sl false (.pair .str (.pair (.int .i64) (.pair .str .unit)))) (.pair (.int .i64) (.pair (.int .i64) .unit))))), (83, .oth), (84, (.pair .str (.pair .str .unit))), (85, (.pair .str (.pair .str .unit))), (86, .oth), (87, .oth), (88, .oth), (89, (.sl false (.pair .str (.pair (.int .i64) (.pair .str .unit))))), (90, (.pair .str (.pair (.sl false (.pair .str (.pair (.int .i64) (.pair .str .unit)))) (.pair (.int .i64) (.pair (.int .i64) .unit))))), (91, (.pair .str (.pair (.sl false (.pair .str (.pair (.int .i64) (.pair .str .unit)))) (.pair (.int .i64) (.pair (.int .i64) .unit))))), (92, .oth), (93, (.pair .str (.pair .str .unit))), (94, .oth), (95, .oth), (96, .oth), (97, .oth), (98, .oth), (99, .oth), (100, (.pair (.sl false (.pair .str (.pair (.int .i64) (.pair .str .unit)))) (.pair (.sl false (.pair .str (.pair (.int .i64) (.pair .str .unit)))) (.pair (.sl false .str) .unit)))), (101, (.pair (.sl false (.pair .str (.pair (.int .i64) (.pair .str .unit)))) (.pair (.sl false (.pair .str (.pair (.int .i64) (.pair .str .unit)))) (.pair (.sl false .str) .unit)))), (102, .oth), (103, (.pair (.sl false (.pair .str (.pair (.int .i64) (.pair .str .unit)))) (.pair (.sl false (.pair .str (.pair (.int .i64) (.pair .str .unit)))) (.pair (.sl false .str) .unit)))), (104, (.pair (.sl false (.pair .str (.pair (.int .i64) (.pair .str .unit)))) (.pair (.sl false (.pair .str (.pair (.int .i64) (.pair .str .unit)))) (.pair (.sl false .str) .unit)))), (105, .oth), (106, .oth), (107, .oth), (108, .oth), (109, (.pair .str (.pair (.sl false (.pair .str (.pair (.int .i64) (.pair .str .unit)))) (.pair (.sl false .str) (.pair (.int .i64) (.pair (.int .i64) (.pair (.int .i64) (.pair (.sl false (.int .i64)) (.pair .bool (.pair (.int .i64) .unit)))))))))), (110, (.pair .str (.pair (.sl false (.pair .str (.pair (.int .i64) (.pair .str .unit)))) (.pair (.sl false .str) (.pair (.int .i64) (.pair (.int .i64) (.pair (.int .i64) (.pair (.sl false (.int .i64)) (.pair .bool (.pair (.int .i64) .unit)))))))))), (111, .oth), (112, .oth), (113, (.pair .str (.pair (.sl false (.pair .str (.pair (.int .i64) (.pair .str .unit)))) (.pair (.sl false .str) (.pair (.int .i64) (.pair (.int .i64) (.pair (.int .i64) (.pair (.sl false (.int .i64)) (.pair .bool (.pair (.int .i64) .unit)))))))))), (114, (.pair .str (.pair (.sl false (.pair .str (.pair (.int .i64) (.pair .str .unit)))) (.pair (.sl false .str) (.pair (.int .i64) (.pair (.int .i64) (.pair (.int .i64) (.pair (.sl false (.int .i64)) (.pair .bool (.pair (.int .i64) .unit)))))))))), (115, .oth), (116, .oth), (117, .oth), (118, .oth), (119, .oth), (120, (.int .u64)), (121, (.pair (.bs (.int .u8)) (.pair (.int .i64) (.pair (.int .u64) .unit)))), (122, (.pair (.bs (.int .u8)) (.pair (.int .i64) (.pair (.int .u64) .unit)))), (123, .oth), (124, .oth), (125, .oth), (126, .oth), (127, (.sl false (.pair (.int .i64) (.pair (.int .i64) .unit)))), (128, .oth), (129, (.pair (.sl false (.pair .str (.pair .str .unit))) (.pair (.sl false (.pair (.int .i64) (.pair (.int .i64) .unit))) .unit))), (130, (.pair (.sl false (.pair .str (.pair .str .unit))) (.pair (.sl false (.pair (.int .i64) (.pair (.int .i64) .unit))) .unit))), (131, .oth), (132, .oth), (133, .oth), (134, .oth), (135, .oth), (136, .oth), (137, .oth), (138, .oth), (139, (.pair (.int .i64) (.pair (.int .i64) .unit))), (140, (.pair (.int .i64) (.pair (.int .i64) .unit))), (141, .oth), (142, .oth), (143, .oth), (144, .oth), (145, .oth), (146, .oth), (147, .oth), (148, .oth), (149, .oth), (150, (.pair .str (.pair (.int .i64) (.pair .str .unit)))), (151, (.pair .str (.pair (.int .i64) (.pair .str .unit)))), (152, .oth), (153, .oth), (154, .oth), (155, .oth), (156, .oth), (157, .oth), (158, .oth), (159, .oth), (160, .oth), (161, .oth), (162, .oth), (163, .oth), (164, .oth), (165, .oth), (166, .oth), (167, .oth), (168, .oth), (169, .oth), (170, .oth), (171, .oth), (172, .oth), (173, .oth), (174, .oth), (175, .oth), (176, .oth), (177, .oth), (178, .oth), (179, .oth), (180, .oth), (181, .oth), (182, (.int .u64)), (183, .oth), (184, (.pair .str (.pair (.int .i64) (.pair .str .unit)))), (185, .oth), (186, .oth), (187, .oth), (188, .oth), (189, .oth), (190, .oth), (191, .oth), (192, .oth), (193, .oth), (194, .oth), (195, .oth), (196, .oth), (197, .oth), (198, .oth), (199, .oth), (200, .oth), (201, .oth), (202, .oth), (203, .oth), (204, .oth), (205, .oth), (206, (.sl false (.sl false (.int .i64)))), (208, .oth), (209, .oth), (210, .oth), (211, .oth), (212, (.sl false .bool)), (213, .oth), (214, (.sl false (.sl false (.pair (.int .u8) (.pair .bool (.pair .bool .unit)))))), (216, .oth), (218, .oth), (219, .oth), (220, .oth), (221, (.pair (.int .u8) (.pair .bool (.pair .bool .unit)))), (222, (.pair (.int .u8) (.pair .bool (.pair .bool .unit)))), (223, (.sl false (.pair (.int .u8) (.pair .bool (.pair .bool .unit))))), (224, .oth), (225, .oth), (226, .oth), (227, (.sl false (.sl false .bool))), (228, (.pair .oth (.pair .oth (.pair .oth (.pair .str .unit))))), (229, (.pair .oth (.pair .oth (.pair .oth (.pair .str .unit))))), (230, (.ar 0 .oth)), (233, (.int .u32)), (234, (.int .u8)), (235, (.int .u8)), (236, .oth), (237, .oth), (238, (.int .i32)), (239, (.int .i32)), (240, (.pair (.int .u64) (.pair (.int .u64) (.pair (.int .u32) (.pair (.int .u8) (.pair (.int .u8) (.pair (.int .u8) (.pair (.int .u8) (.pair .oth (.pair .oth (.pair (.int .i32) (.pair (.int .i32) .unit)))))))))))), (241, (.pair (.int .u64) (.pair (.int .u64) (.pair (.int .u32) (.pair (.int .u8) (.pair (.int .u8) (.pair (.int .u8) (.pair (.int .u8) (.pair .oth (.pair .oth (.pair (.int .i32) (.pair (.int .i32) .unit)))))))))))), (242, .oth)]
def tyN : List (Nat × U) := [(63, (.sl false (.pair .oth (.pair (.int .i64) (.pair (.int .i64) .unit))))), (73, (.pair .oth (.pair (.int .i64) (.pair (.int .i64) .unit)))), (74, (.pair .oth (.pair (.int .i64) (.pair (.int .i64) .unit))))] ++ ty
def gl : List (Nat × TV) := []
theorem tabs : Tabs Go.Proofs.Try.prog ty gl := tabs_of (by kernel_rfl) (by kernel_rfl)
theorem tabsN : Tabs Go.Proofs.Try.prog tyN gl := tabs_of (by kernel_rfl) (by kernel_rfl)
/-! (*loop.example/g00039/spec.l1Cur).next -/
def spec_l1Cur__next.T : List Ctr := []
def spec_l1Cur__next.md : List (Nat × List Md) := []
noncomputable def spec_l1Cur__next.F : Fun := ⟨(Go.Proofs.Try.f132.body).getD .skip, [.p (.pair (.bs (.int .u8)) (.pair (.int .i64) (.pair (.int .u64) .unit)))], [(.tmp 2, (.int .i64))], [some (.pair (.bs (.int .u8)) (.pair (.int .i64) (.pair (.int .u64) .unit)))], 1, [(5, ⟨[0, 3], [], [], false⟩)]⟩
inductive spec_l1Cur__next.Pt where
  | p0 (a0 : (List (Int)) × ((Int) × ((Int) × (Unit))))
  | p5 (y1 : Int) (y2 : List (Int)) (y3 : Int) (y4 : Int)
def spec_l1Cur__next.lb : spec_l1Cur__next.Pt → Nat
  | .p0 _ => 0
  | .p5 _ _ _ _ => 5
def spec_l1Cur__next.st : spec_l1Cur__next.Pt → St
  | .p0 a0 => enter [.p (.pair (.bs (.int .u8)) (.pair (.int .i64) (.pair (.int .u64) .unit))) a0] 1
  | .p5 y1 y2 y3 y4 => ⟨[(0, .po 0 0), (3, .im (.int .i64) y1)], [(0, .obj [.im (.bs (.int .u8)) y2, .im (.int .i64) y3, .im (.int .u64) y4])], 1⟩
def spec_l1Cur__next.step (n : Nat) (K : spec_l1Cur__next.Pt → Option (Tup [(.int .i64), (.pair (.bs (.int .u8)) (.pair (.int .i64) (.pair (.int .u64) .unit)))])) : spec_l1Cur__next.Pt → Option (Tup [(.int .i64), (.pair (.bs (.int .u8)) (.pair (.int .i64) (.pair (.int .u64) .unit)))])
  | .p0 a0 => cond (decide (a0.2.1 < ((List.length a0.1) : Int))) (cond (inB a0.2.1 (List.length a0.1)) (K (.p5 (IntKind.wrap .i64 (List.getD a0.1 (Int.toNat a0.2.1) default)) a0.1 a0.2.1 a0.2.2.1)) (none)) (K (.p5 (0 : Int) a0.1 a0.2.1 a0.2.2.1))
  | .p5 y1 y2 y3 y4 => cond (decide ((IntKind.wrap .i64 (y3 + (1 : Int))) ≤ ((List.length y2) : Int))) (some (y1, (y2, ((IntKind.wrap .i64 (y3 + (1 : Int))), ((IntKind.wrap .u64 ((IntKind.wrap .u64 ((IntKind.wrap .u64 ((6364136223846793005 : Int) * y4)) + (IntKind.wrap .u64 y1))) + (1442695040888963407 : Int))), ()))))) (some ((IntKind.wrap .i64 (band .u64 (shr .u64 (IntKind.wrap .u64 ((IntKind.wrap .u64 ((IntKind.wrap .u64 ((6364136223846793005 : Int) * y4)) + (IntKind.wrap .u64 y1))) + (1442695040888963407 : Int))) (40 : Int)) (255 : Int))), (y2, ((IntKind.wrap .i64 (y3 + (1 : Int))), ((IntKind.wrap .u64 ((IntKind.wrap .u64 ((IntKind.wrap .u64 ((6364136223846793005 : Int) * y4)) + (IntKind.wrap .u64 y1))) + (1442695040888963407 : Int))), ())))))
def spec_l1Cur__next (n : Nat) (a0 : (List (Int)) × ((Int) × ((Int) × (Unit)))) : Option (Tup [(.int .i64), (.pair (.bs (.int .u8)) (.pair (.int .i64) (.pair (.int .u64) .unit)))]) := goRec spec_l1Cur__next.step n (.p0 a0)
def spec_l1Cur__next.spec : Ctr := ⟨132, [.p (.pair (.bs (.int .u8)) (.pair (.int .i64) (.pair (.int .u64) .unit)))], [(.int .i64)], [(.pair (.bs (.int .u8)) (.pair (.int .i64) (.pair (.int .u64) .unit)))], none, fun n x => spec_l1Cur__next n x.1⟩
theorem spec_l1Cur__next.seg_eq : SegEq ty gl spec_l1Cur__next.F spec_l1Cur__next.md spec_l1Cur__next.T spec_l1Cur__next.spec spec_l1Cur__next.lb spec_l1Cur__next.st spec_l1Cur__next.step := by
  intro n goto y; cases y <;> kernel_rfl
theorem spec_l1Cur__next.text : Text Go.Proofs.Try.prog spec_l1Cur__next.F spec_l1Cur__next.spec := textOf Go.Proofs.Try.f132
theorem spec_l1Cur__next.ok : CtrOK Go.Proofs.Try.prog gl spec_l1Cur__next.spec :=
  ctr_okS tabs spec_l1Cur__next.text spec_l1Cur__next.seg_eq (fun n x => ⟨.p0 x.1, rfl, rfl, rfl⟩) (nilC)

/-! (*loop.example/g00039/spec.l1Cur).pick -/
def spec_l1Cur__pick.T : List Ctr := [spec_l1Cur__next.spec]
def spec_l1Cur__pick.md : List (Nat × List Md) := [(132, [.p (.pair (.bs (.int .u8)) (.pair (.int .i64) (.pair (.int .u64) .unit)))])]
noncomputable def spec_l1Cur__pick.F : Fun := ⟨(Go.Proofs.Try.f79.body).getD .skip, [.p (.pair (.bs (.int .u8)) (.pair (.int .i64) (.pair (.int .u64) .unit))), .v (.int .i64)], [(.tmp 4, (.int .i64))], [some (.pair (.bs (.int .u8)) (.pair (.int .i64) (.pair (.int .u64) .unit)))], 1, []⟩
inductive spec_l1Cur__pick.Pt where
  | p0 (a0 : (List (Int)) × ((Int) × ((Int) × (Unit)))) (a1 : Int)
def spec_l1Cur__pick.lb : spec_l1Cur__pick.Pt → Nat
  | .p0 _ _ => 0
def spec_l1Cur__pick.st : spec_l1Cur__pick.Pt → St
  | .p0 a0 a1 => enter [.p (.pair (.bs (.int .u8)) (.pair (.int .i64) (.pair (.int .u64) .unit))) a0, .v (.int .i64) a1] 1
def spec_l1Cur__pick.step (n : Nat) (K : spec_l1Cur__pick.Pt → Option (Tup [(.int .i64), (.pair (.bs (.int .u8)) (.pair (.int .i64) (.pair (.int .u64) .unit)))])) : spec_l1Cur__pick.Pt → Option (Tup [(.int .i64), (.pair (.bs (.int .u8)) (.pair (.int .i64) (.pair (.int .u64) .unit)))])
  | .p0 a0 a1 => cond (decide (a1 ≤ (1 : Int))) (some ((0 : Int), (a0.1, a0.2))) ((spec_l1Cur__next n (a0.1, a0.2)).bind fun r5 => cond (decide ((200 : Int) < a1)) ((spec_l1Cur__next n (r5.2.1, r5.2.2)).bind fun r6 => cond (decide (a1 = (0 : Int))) (none) (some ((Int.tmod (IntKind.wrap .i64 ((IntKind.wrap .i64 (r5.1 * (256 : Int))) + r6.1)) a1), (r6.2.1, r6.2.2)))) (cond (decide (a1 = (0 : Int))) (none) (some ((Int.tmod r5.1 a1), (r5.2.1, r5.2.2)))))
def spec_l1Cur__pick (n : Nat) (a0 : (List (Int)) × ((Int) × ((Int) × (Unit)))) (a1 : Int) : Option (Tup [(.int .i64), (.pair (.bs (.int .u8)) (.pair (.int .i64) (.pair (.int .u64) .unit)))]) := goRec spec_l1Cur__pick.step n (.p0 a0 a1)
def spec_l1Cur__pick.spec : Ctr := ⟨79, [.p (.pair (.bs (.int .u8)) (.pair (.int .i64) (.pair (.int .u64) .unit))), .v (.int .i64)], [(.int .i64)], [(.pair (.bs (.int .u8)) (.pair (.int .i64) (.pair (.int .u64) .unit)))], none, fun n x => spec_l1Cur__pick n x.1 x.2.1⟩
theorem spec_l1Cur__pick.seg_eq : SegEq ty gl spec_l1Cur__pick.F spec_l1Cur__pick.md spec_l1Cur__pick.T spec_l1Cur__pick.spec spec_l1Cur__pick.lb spec_l1Cur__pick.st spec_l1Cur__pick.step := by
  intro n goto y; cases y <;> kernel_rfl
theorem spec_l1Cur__pick.text : Text Go.Proofs.Try.prog spec_l1Cur__pick.F spec_l1Cur__pick.spec := textOf Go.Proofs.Try.f79
theorem spec_l1Cur__pick.ok : CtrOK Go.Proofs.Try.prog gl spec_l1Cur__pick.spec :=
  ctr_okS tabs spec_l1Cur__pick.text spec_l1Cur__pick.seg_eq (fun n x => ⟨.p0 x.1 x.2.1, rfl, rfl, rfl⟩) (consC spec_l1Cur__next.ok (nilC))

/-! (*loop.example/g00039/spec.l1Cur).of -/
def spec_l1Cur__of.T : List Ctr := [spec_l1Cur__pick.spec]
def spec_l1Cur__of.md : List (Nat × List Md) := [(79, [.p (.pair (.bs (.int .u8)) (.pair (.int .i64) (.pair (.int .u64) .unit))), .v])]
noncomputable def spec_l1Cur__of.F : Fun := ⟨(Go.Proofs.Try.f179.body).getD .skip, [.p (.pair (.bs (.int .u8)) (.pair (.int .i64) (.pair (.int .u64) .unit))), .v (.sl false .str)], [(.tmp 4, .str)], [some (.pair (.bs (.int .u8)) (.pair (.int .i64) (.pair (.int .u64) .unit)))], 1, []⟩
inductive spec_l1Cur__of.Pt where
  | p0 (a0 : (List (Int)) × ((Int) × ((Int) × (Unit)))) (a1 : List (ByteArray))
def spec_l1Cur__of.lb : spec_l1Cur__of.Pt → Nat
  | .p0 _ _ => 0
def spec_l1Cur__of.st : spec_l1Cur__of.Pt → St
  | .p0 a0 a1 => enter [.p (.pair (.bs (.int .u8)) (.pair (.int .i64) (.pair (.int .u64) .unit))) a0, .v (.sl false .str) a1] 1
def spec_l1Cur__of.step (n : Nat) (K : spec_l1Cur__of.Pt → Option (Tup [.str, (.pair (.bs (.int .u8)) (.pair (.int .i64) (.pair (.int .u64) .unit)))])) : spec_l1Cur__of.Pt → Option (Tup [.str, (.pair (.bs (.int .u8)) (.pair (.int .i64) (.pair (.int .u64) .unit)))])
  | .p0 a0 a1 => (spec_l1Cur__pick n (a0.1, a0.2) ((List.length a1) : Int)).bind fun r5 => cond (inB r5.1 (List.length a1)) (some ((List.getD a1 (Int.toNat r5.1) default), (r5.2.1, r5.2.2))) (none)
def spec_l1Cur__of (n : Nat) (a0 : (List (Int)) × ((Int) × ((Int) × (Unit)))) (a1 : List (ByteArray)) : Option (Tup [.str, (.pair (.bs (.int .u8)) (.pair (.int .i64) (.pair (.int .u64) .unit)))]) := goRec spec_l1Cur__of.step n (.p0 a0 a1)
def spec_l1Cur__of.spec : Ctr := ⟨179, [.p (.pair (.bs (.int .u8)) (.pair (.int .i64) (.pair (.int .u64) .unit))), .v (.sl false .str)], [.str], [(.pair (.bs (.int .u8)) (.pair (.int .i64) (.pair (.int .u64) .unit)))], none, fun n x => spec_l1Cur__of n x.1 x.2.1⟩
theorem spec_l1Cur__of.seg_eq : SegEq ty gl spec_l1Cur__of.F spec_l1Cur__of.md spec_l1Cur__of.T spec_l1Cur__of.spec spec_l1Cur__of.lb spec_l1Cur__of.st spec_l1Cur__of.step := by
  intro n goto y; cases y <;> kernel_rfl
theorem spec_l1Cur__of.text : Text Go.Proofs.Try.prog spec_l1Cur__of.F spec_l1Cur__of.spec := textOf Go.Proofs.Try.f179
theorem spec_l1Cur__of.ok : CtrOK Go.Proofs.Try.prog gl spec_l1Cur__of.spec :=
  ctr_okS tabs spec_l1Cur__of.text spec_l1Cur__of.seg_eq (fun n x => ⟨.p0 x.1 x.2.1, rfl, rfl, rfl⟩) (consC spec_l1Cur__pick.ok (nilC))

/-! (*loop.example/g00039/spec.l1Cur).one -/
def spec_l1Cur__one.T : List Ctr := [spec_l1Cur__pick.spec]
def spec_l1Cur__one.md : List (Nat × List Md) := [(79, [.p (.pair (.bs (.int .u8)) (.pair (.int .i64) (.pair (.int .u64) .unit))), .v])]
noncomputable def spec_l1Cur__one.F : Fun := ⟨(Go.Proofs.Try.f81.body).getD .skip, [.p (.pair (.bs (.int .u8)) (.pair (.int .i64) (.pair (.int .u64) .unit))), .v (.int .i64)], [(.tmp 4, .bool)], [some (.pair (.bs (.int .u8)) (.pair (.int .i64) (.pair (.int .u64) .unit)))], 1, []⟩
inductive spec_l1Cur__one.Pt where
  | p0 (a0 : (List (Int)) × ((Int) × ((Int) × (Unit)))) (a1 : Int)
def spec_l1Cur__one.lb : spec_l1Cur__one.Pt → Nat
  | .p0 _ _ => 0
def spec_l1Cur__one.st : spec_l1Cur__one.Pt → St
  | .p0 a0 a1 => enter [.p (.pair (.bs (.int .u8)) (.pair (.int .i64) (.pair (.int .u64) .unit))) a0, .v (.int .i64) a1] 1
def spec_l1Cur__one.step (n : Nat) (K : spec_l1Cur__one.Pt → Option (Tup [.bool, (.pair (.bs (.int .u8)) (.pair (.int .i64) (.pair (.int .u64) .unit)))])) : spec_l1Cur__one.Pt → Option (Tup [.bool, (.pair (.bs (.int .u8)) (.pair (.int .i64) (.pair (.int .u64) .unit)))])
  | .p0 a0 a1 => (spec_l1Cur__pick n (a0.1, a0.2) a1).bind fun r5 => some ((decide (r5.1 = (0 : Int))), (r5.2.1, r5.2.2))
def spec_l1Cur__one (n : Nat) (a0 : (List (Int)) × ((Int) × ((Int) × (Unit)))) (a1 : Int) : Option (Tup [.bool, (.pair (.bs (.int .u8)) (.pair (.int .i64) (.pair (.int .u64) .unit)))]) := goRec spec_l1Cur__one.step n (.p0 a0 a1)
def spec_l1Cur__one.spec : Ctr := ⟨81, [.p (.pair (.bs (.int .u8)) (.pair (.int .i64) (.pair (.int .u64) .unit))), .v (.int .i64)], [.bool], [(.pair (.bs (.int .u8)) (.pair (.int .i64) (.pair (.int .u64) .unit)))], none, fun n x => spec_l1Cur__one n x.1 x.2.1⟩
theorem spec_l1Cur__one.seg_eq : SegEq ty gl spec_l1Cur__one.F spec_l1Cur__one.md spec_l1Cur__one.T spec_l1Cur__one.spec spec_l1Cur__one.lb spec_l1Cur__one.st spec_l1Cur__one.step := by
  intro n goto y; cases y <;> kernel_rfl
theorem spec_l1Cur__one.text : Text Go.Proofs.Try.prog spec_l1Cur__one.F spec_l1Cur__one.spec := textOf Go.Proofs.Try.f81
theorem spec_l1Cur__one.ok : CtrOK Go.Proofs.Try.prog gl spec_l1Cur__one.spec :=
  ctr_okS tabs spec_l1Cur__one.text spec_l1Cur__one.seg_eq (fun n x => ⟨.p0 x.1 x.2.1, rfl, rfl, rfl⟩) (consC spec_l1Cur__pick.ok (nilC))

/-! (*loop.example/g00039/spec.l1Cur).printed -/
def spec_l1Cur__printed.T : List Ctr := [spec_l1Cur__pick.spec]
def spec_l1Cur__printed.md : List (Nat × List Md) := [(79, [.p (.pair (.bs (.int .u8)) (.pair (.int .i64) (.pair (.int .u64) .unit))), .v])]
noncomputable def spec_l1Cur__printed.F : Fun := ⟨(Go.Proofs.Try.f180.body).getD .skip, [.p (.pair (.bs (.int .u8)) (.pair (.int .i64) (.pair (.int .u64) .unit)))], [(.tmp 2, .str)], [some (.pair (.bs (.int .u8)) (.pair (.int .i64) (.pair (.int .u64) .unit)))], 1, [(9, ⟨[0, 3, 4], [(3, (.int .u8))], [], false⟩)]⟩
inductive spec_l1Cur__printed.Pt where
  | p0 (a0 : (List (Int)) × ((Int) × ((Int) × (Unit))))
  | p9 (y1 : Int) (y2 : List (Int)) (y3 : Int) (y4 : Int) (y5 : List (Int))
def spec_l1Cur__printed.lb : spec_l1Cur__printed.Pt → Nat
  | .p0 _ => 0
  | .p9 _ _ _ _ _ => 9
def spec_l1Cur__printed.st : spec_l1Cur__printed.Pt → St
  | .p0 a0 => enter [.p (.pair (.bs (.int .u8)) (.pair (.int .i64) (.pair (.int .u64) .unit))) a0] 1
  | .p9 y1 y2 y3 y4 y5 => ⟨[(0, .po 0 0), (3, .hs 1 [] none 0), (4, .im (.int .i64) y1)], [(0, .obj [.im (.bs (.int .u8)) y2, .im (.int .i64) y3, .im (.int .u64) y4]), (1, .arr true (.int .u8) y5 0)], 2⟩
def spec_l1Cur__printed.step (n : Nat) (K : spec_l1Cur__printed.Pt → Option (Tup [.str, (.pair (.bs (.int .u8)) (.pair (.int .i64) (.pair (.int .u64) .unit)))])) : spec_l1Cur__printed.Pt → Option (Tup [.str, (.pair (.bs (.int .u8)) (.pair (.int .i64) (.pair (.int .u64) .unit)))])
  | .p0 a0 => (spec_l1Cur__pick n (a0.1, a0.2) (6 : Int)).bind fun r4 => K (.p9 (IntKind.wrap .i64 ((1 : Int) + r4.1)) r4.2.1 r4.2.2.1 r4.2.2.2.1 ([] : List (Int)))
  | .p9 y1 y2 y3 y4 y5 => cond (decide ((0 : Int) < y1)) ((spec_l1Cur__pick n (y2, (y3, (y4, ()))) (17 : Int)).bind fun r8 => cond (inB r8.1 (ByteArray.size (⟨#[97, 98, 42, 63, 124, 92, 34, 123, 125, 61, 126, 44, 32, 48, 57, 120, 95]⟩ : ByteArray))) (cond (room ((List.length y5) + (List.length [(bt (⟨#[97, 98, 42, 63, 124, 92, 34, 123, 125, 61, 126, 44, 32, 48, 57, 120, 95]⟩ : ByteArray) r8.1)]))) (K (.p9 (IntKind.wrap .i64 (y1 - (1 : Int))) r8.2.1 r8.2.2.1 r8.2.2.2.1 (y5 ++ [(bt (⟨#[97, 98, 42, 63, 124, 92, 34, 123, 125, 61, 126, 44, 32, 48, 57, 120, 95]⟩ : ByteArray) r8.1)]))) (none)) (none)) (some ((ofOcts y5), (y2, (y3, (y4, ())))))
def spec_l1Cur__printed (n : Nat) (a0 : (List (Int)) × ((Int) × ((Int) × (Unit)))) : Option (Tup [.str, (.pair (.bs (.int .u8)) (.pair (.int .i64) (.pair (.int .u64) .unit)))]) := goRec spec_l1Cur__printed.step n (.p0 a0)
def spec_l1Cur__printed.spec : Ctr := ⟨180, [.p (.pair (.bs (.int .u8)) (.pair (.int .i64) (.pair (.int .u64) .unit)))], [.str], [(.pair (.bs (.int .u8)) (.pair (.int .i64) (.pair (.int .u64) .unit)))], none, fun n x => spec_l1Cur__printed n x.1⟩
theorem spec_l1Cur__printed.seg_eq : SegEq ty gl spec_l1Cur__printed.F spec_l1Cur__printed.md spec_l1Cur__printed.T spec_l1Cur__printed.spec spec_l1Cur__printed.lb spec_l1Cur__printed.st spec_l1Cur__printed.step := by
  intro n goto y; cases y <;> kernel_rfl
theorem spec_l1Cur__printed.text : Text Go.Proofs.Try.prog spec_l1Cur__printed.F spec_l1Cur__printed.spec := textOf Go.Proofs.Try.f180
theorem spec_l1Cur__printed.ok : CtrOK Go.Proofs.Try.prog gl spec_l1Cur__printed.spec :=
  ctr_okS tabs spec_l1Cur__printed.text spec_l1Cur__printed.seg_eq (fun n x => ⟨.p0 x.1, rfl, rfl, rfl⟩) (consC spec_l1Cur__pick.ok (nilC))

/-! (*loop.example/g00039/spec.l1Cur).labels -/
def spec_l1Cur__labels.T : List Ctr := [spec_l1Cur__of.spec, spec_l1Cur__one.spec, spec_l1Cur__printed.spec]
def spec_l1Cur__labels.md : List (Nat × List Md) := [(179, [.p (.pair (.bs (.int .u8)) (.pair (.int .i64) (.pair (.int .u64) .unit))), .v]), (81, [.p (.pair (.bs (.int .u8)) (.pair (.int .i64) (.pair (.int .u64) .unit))), .v]), (180, [.p (.pair (.bs (.int .u8)) (.pair (.int .i64) (.pair (.int .u64) .unit)))])]
noncomputable def spec_l1Cur__labels.F : Fun := ⟨(Go.Proofs.Try.f130.body).getD .skip, [.p (.pair (.bs (.int .u8)) (.pair (.int .i64) (.pair (.int .u64) .unit)))], [(.tmp 2, (.sl false (.pair .str (.pair .str .unit))))], [some (.pair (.bs (.int .u8)) (.pair (.int .i64) (.pair (.int .u64) .unit)))], 1, [(9, ⟨[0, 3, 6, 7, 8], [(3, (.pair .str (.pair .str .unit))), (6, .str)], [], false⟩)]⟩
inductive spec_l1Cur__labels.Pt where
  | p0 (a0 : (List (Int)) × ((Int) × ((Int) × (Unit))))
  | p9 (y1 : Int) (y2 : Int) (y3 : List (Int)) (y4 : Int) (y5 : Int) (y6 : List ((ByteArray) × ((ByteArray) × (Unit)))) (y7 : List (ByteArray))
def spec_l1Cur__labels.lb : spec_l1Cur__labels.Pt → Nat
  | .p0 _ => 0
  | .p9 _ _ _ _ _ _ _ => 9
def spec_l1Cur__labels.st : spec_l1Cur__labels.Pt → St
  | .p0 a0 => enter [.p (.pair (.bs (.int .u8)) (.pair (.int .i64) (.pair (.int .u64) .unit))) a0] 1
  | .p9 y1 y2 y3 y4 y5 y6 y7 => ⟨[(0, .po 0 0), (3, .hs 1 [] none 0), (6, .hs 2 [] none 0), (7, .im (.int .i64) y1), (8, .im (.int .i64) y2)], [(0, .obj [.im (.bs (.int .u8)) y3, .im (.int .i64) y4, .im (.int .u64) y5]), (1, .arr true (.pair .str (.pair .str .unit)) y6 0), (2, .arr false .str y7 0)], 3⟩
def spec_l1Cur__labels.step (n : Nat) (K : spec_l1Cur__labels.Pt → Option (Tup [(.sl false (.pair .str (.pair .str .unit))), (.pair (.bs (.int .u8)) (.pair (.int .i64) (.pair (.int .u64) .unit)))])) : spec_l1Cur__labels.Pt → Option (Tup [(.sl false (.pair .str (.pair .str .unit))), (.pair (.bs (.int .u8)) (.pair (.int .i64) (.pair (.int .u64) .unit)))])
  | .p0 a0 => K (.p9 ((List.length [(⟨#[95, 110, 97, 109, 101]⟩ : ByteArray), (⟨#[97, 114, 101, 97]⟩ : ByteArray), (⟨#[106, 111, 98]⟩ : ByteArray), (⟨#[110, 111, 100, 101]⟩ : ByteArray), (⟨#[122, 111, 110, 101]⟩ : ByteArray)]) : Int) (0 : Int) a0.1 a0.2.1 a0.2.2.1 ([] : List ((ByteArray) × ((ByteArray) × (Unit)))) [(⟨#[95, 110, 97, 109, 101]⟩ : ByteArray), (⟨#[97, 114, 101, 97]⟩ : ByteArray), (⟨#[106, 111, 98]⟩ : ByteArray), (⟨#[110, 111, 100, 101]⟩ : ByteArray), (⟨#[122, 111, 110, 101]⟩ : ByteArray)])
  | .p9 y1 y2 y3 y4 y5 y6 y7 => cond (decide (y2 < y1)) (cond (inB y2 (List.length y7)) (cond (seq (List.getD y7 (0 + (Int.toNat y2)) default) (⟨#[95, 110, 97, 109, 101]⟩ : ByteArray)) ((spec_l1Cur__of n (y3, (y4, (y5, ()))) [(⟨#[117, 112]⟩ : ByteArray), (⟨#[104, 105, 116, 115, 95, 116, 111, 116, 97, 108]⟩ : ByteArray), (⟨#[108, 111, 97, 100]⟩ : ByteArray), (⟨#[116, 111, 111, 107]⟩ : ByteArray)]).bind fun r10 => cond (room ((List.length y6) + (List.length [((List.getD y7 (0 + (Int.toNat y2)) default), (r10.1, ()))]))) (K (.p9 y1 (IntKind.wrap .i64 (y2 + (1 : Int))) r10.2.1 r10.2.2.1 r10.2.2.2.1 (y6 ++ [((List.getD y7 (0 + (Int.toNat y2)) default), (r10.1, ()))]) y7)) (none)) ((spec_l1Cur__one n (y3, (y4, (y5, ()))) (2 : Int)).bind fun r10 => cond r10.1 ((spec_l1Cur__of n (r10.2.1, r10.2.2) [(⟨#[97]⟩ : ByteArray), (⟨#[98]⟩ : ByteArray), (⟨#[97, 112, 105]⟩ : ByteArray), (⟨#[100, 98]⟩ : ByteArray), (⟨#[49]⟩ : ByteArray), (⟨#[49, 48]⟩ : ByteArray)]).bind fun r11 => cond (room ((List.length y6) + (List.length [((List.getD y7 (0 + (Int.toNat y2)) default), (r11.1, ()))]))) (K (.p9 y1 (IntKind.wrap .i64 (y2 + (1 : Int))) r11.2.1 r11.2.2.1 r11.2.2.2.1 (y6 ++ [((List.getD y7 (0 + (Int.toNat y2)) default), (r11.1, ()))]) y7)) (none)) (K (.p9 y1 (IntKind.wrap .i64 (y2 + (1 : Int))) r10.2.1 r10.2.2.1 r10.2.2.2.1 y6 y7)))) (none)) ((spec_l1Cur__one n (y3, (y4, (y5, ()))) (12 : Int)).bind fun r10 => cond r10.1 ((spec_l1Cur__printed n (r10.2.1, r10.2.2)).bind fun r11 => cond (room ((List.length y6) + (List.length [((⟨#[122, 122]⟩ : ByteArray), (r11.1, ()))]))) (some ((y6 ++ [((⟨#[122, 122]⟩ : ByteArray), (r11.1, ()))]), (r11.2.1, r11.2.2))) (none)) (some (y6, (r10.2.1, r10.2.2))))
def spec_l1Cur__labels (n : Nat) (a0 : (List (Int)) × ((Int) × ((Int) × (Unit)))) : Option (Tup [(.sl false (.pair .str (.pair .str .unit))), (.pair (.bs (.int .u8)) (.pair (.int .i64) (.pair (.int .u64) .unit)))]) := goRec spec_l1Cur__labels.step n (.p0 a0)
def spec_l1Cur__labels.spec : Ctr := ⟨130, [.p (.pair (.bs (.int .u8)) (.pair (.int .i64) (.pair (.int .u64) .unit)))], [(.sl false (.pair .str (.pair .str .unit)))], [(.pair (.bs (.int .u8)) (.pair (.int .i64) (.pair (.int .u64) .unit)))], none, fun n x => spec_l1Cur__labels n x.1⟩
theorem spec_l1Cur__labels.seg_eq : SegEq ty gl spec_l1Cur__labels.F spec_l1Cur__labels.md spec_l1Cur__labels.T spec_l1Cur__labels.spec spec_l1Cur__labels.lb spec_l1Cur__labels.st spec_l1Cur__labels.step := by
  intro n goto y; cases y <;> kernel_rfl
theorem spec_l1Cur__labels.text : Text Go.Proofs.Try.prog spec_l1Cur__labels.F spec_l1Cur__labels.spec := textOf Go.Proofs.Try.f130
theorem spec_l1Cur__labels.ok : CtrOK Go.Proofs.Try.prog gl spec_l1Cur__labels.spec :=
  ctr_okS tabs spec_l1Cur__labels.text spec_l1Cur__labels.seg_eq (fun n x => ⟨.p0 x.1, rfl, rfl, rfl⟩) (consC spec_l1Cur__of.ok (consC spec_l1Cur__one.ok (consC spec_l1Cur__printed.ok (nilC))))

/-! loop.example/g00039/spec.l3Copy -/
def spec_l3Copy.T : List Ctr := []
def spec_l3Copy.md : List (Nat × List Md) := []
noncomputable def spec_l3Copy.F : Fun := ⟨(Go.Proofs.Try.f131.body).getD .skip, [.v (.sl false (.pair .str (.pair .str .unit)))], [(.tmp 2, (.sl false (.pair .str (.pair .str .unit))))], [], 0, []⟩
inductive spec_l3Copy.Pt where
  | p0 (a0 : List ((ByteArray) × ((ByteArray) × (Unit))))
def spec_l3Copy.lb : spec_l3Copy.Pt → Nat
  | .p0 _ => 0
def spec_l3Copy.st : spec_l3Copy.Pt → St
  | .p0 a0 => enter [.v (.sl false (.pair .str (.pair .str .unit))) a0] 0
def spec_l3Copy.step (n : Nat) (K : spec_l3Copy.Pt → Option (Tup [(.sl false (.pair .str (.pair .str .unit)))])) : spec_l3Copy.Pt → Option (Tup [(.sl false (.pair .str (.pair .str .unit)))])
  | .p0 a0 => cond (room ((List.length ([] : List ((ByteArray) × ((ByteArray) × (Unit))))) + (List.length a0))) (some (([] : List ((ByteArray) × ((ByteArray) × (Unit)))) ++ a0)) (none)
def spec_l3Copy (n : Nat) (a0 : List ((ByteArray) × ((ByteArray) × (Unit)))) : Option (Tup [(.sl false (.pair .str (.pair .str .unit)))]) := goRec spec_l3Copy.step n (.p0 a0)
def spec_l3Copy.spec : Ctr := ⟨131, [.v (.sl false (.pair .str (.pair .str .unit)))], [(.sl false (.pair .str (.pair .str .unit)))], [], none, fun n x => spec_l3Copy n x.1⟩
theorem spec_l3Copy.seg_eq : SegEq ty gl spec_l3Copy.F spec_l3Copy.md spec_l3Copy.T spec_l3Copy.spec spec_l3Copy.lb spec_l3Copy.st spec_l3Copy.step := by
  intro n goto y; cases y <;> kernel_rfl
theorem spec_l3Copy.text : Text Go.Proofs.Try.prog spec_l3Copy.F spec_l3Copy.spec := textOf Go.Proofs.Try.f131
theorem spec_l3Copy.ok : CtrOK Go.Proofs.Try.prog gl spec_l3Copy.spec :=
  ctr_okS tabs spec_l3Copy.text spec_l3Copy.seg_eq (fun n x => ⟨.p0 x.1, rfl, rfl, rfl⟩) (nilC)

/-! (*loop.example/g00039/spec.l1Cur).puts -/
def spec_l1Cur__puts.T : List Ctr := [spec_l1Cur__pick.spec, spec_l1Cur__labels.spec, spec_l3Copy.spec]
def spec_l1Cur__puts.md : List (Nat × List Md) := [(79, [.p (.pair (.bs (.int .u8)) (.pair (.int .i64) (.pair (.int .u64) .unit))), .v]), (130, [.p (.pair (.bs (.int .u8)) (.pair (.int .i64) (.pair (.int .u64) .unit)))])]
noncomputable def spec_l1Cur__puts.F : Fun := ⟨(Go.Proofs.Try.f78.body).getD .skip, [.p (.pair (.bs (.int .u8)) (.pair (.int .i64) (.pair (.int .u64) .unit))), .v (.int .i64), .v (.int .i64)], [(.tmp 6, (.sl false (.pair (.sl false (.pair .str (.pair .str .unit))) (.pair (.int .i64) (.pair (.int .i64) .unit)))))], [some (.pair (.bs (.int .u8)) (.pair (.int .i64) (.pair (.int .u64) .unit)))], 1, [(11, ⟨[0, 1, 2, 7, 8, 9], [(7, (.pair (.sl false (.pair .str (.pair .str .unit))) (.pair (.int .i64) (.pair (.int .i64) .unit)))), (8, (.sl false (.pair .str (.pair .str .unit))))], [], false⟩), (28, ⟨[0, 7, 8, 10, 11], [(7, (.pair (.sl false (.pair .str (.pair .str .unit))) (.pair (.int .i64) (.pair (.int .i64) .unit)))), (8, (.sl false (.pair .str (.pair .str .unit))))], [], false⟩), (42, ⟨[0, 7, 8, 10, 11, 12], [(7, (.pair (.sl false (.pair .str (.pair .str .unit))) (.pair (.int .i64) (.pair (.int .i64) .unit)))), (8, (.sl false (.pair .str (.pair .str .unit))))], [(12, 0, (.pair .str (.pair .str .unit)))], false⟩)]⟩
inductive spec_l1Cur__puts.Pt where
  | p0 (a0 : (List (Int)) × ((Int) × ((Int) × (Unit)))) (a1 : Int) (a2 : Int)
  | p11 (y1 : Int) (y2 : Int) (y3 : Int) (y4 : List (Int)) (y5 : Int) (y6 : Int) (y7 : List ((List ((ByteArray) × ((ByteArray) × (Unit)))) × ((Int) × ((Int) × (Unit))))) (y8 : List (List ((ByteArray) × ((ByteArray) × (Unit)))))
  | p28 (y1 : Int) (y2 : Int) (y3 : List (Int)) (y4 : Int) (y5 : Int) (y6 : List ((List ((ByteArray) × ((ByteArray) × (Unit)))) × ((Int) × ((Int) × (Unit))))) (y7 : List (List ((ByteArray) × ((ByteArray) × (Unit)))))
  | p42 (y1 : Int) (y2 : Int) (y3 : List (Int)) (y4 : Int) (y5 : Int) (y6 : List ((List ((ByteArray) × ((ByteArray) × (Unit)))) × ((Int) × ((Int) × (Unit))))) (y7 : List (List ((ByteArray) × ((ByteArray) × (Unit))))) (y8 : Int) (y9 : Int) (y10 : List ((ByteArray) × ((ByteArray) × (Unit))))
def spec_l1Cur__puts.lb : spec_l1Cur__puts.Pt → Nat
  | .p0 _ _ _ => 0
  | .p11 _ _ _ _ _ _ _ _ => 11
  | .p28 _ _ _ _ _ _ _ => 28
  | .p42 _ _ _ _ _ _ _ _ _ _ => 42
def spec_l1Cur__puts.st : spec_l1Cur__puts.Pt → St
  | .p0 a0 a1 a2 => enter [.p (.pair (.bs (.int .u8)) (.pair (.int .i64) (.pair (.int .u64) .unit))) a0, .v (.int .i64) a1, .v (.int .i64) a2] 1
  | .p11 y1 y2 y3 y4 y5 y6 y7 y8 => ⟨[(0, .po 0 0), (1, .im (.int .i64) y1), (2, .im (.int .i64) y2), (7, .hs 1 [] none 0), (8, .hs 2 [] none 0), (9, .im (.int .i64) y3)], [(0, .obj [.im (.bs (.int .u8)) y4, .im (.int .i64) y5, .im (.int .u64) y6]), (1, .arr true (.pair (.sl false (.pair .str (.pair .str .unit))) (.pair (.int .i64) (.pair (.int .i64) .unit))) y7 0), (2, .arr true (.sl false (.pair .str (.pair .str .unit))) y8 0)], 3⟩
  | .p28 y1 y2 y3 y4 y5 y6 y7 => ⟨[(0, .po 0 0), (7, .hs 1 [] none 0), (8, .hs 2 [] none 0), (10, .im (.int .i64) y1), (11, .im (.int .i64) y2)], [(0, .obj [.im (.bs (.int .u8)) y3, .im (.int .i64) y4, .im (.int .u64) y5]), (1, .arr true (.pair (.sl false (.pair .str (.pair .str .unit))) (.pair (.int .i64) (.pair (.int .i64) .unit))) y6 0), (2, .arr true (.sl false (.pair .str (.pair .str .unit))) y7 0)], 3⟩
  | .p42 y1 y2 y3 y4 y5 y6 y7 y8 y9 y10 => ⟨[(0, .po 0 0), (7, .hs 1 [] none 0), (8, .hs 2 [] none 0), (10, .im (.int .i64) y1), (11, .im (.int .i64) y2), (12, .po 3 0)], [(0, .obj [.im (.bs (.int .u8)) y3, .im (.int .i64) y4, .im (.int .u64) y5]), (1, .arr true (.pair (.sl false (.pair .str (.pair .str .unit))) (.pair (.int .i64) (.pair (.int .i64) .unit))) y6 0), (2, .arr true (.sl false (.pair .str (.pair .str .unit))) y7 0), (3, .obj [.hs 4 [] none 0, .im (.int .i64) y8, .im (.int .i64) y9]), (4, .arr false (.pair .str (.pair .str .unit)) y10 0)], 5⟩
def spec_l1Cur__puts.step (n : Nat) (K : spec_l1Cur__puts.Pt → Option (Tup [(.sl false (.pair (.sl false (.pair .str (.pair .str .unit))) (.pair (.int .i64) (.pair (.int .i64) .unit)))), (.pair (.bs (.int .u8)) (.pair (.int .i64) (.pair (.int .u64) .unit)))])) : spec_l1Cur__puts.Pt → Option (Tup [(.sl false (.pair (.sl false (.pair .str (.pair .str .unit))) (.pair (.int .i64) (.pair (.int .i64) .unit)))), (.pair (.bs (.int .u8)) (.pair (.int .i64) (.pair (.int .u64) .unit)))])
  | .p0 a0 a1 a2 => (spec_l1Cur__pick n (a0.1, a0.2) (4 : Int)).bind fun r6 => K (.p11 a1 a2 (IntKind.wrap .i64 ((1 : Int) + r6.1)) r6.2.1 r6.2.2.1 r6.2.2.2.1 ([] : List ((List ((ByteArray) × ((ByteArray) × (Unit)))) × ((Int) × ((Int) × (Unit))))) ([] : List (List ((ByteArray) × ((ByteArray) × (Unit))))))
  | .p11 y1 y2 y3 y4 y5 y6 y7 y8 => cond (decide ((0 : Int) < y3)) ((spec_l1Cur__labels n (y4, (y5, (y6, ())))).bind fun r11 => cond (room ((List.length y8) + (List.length [r11.1]))) (K (.p11 y1 y2 (IntKind.wrap .i64 (y3 - (1 : Int))) r11.2.1 r11.2.2.1 r11.2.2.2.1 y7 (y8 ++ [r11.1]))) (none)) ((spec_l1Cur__pick n (y4, (y5, (y6, ()))) y2).bind fun r11 => K (.p28 y1 r11.1 r11.2.1 r11.2.2.1 r11.2.2.2.1 y7 y8))
  | .p28 y1 y2 y3 y4 y5 y6 y7 => cond (decide ((0 : Int) < y2)) ((spec_l1Cur__pick n (y3, (y4, (y5, ()))) ((List.length y7) : Int)).bind fun r10 => cond (inB r10.1 (List.length y7)) ((spec_l3Copy n (List.getD y7 (0 + (Int.toNat r10.1)) default)).bind fun r11 => (spec_l1Cur__pick n (r10.2.1, r10.2.2) (30 : Int)).bind fun r12 => (spec_l1Cur__pick n (r12.2.1, r12.2.2) (12 : Int)).bind fun r13 => cond (decide (r13.1 = (0 : Int))) ((spec_l1Cur__pick n (r13.2.1, r13.2.2) (60 : Int)).bind fun r14 => K (.p42 y1 y2 r14.2.1 r14.2.2.1 r14.2.2.2.1 y6 y7 (IntKind.wrap .i64 (y1 - r14.1)) r12.1 r11)) (cond (decide (r13.1 = (1 : Int))) (K (.p42 y1 y2 r13.2.1 r13.2.2.1 r13.2.2.2.1 y6 y7 y1 (-(9223372036854775808 : Int)) r11)) (cond (decide (r13.1 = (2 : Int))) ((spec_l1Cur__labels n (r13.2.1, r13.2.2)).bind fun r14 => K (.p42 y1 y2 r14.2.1 r14.2.2.1 r14.2.2.2.1 y6 y7 y1 r12.1 r14.1)) (cond (decide (r13.1 = (3 : Int))) (cond (decide ((0 : Int) < ((List.length y6) : Int))) (cond (inB (IntKind.wrap .i64 (((List.length y6) : Int) - (1 : Int))) (List.length y6)) (cond (inB (IntKind.wrap .i64 (((List.length y6) : Int) - (1 : Int))) (List.length y6)) ((spec_l3Copy n (List.getD y6 (0 + (Int.toNat (IntKind.wrap .i64 (((List.length y6) : Int) - (1 : Int))))) default).1).bind fun r14 => K (.p42 y1 y2 r13.2.1 r13.2.2.1 r13.2.2.2.1 y6 y7 (List.getD y6 (0 + (Int.toNat (IntKind.wrap .i64 (((List.length y6) : Int) - (1 : Int))))) default).2.1 r12.1 r14)) (none)) (none)) (K (.p42 y1 y2 r13.2.1 r13.2.2.1 r13.2.2.2.1 y6 y7 y1 r12.1 r11))) (K (.p42 y1 y2 r13.2.1 r13.2.2.1 r13.2.2.2.1 y6 y7 y1 r12.1 r11)))))) (none)) (some (y6, (y3, (y4, (y5, ())))))
  | .p42 y1 y2 y3 y4 y5 y6 y7 y8 y9 y10 => (spec_l1Cur__pick n (y3, (y4, (y5, ()))) (8 : Int)).bind fun r13 => cond (room ((List.length y6) + (List.length [(y10, (y8, (y9, ())))]))) (K (.p28 (IntKind.wrap .i64 (y1 + r13.1)) (IntKind.wrap .i64 (y2 - (1 : Int))) r13.2.1 r13.2.2.1 r13.2.2.2.1 (y6 ++ [(y10, (y8, (y9, ())))]) y7)) (none)
def spec_l1Cur__puts (n : Nat) (a0 : (List (Int)) × ((Int) × ((Int) × (Unit)))) (a1 : Int) (a2 : Int) : Option (Tup [(.sl false (.pair (.sl false (.pair .str (.pair .str .unit))) (.pair (.int .i64) (.pair (.int .i64) .unit)))), (.pair (.bs (.int .u8)) (.pair (.int .i64) (.pair (.int .u64) .unit)))]) := goRec spec_l1Cur__puts.step n (.p0 a0 a1 a2)
def spec_l1Cur__puts.spec : Ctr := ⟨78, [.p (.pair (.bs (.int .u8)) (.pair (.int .i64) (.pair (.int .u64) .unit))), .v (.int .i64), .v (.int .i64)], [(.sl false (.pair (.sl false (.pair .str (.pair .str .unit))) (.pair (.int .i64) (.pair (.int .i64) .unit))))], [(.pair (.bs (.int .u8)) (.pair (.int .i64) (.pair (.int .u64) .unit)))], none, fun n x => spec_l1Cur__puts n x.1 x.2.1 x.2.2.1⟩
theorem spec_l1Cur__puts.seg_eq : SegEq ty gl spec_l1Cur__puts.F spec_l1Cur__puts.md spec_l1Cur__puts.T spec_l1Cur__puts.spec spec_l1Cur__puts.lb spec_l1Cur__puts.st spec_l1Cur__puts.step := by
  intro n goto y; cases y <;> kernel_rfl
theorem spec_l1Cur__puts.text : Text Go.Proofs.Try.prog spec_l1Cur__puts.F spec_l1Cur__puts.spec := textOf Go.Proofs.Try.f78
theorem spec_l1Cur__puts.ok : CtrOK Go.Proofs.Try.prog gl spec_l1Cur__puts.spec :=
  ctr_okS tabs spec_l1Cur__puts.text spec_l1Cur__puts.seg_eq (fun n x => ⟨.p0 x.1 x.2.1 x.2.2.1, rfl, rfl, rfl⟩) (consC spec_l1Cur__pick.ok (consC spec_l1Cur__labels.ok (consC spec_l3Copy.ok (nilC))))

/-! loop.example/g00039/spec.l2Digit -/
def spec_l2Digit.T : List Ctr := []
def spec_l2Digit.md : List (Nat × List Md) := []
noncomputable def spec_l2Digit.F : Fun := ⟨(Go.Proofs.Try.f154.body).getD .skip, [.v (.int .u8)], [(.tmp 2, .bool)], [], 0, []⟩
inductive spec_l2Digit.Pt where
  | p0 (a0 : Int)
def spec_l2Digit.lb : spec_l2Digit.Pt → Nat
  | .p0 _ => 0
def spec_l2Digit.st : spec_l2Digit.Pt → St
  | .p0 a0 => enter [.v (.int .u8) a0] 0
def spec_l2Digit.step (n : Nat) (K : spec_l2Digit.Pt → Option (Tup [.bool])) : spec_l2Digit.Pt → Option (Tup [.bool])
  | .p0 a0 => cond (decide ((48 : Int) ≤ a0)) (some (decide (a0 ≤ (57 : Int)))) (some false)
def spec_l2Digit (n : Nat) (a0 : Int) : Option (Tup [.bool]) := goRec spec_l2Digit.step n (.p0 a0)
def spec_l2Digit.spec : Ctr := ⟨154, [.v (.int .u8)], [.bool], [], none, fun n x => spec_l2Digit n x.1⟩
theorem spec_l2Digit.seg_eq : SegEq ty gl spec_l2Digit.F spec_l2Digit.md spec_l2Digit.T spec_l2Digit.spec spec_l2Digit.lb spec_l2Digit.st spec_l2Digit.step := by
  intro n goto y; cases y <;> kernel_rfl
theorem spec_l2Digit.text : Text Go.Proofs.Try.prog spec_l2Digit.F spec_l2Digit.spec := textOf Go.Proofs.Try.f154
theorem spec_l2Digit.ok : CtrOK Go.Proofs.Try.prog gl spec_l2Digit.spec :=
  ctr_okS tabs spec_l2Digit.text spec_l2Digit.seg_eq (fun n x => ⟨.p0 x.1, rfl, rfl, rfl⟩) (nilC)

/-! loop.example/g00039/spec.l2Letter -/
def spec_l2Letter.T : List Ctr := []
def spec_l2Letter.md : List (Nat × List Md) := []
noncomputable def spec_l2Letter.F : Fun := ⟨(Go.Proofs.Try.f155.body).getD .skip, [.v (.int .u8)], [(.tmp 2, .bool)], [], 0, []⟩
inductive spec_l2Letter.Pt where
  | p0 (a0 : Int)
def spec_l2Letter.lb : spec_l2Letter.Pt → Nat
  | .p0 _ => 0
def spec_l2Letter.st : spec_l2Letter.Pt → St
  | .p0 a0 => enter [.v (.int .u8) a0] 0
def spec_l2Letter.step (n : Nat) (K : spec_l2Letter.Pt → Option (Tup [.bool])) : spec_l2Letter.Pt → Option (Tup [.bool])
  | .p0 a0 => cond (decide ((97 : Int) ≤ a0)) (cond (decide (a0 ≤ (122 : Int))) (some true) (cond (decide ((65 : Int) ≤ a0)) (some (decide (a0 ≤ (90 : Int)))) (some false))) (cond (decide ((65 : Int) ≤ a0)) (some (decide (a0 ≤ (90 : Int)))) (some false))
def spec_l2Letter (n : Nat) (a0 : Int) : Option (Tup [.bool]) := goRec spec_l2Letter.step n (.p0 a0)
def spec_l2Letter.spec : Ctr := ⟨155, [.v (.int .u8)], [.bool], [], none, fun n x => spec_l2Letter n x.1⟩
theorem spec_l2Letter.seg_eq : SegEq ty gl spec_l2Letter.F spec_l2Letter.md spec_l2Letter.T spec_l2Letter.spec spec_l2Letter.lb spec_l2Letter.st spec_l2Letter.step := by
  intro n goto y; cases y <;> kernel_rfl
theorem spec_l2Letter.text : Text Go.Proofs.Try.prog spec_l2Letter.F spec_l2Letter.spec := textOf Go.Proofs.Try.f155
theorem spec_l2Letter.ok : CtrOK Go.Proofs.Try.prog gl spec_l2Letter.spec :=
  ctr_okS tabs spec_l2Letter.text spec_l2Letter.seg_eq (fun n x => ⟨.p0 x.1, rfl, rfl, rfl⟩) (nilC)

/-! loop.example/g00039/spec.l2Name -/
def spec_l2Name.T : List Ctr := [spec_l2Digit.spec, spec_l2Letter.spec]
def spec_l2Name.md : List (Nat × List Md) := []
noncomputable def spec_l2Name.F : Fun := ⟨(Go.Proofs.Try.f96.body).getD .skip, [.v .str], [(.tmp 2, .bool)], [], 0, [(4, ⟨[0, 16], [], [], false⟩), (15, ⟨[0, 3], [], [], false⟩), (24, ⟨[0, 3, 40], [], [], false⟩)]⟩
inductive spec_l2Name.Pt where
  | p0 (a0 : ByteArray)
  | p4 (y1 : ByteArray) (y2 : Bool)
  | p15 (y1 : ByteArray) (y2 : Int)
  | p24 (y1 : ByteArray) (y2 : Int) (y3 : Bool)
def spec_l2Name.lb : spec_l2Name.Pt → Nat
  | .p0 _ => 0
  | .p4 _ _ => 4
  | .p15 _ _ => 15
  | .p24 _ _ _ => 24
def spec_l2Name.st : spec_l2Name.Pt → St
  | .p0 a0 => enter [.v .str a0] 0
  | .p4 y1 y2 => ⟨[(0, .im .str y1), (16, .im .bool y2)], [], 0⟩
  | .p15 y1 y2 => ⟨[(0, .im .str y1), (3, .im (.int .i64) y2)], [], 0⟩
  | .p24 y1 y2 y3 => ⟨[(0, .im .str y1), (3, .im (.int .i64) y2), (40, .im .bool y3)], [], 0⟩
def spec_l2Name.step (n : Nat) (K : spec_l2Name.Pt → Option (Tup [.bool])) : spec_l2Name.Pt → Option (Tup [.bool])
  | .p0 a0 => cond (decide (((ByteArray.size a0) : Int) < (1 : Int))) (K (.p4 a0 true)) (cond (decide ((40 : Int) < ((ByteArray.size a0) : Int))) (K (.p4 a0 true)) (cond (inB (0 : Int) (ByteArray.size a0)) ((spec_l2Digit n (bt a0 (0 : Int))).bind fun r4 => K (.p4 a0 r4)) (none)))
  | .p4 y1 y2 => cond y2 (some false) (K (.p15 y1 (0 : Int)))
  | .p15 y1 y2 => cond (decide (y2 < ((ByteArray.size y1) : Int))) (cond (inB y2 (ByteArray.size y1)) ((spec_l2Letter n (bt y1 y2)).bind fun r5 => cond (!r5) (cond (inB y2 (ByteArray.size y1)) ((spec_l2Digit n (bt y1 y2)).bind fun r6 => cond (!r6) (cond (inB y2 (ByteArray.size y1)) (K (.p24 y1 y2 (!(decide ((bt y1 y2) = (95 : Int)))))) (none)) (K (.p24 y1 y2 false))) (none)) (K (.p24 y1 y2 false))) (none)) (some true)
  | .p24 y1 y2 y3 => cond y3 (some false) (K (.p15 y1 (IntKind.wrap .i64 (y2 + (1 : Int)))))
def spec_l2Name (n : Nat) (a0 : ByteArray) : Option (Tup [.bool]) := goRec spec_l2Name.step n (.p0 a0)
def spec_l2Name.spec : Ctr := ⟨96, [.v .str], [.bool], [], none, fun n x => spec_l2Name n x.1⟩
theorem spec_l2Name.seg_eq : SegEq ty gl spec_l2Name.F spec_l2Name.md spec_l2Name.T spec_l2Name.spec spec_l2Name.lb spec_l2Name.st spec_l2Name.step := by
  intro n goto y; cases y <;> kernel_rfl
theorem spec_l2Name.text : Text Go.Proofs.Try.prog spec_l2Name.F spec_l2Name.spec := textOf Go.Proofs.Try.f96
theorem spec_l2Name.ok : CtrOK Go.Proofs.Try.prog gl spec_l2Name.spec :=
  ctr_okS tabs spec_l2Name.text spec_l2Name.seg_eq (fun n x => ⟨.p0 x.1, rfl, rfl, rfl⟩) (consC spec_l2Digit.ok (consC spec_l2Letter.ok (nilC)))

/-! loop.example/g00039/spec.l2Printed -/
def spec_l2Printed.T : List Ctr := []
def spec_l2Printed.md : List (Nat × List Md) := []
noncomputable def spec_l2Printed.F : Fun := ⟨(Go.Proofs.Try.f156.body).getD .skip, [.v .str], [(.tmp 2, .bool)], [], 0, [(7, ⟨[0, 3], [], [], false⟩)]⟩
inductive spec_l2Printed.Pt where
  | p0 (a0 : ByteArray)
  | p7 (y1 : ByteArray) (y2 : Int)
def spec_l2Printed.lb : spec_l2Printed.Pt → Nat
  | .p0 _ => 0
  | .p7 _ _ => 7
def spec_l2Printed.st : spec_l2Printed.Pt → St
  | .p0 a0 => enter [.v .str a0] 0
  | .p7 y1 y2 => ⟨[(0, .im .str y1), (3, .im (.int .i64) y2)], [], 0⟩
def spec_l2Printed.step (n : Nat) (K : spec_l2Printed.Pt → Option (Tup [.bool])) : spec_l2Printed.Pt → Option (Tup [.bool])
  | .p0 a0 => K (.p7 a0 (0 : Int))
  | .p7 y1 y2 => cond (decide (y2 < ((ByteArray.size y1) : Int))) (cond (inB y2 (ByteArray.size y1)) (cond (decide ((bt y1 y2) < (32 : Int))) (some false) (cond (inB y2 (ByteArray.size y1)) (cond (decide ((126 : Int) < (bt y1 y2))) (some false) (K (.p7 y1 (IntKind.wrap .i64 (y2 + (1 : Int)))))) (none))) (none)) (some true)
def spec_l2Printed (n : Nat) (a0 : ByteArray) : Option (Tup [.bool]) := goRec spec_l2Printed.step n (.p0 a0)
def spec_l2Printed.spec : Ctr := ⟨156, [.v .str], [.bool], [], none, fun n x => spec_l2Printed n x.1⟩
theorem spec_l2Printed.seg_eq : SegEq ty gl spec_l2Printed.F spec_l2Printed.md spec_l2Printed.T spec_l2Printed.spec spec_l2Printed.lb spec_l2Printed.st spec_l2Printed.step := by
  intro n goto y; cases y <;> kernel_rfl
theorem spec_l2Printed.text : Text Go.Proofs.Try.prog spec_l2Printed.F spec_l2Printed.spec := textOf Go.Proofs.Try.f156
theorem spec_l2Printed.ok : CtrOK Go.Proofs.Try.prog gl spec_l2Printed.spec :=
  ctr_okS tabs spec_l2Printed.text spec_l2Printed.seg_eq (fun n x => ⟨.p0 x.1, rfl, rfl, rfl⟩) (nilC)

/-! loop.example/g00039/spec.l2Value -/
def spec_l2Value.T : List Ctr := [spec_l2Printed.spec]
def spec_l2Value.md : List (Nat × List Md) := []
noncomputable def spec_l2Value.F : Fun := ⟨(Go.Proofs.Try.f99.body).getD .skip, [.v .str], [(.tmp 2, .bool)], [], 0, []⟩
inductive spec_l2Value.Pt where
  | p0 (a0 : ByteArray)
def spec_l2Value.lb : spec_l2Value.Pt → Nat
  | .p0 _ => 0
def spec_l2Value.st : spec_l2Value.Pt → St
  | .p0 a0 => enter [.v .str a0] 0
def spec_l2Value.step (n : Nat) (K : spec_l2Value.Pt → Option (Tup [.bool])) : spec_l2Value.Pt → Option (Tup [.bool])
  | .p0 a0 => cond (decide ((1 : Int) ≤ ((ByteArray.size a0) : Int))) (cond (decide (((ByteArray.size a0) : Int) ≤ (100 : Int))) ((spec_l2Printed n a0).bind fun r4 => some r4) (some false)) (some false)
def spec_l2Value (n : Nat) (a0 : ByteArray) : Option (Tup [.bool]) := goRec spec_l2Value.step n (.p0 a0)
def spec_l2Value.spec : Ctr := ⟨99, [.v .str], [.bool], [], none, fun n x => spec_l2Value n x.1⟩
theorem spec_l2Value.seg_eq : SegEq ty gl spec_l2Value.F spec_l2Value.md spec_l2Value.T spec_l2Value.spec spec_l2Value.lb spec_l2Value.st spec_l2Value.step := by
  intro n goto y; cases y <;> kernel_rfl
theorem spec_l2Value.text : Text Go.Proofs.Try.prog spec_l2Value.F spec_l2Value.spec := textOf Go.Proofs.Try.f99
theorem spec_l2Value.ok : CtrOK Go.Proofs.Try.prog gl spec_l2Value.spec :=
  ctr_okS tabs spec_l2Value.text spec_l2Value.seg_eq (fun n x => ⟨.p0 x.1, rfl, rfl, rfl⟩) (consC spec_l2Printed.ok (nilC))

/-! loop.example/g00039/spec.l2CmpNum -/
def spec_l2CmpNum.T : List Ctr := []
def spec_l2CmpNum.md : List (Nat × List Md) := []
noncomputable def spec_l2CmpNum.F : Fun := ⟨(Go.Proofs.Try.f158.body).getD .skip, [.v (.int .i64), .v (.int .i64)], [(.tmp 4, (.int .i64))], [], 0, []⟩
inductive spec_l2CmpNum.Pt where
  | p0 (a0 : Int) (a1 : Int)
def spec_l2CmpNum.lb : spec_l2CmpNum.Pt → Nat
  | .p0 _ _ => 0
def spec_l2CmpNum.st : spec_l2CmpNum.Pt → St
  | .p0 a0 a1 => enter [.v (.int .i64) a0, .v (.int .i64) a1] 0
def spec_l2CmpNum.step (n : Nat) (K : spec_l2CmpNum.Pt → Option (Tup [(.int .i64)])) : spec_l2CmpNum.Pt → Option (Tup [(.int .i64)])
  | .p0 a0 a1 => cond (decide (a0 < a1)) (some (-(1 : Int))) (cond (decide (a1 < a0)) (some (1 : Int)) (some (0 : Int)))
def spec_l2CmpNum (n : Nat) (a0 : Int) (a1 : Int) : Option (Tup [(.int .i64)]) := goRec spec_l2CmpNum.step n (.p0 a0 a1)
def spec_l2CmpNum.spec : Ctr := ⟨158, [.v (.int .i64), .v (.int .i64)], [(.int .i64)], [], none, fun n x => spec_l2CmpNum n x.1 x.2.1⟩
theorem spec_l2CmpNum.seg_eq : SegEq ty gl spec_l2CmpNum.F spec_l2CmpNum.md spec_l2CmpNum.T spec_l2CmpNum.spec spec_l2CmpNum.lb spec_l2CmpNum.st spec_l2CmpNum.step := by
  intro n goto y; cases y <;> kernel_rfl
theorem spec_l2CmpNum.text : Text Go.Proofs.Try.prog spec_l2CmpNum.F spec_l2CmpNum.spec := textOf Go.Proofs.Try.f158
theorem spec_l2CmpNum.ok : CtrOK Go.Proofs.Try.prog gl spec_l2CmpNum.spec :=
  ctr_okS tabs spec_l2CmpNum.text spec_l2CmpNum.seg_eq (fun n x => ⟨.p0 x.1 x.2.1, rfl, rfl, rfl⟩) (nilC)

/-! loop.example/g00039/spec.l2CmpText -/
def spec_l2CmpText.T : List Ctr := [spec_l2CmpNum.spec]
def spec_l2CmpText.md : List (Nat × List Md) := []
noncomputable def spec_l2CmpText.F : Fun := ⟨(Go.Proofs.Try.f98.body).getD .skip, [.v .str, .v .str], [(.tmp 4, (.int .i64))], [], 0, [(7, ⟨[0, 1, 5], [], [], false⟩), (9, ⟨[0, 1, 5, 15], [], [], false⟩)]⟩
inductive spec_l2CmpText.Pt where
  | p0 (a0 : ByteArray) (a1 : ByteArray)
  | p7 (y1 : ByteArray) (y2 : ByteArray) (y3 : Int)
  | p9 (y1 : ByteArray) (y2 : ByteArray) (y3 : Int) (y4 : Bool)
def spec_l2CmpText.lb : spec_l2CmpText.Pt → Nat
  | .p0 _ _ => 0
  | .p7 _ _ _ => 7
  | .p9 _ _ _ _ => 9
def spec_l2CmpText.st : spec_l2CmpText.Pt → St
  | .p0 a0 a1 => enter [.v .str a0, .v .str a1] 0
  | .p7 y1 y2 y3 => ⟨[(0, .im .str y1), (1, .im .str y2), (5, .im (.int .i64) y3)], [], 0⟩
  | .p9 y1 y2 y3 y4 => ⟨[(0, .im .str y1), (1, .im .str y2), (5, .im (.int .i64) y3), (15, .im .bool y4)], [], 0⟩
def spec_l2CmpText.step (n : Nat) (K : spec_l2CmpText.Pt → Option (Tup [(.int .i64)])) : spec_l2CmpText.Pt → Option (Tup [(.int .i64)])
  | .p0 a0 a1 => K (.p7 a0 a1 (0 : Int))
  | .p7 y1 y2 y3 => cond (decide (y3 < ((ByteArray.size y1) : Int))) (K (.p9 y1 y2 y3 (decide (y3 < ((ByteArray.size y2) : Int))))) (K (.p9 y1 y2 y3 false))
  | .p9 y1 y2 y3 y4 => cond y4 (cond (inB y3 (ByteArray.size y1)) (cond (inB y3 (ByteArray.size y2)) (cond (!(decide ((bt y1 y3) = (bt y2 y3)))) (cond (inB y3 (ByteArray.size y1)) (cond (inB y3 (ByteArray.size y2)) ((spec_l2CmpNum n (IntKind.wrap .i64 (bt y1 y3)) (IntKind.wrap .i64 (bt y2 y3))).bind fun (r7 : Int) => some r7) (none)) (none)) (K (.p7 y1 y2 (IntKind.wrap .i64 (y3 + (1 : Int)))))) (none)) (none)) ((spec_l2CmpNum n ((ByteArray.size y1) : Int) ((ByteArray.size y2) : Int)).bind fun (r7 : Int) => some r7)
def spec_l2CmpText (n : Nat) (a0 : ByteArray) (a1 : ByteArray) : Option (Tup [(.int .i64)]) := goRec spec_l2CmpText.step n (.p0 a0 a1)
def spec_l2CmpText.spec : Ctr := ⟨98, [.v .str, .v .str], [(.int .i64)], [], none, fun n x => spec_l2CmpText n x.1 x.2.1⟩
theorem spec_l2CmpText.seg_eq : SegEq ty gl spec_l2CmpText.F spec_l2CmpText.md spec_l2CmpText.T spec_l2CmpText.spec spec_l2CmpText.lb spec_l2CmpText.st spec_l2CmpText.step := by
  intro n goto y; cases y <;> kernel_rfl
theorem spec_l2CmpText.text : Text Go.Proofs.Try.prog spec_l2CmpText.F spec_l2CmpText.spec := textOf Go.Proofs.Try.f98
theorem spec_l2CmpText.ok : CtrOK Go.Proofs.Try.prog gl spec_l2CmpText.spec :=
  ctr_okS tabs spec_l2CmpText.text spec_l2CmpText.seg_eq (fun n x => ⟨.p0 x.1 x.2.1, rfl, rfl, rfl⟩) (consC spec_l2CmpNum.ok (nilC))

/-! loop.example/g00039/spec.GoodLabels -/
def spec_GoodLabels.T : List Ctr := [spec_l2Name.spec, spec_l2Value.spec, spec_l2CmpText.spec]
def spec_GoodLabels.md : List (Nat × List Md) := []
noncomputable def spec_GoodLabels.F : Fun := ⟨(Go.Proofs.Try.f47.body).getD .skip, [.v (.sl false (.pair .str (.pair .str .unit)))], [(.tmp 2, .bool)], [], 0, [(15, ⟨[0, 8, 9, 10], [(8, (.pair .str (.pair .str .unit)))], [], false⟩), (26, ⟨[0, 8, 9, 10, 40], [(8, (.pair .str (.pair .str .unit)))], [], false⟩)]⟩
inductive spec_GoodLabels.Pt where
  | p0 (a0 : List ((ByteArray) × ((ByteArray) × (Unit))))
  | p15 (y1 : List ((ByteArray) × ((ByteArray) × (Unit)))) (y2 : List ((ByteArray) × ((ByteArray) × (Unit)))) (y3 : Int) (y4 : Int)
  | p26 (y1 : List ((ByteArray) × ((ByteArray) × (Unit)))) (y2 : List ((ByteArray) × ((ByteArray) × (Unit)))) (y3 : Int) (y4 : Int) (y5 : Bool)
def spec_GoodLabels.lb : spec_GoodLabels.Pt → Nat
  | .p0 _ => 0
  | .p15 _ _ _ _ => 15
  | .p26 _ _ _ _ _ => 26
def spec_GoodLabels.st : spec_GoodLabels.Pt → St
  | .p0 a0 => enter [.v (.sl false (.pair .str (.pair .str .unit))) a0] 0
  | .p15 y1 y2 y3 y4 => ⟨[(0, .im (.sl false (.pair .str (.pair .str .unit))) y1), (8, .im (.sl false (.pair .str (.pair .str .unit))) y2), (9, .im (.int .i64) y3), (10, .im (.int .i64) y4)], [], 0⟩
  | .p26 y1 y2 y3 y4 y5 => ⟨[(0, .im (.sl false (.pair .str (.pair .str .unit))) y1), (8, .im (.sl false (.pair .str (.pair .str .unit))) y2), (9, .im (.int .i64) y3), (10, .im (.int .i64) y4), (40, .im .bool y5)], [], 0⟩
def spec_GoodLabels.step (n : Nat) (K : spec_GoodLabels.Pt → Option (Tup [.bool])) : spec_GoodLabels.Pt → Option (Tup [.bool])
  | .p0 a0 => cond (decide ((20 : Int) < ((List.length a0) : Int))) (some false) (K (.p15 a0 a0 ((List.length a0) : Int) (0 : Int)))
  | .p15 y1 y2 y3 y4 => cond (decide (y4 < y3)) (cond (inB y4 (List.length y2)) ((spec_l2Name n (List.getD y2 (Int.toNat y4) default).1).bind fun r7 => cond (!r7) (K (.p26 y1 y2 y3 y4 true)) ((spec_l2Value n (List.getD y2 (Int.toNat y4) default).2.1).bind fun r8 => cond (!r8) (K (.p26 y1 y2 y3 y4 true)) (cond (decide ((0 : Int) < y4)) (cond (inB (IntKind.wrap .i64 (y4 - (1 : Int))) (List.length y1)) ((spec_l2CmpText n (List.getD y1 (Int.toNat (IntKind.wrap .i64 (y4 - (1 : Int)))) default).1 (List.getD y2 (Int.toNat y4) default).1).bind fun (r9 : Int) => K (.p26 y1 y2 y3 y4 (decide ((0 : Int) ≤ r9)))) (none)) (K (.p26 y1 y2 y3 y4 false))))) (none)) (some true)
  | .p26 y1 y2 y3 y4 y5 => cond y5 (some false) (K (.p15 y1 y2 y3 (IntKind.wrap .i64 (y4 + (1 : Int)))))
def spec_GoodLabels (n : Nat) (a0 : List ((ByteArray) × ((ByteArray) × (Unit)))) : Option (Tup [.bool]) := goRec spec_GoodLabels.step n (.p0 a0)
def spec_GoodLabels.spec : Ctr := ⟨47, [.v (.sl false (.pair .str (.pair .str .unit)))], [.bool], [], none, fun n x => spec_GoodLabels n x.1⟩
theorem spec_GoodLabels.seg_eq : SegEq ty gl spec_GoodLabels.F spec_GoodLabels.md spec_GoodLabels.T spec_GoodLabels.spec spec_GoodLabels.lb spec_GoodLabels.st spec_GoodLabels.step := by
  intro n goto y; cases y <;> kernel_rfl
theorem spec_GoodLabels.text : Text Go.Proofs.Try.prog spec_GoodLabels.F spec_GoodLabels.spec := textOf Go.Proofs.Try.f47
theorem spec_GoodLabels.ok : CtrOK Go.Proofs.Try.prog gl spec_GoodLabels.spec :=
  ctr_okS tabs spec_GoodLabels.text spec_GoodLabels.seg_eq (fun n x => ⟨.p0 x.1, rfl, rfl, rfl⟩) (consC spec_l2Name.ok (consC spec_l2Value.ok (consC spec_l2CmpText.ok (nilC))))

/-! loop.example/g00039/spec.l2Of -/
def spec_l2Of.T : List Ctr := []
def spec_l2Of.md : List (Nat × List Md) := []
noncomputable def spec_l2Of.F : Fun := ⟨(Go.Proofs.Try.f109.body).getD .skip, [.v (.sl false (.pair .str (.pair .str .unit))), .v .str], [(.tmp 4, .str)], [], 0, [(7, ⟨[1, 7, 8, 9], [(7, (.pair .str (.pair .str .unit)))], [], false⟩)]⟩
inductive spec_l2Of.Pt where
  | p0 (a0 : List ((ByteArray) × ((ByteArray) × (Unit)))) (a1 : ByteArray)
  | p7 (y1 : ByteArray) (y2 : List ((ByteArray) × ((ByteArray) × (Unit)))) (y3 : Int) (y4 : Int)
def spec_l2Of.lb : spec_l2Of.Pt → Nat
  | .p0 _ _ => 0
  | .p7 _ _ _ _ => 7
def spec_l2Of.st : spec_l2Of.Pt → St
  | .p0 a0 a1 => enter [.v (.sl false (.pair .str (.pair .str .unit))) a0, .v .str a1] 0
  | .p7 y1 y2 y3 y4 => ⟨[(1, .im .str y1), (7, .im (.sl false (.pair .str (.pair .str .unit))) y2), (8, .im (.int .i64) y3), (9, .im (.int .i64) y4)], [], 0⟩
def spec_l2Of.step (n : Nat) (K : spec_l2Of.Pt → Option (Tup [.str])) : spec_l2Of.Pt → Option (Tup [.str])
  | .p0 a0 a1 => K (.p7 a1 a0 ((List.length a0) : Int) (0 : Int))
  | .p7 y1 y2 y3 y4 => cond (decide (y4 < y3)) (cond (inB y4 (List.length y2)) (cond (seq (List.getD y2 (Int.toNat y4) default).1 y1) (some (List.getD y2 (Int.toNat y4) default).2.1) (K (.p7 y1 y2 y3 (IntKind.wrap .i64 (y4 + (1 : Int)))))) (none)) (some (⟨#[]⟩ : ByteArray))
def spec_l2Of (n : Nat) (a0 : List ((ByteArray) × ((ByteArray) × (Unit)))) (a1 : ByteArray) : Option (Tup [.str]) := goRec spec_l2Of.step n (.p0 a0 a1)
def spec_l2Of.spec : Ctr := ⟨109, [.v (.sl false (.pair .str (.pair .str .unit))), .v .str], [.str], [], none, fun n x => spec_l2Of n x.1 x.2.1⟩
theorem spec_l2Of.seg_eq : SegEq ty gl spec_l2Of.F spec_l2Of.md spec_l2Of.T spec_l2Of.spec spec_l2Of.lb spec_l2Of.st spec_l2Of.step := by
  intro n goto y; cases y <;> kernel_rfl
theorem spec_l2Of.text : Text Go.Proofs.Try.prog spec_l2Of.F spec_l2Of.spec := textOf Go.Proofs.Try.f109
theorem spec_l2Of.ok : CtrOK Go.Proofs.Try.prog gl spec_l2Of.spec :=
  ctr_okS tabs spec_l2Of.text spec_l2Of.seg_eq (fun n x => ⟨.p0 x.1 x.2.1, rfl, rfl, rfl⟩) (nilC)

/-! loop.example/g00039/spec.l7Named -/
def spec_l7Named.T : List Ctr := [spec_GoodLabels.spec, spec_l2Of.spec]
def spec_l7Named.md : List (Nat × List Md) := []
noncomputable def spec_l7Named.F : Fun := ⟨(Go.Proofs.Try.f146.body).getD .skip, [.v (.sl false (.pair .str (.pair .str .unit)))], [(.tmp 2, .bool)], [], 0, []⟩
inductive spec_l7Named.Pt where
  | p0 (a0 : List ((ByteArray) × ((ByteArray) × (Unit))))
def spec_l7Named.lb : spec_l7Named.Pt → Nat
  | .p0 _ => 0
def spec_l7Named.st : spec_l7Named.Pt → St
  | .p0 a0 => enter [.v (.sl false (.pair .str (.pair .str .unit))) a0] 0
def spec_l7Named.step (n : Nat) (K : spec_l7Named.Pt → Option (Tup [.bool])) : spec_l7Named.Pt → Option (Tup [.bool])
  | .p0 a0 => (spec_GoodLabels n a0).bind fun r4 => cond r4 ((spec_l2Of n a0 (⟨#[95, 110, 97, 109, 101]⟩ : ByteArray)).bind fun r5 => some (!(seq r5 (⟨#[]⟩ : ByteArray)))) (some false)
def spec_l7Named (n : Nat) (a0 : List ((ByteArray) × ((ByteArray) × (Unit)))) : Option (Tup [.bool]) := goRec spec_l7Named.step n (.p0 a0)
def spec_l7Named.spec : Ctr := ⟨146, [.v (.sl false (.pair .str (.pair .str .unit)))], [.bool], [], none, fun n x => spec_l7Named n x.1⟩
theorem spec_l7Named.seg_eq : SegEq ty gl spec_l7Named.F spec_l7Named.md spec_l7Named.T spec_l7Named.spec spec_l7Named.lb spec_l7Named.st spec_l7Named.step := by
  intro n goto y; cases y <;> kernel_rfl
theorem spec_l7Named.text : Text Go.Proofs.Try.prog spec_l7Named.F spec_l7Named.spec := textOf Go.Proofs.Try.f146
theorem spec_l7Named.ok : CtrOK Go.Proofs.Try.prog gl spec_l7Named.spec :=
  ctr_okS tabs spec_l7Named.text spec_l7Named.seg_eq (fun n x => ⟨.p0 x.1, rfl, rfl, rfl⟩) (consC spec_GoodLabels.ok (consC spec_l2Of.ok (nilC)))

/-! loop.example/g00039/spec.l3Time -/
def spec_l3Time.T : List Ctr := []
def spec_l3Time.md : List (Nat × List Md) := []
noncomputable def spec_l3Time.F : Fun := ⟨(Go.Proofs.Try.f48.body).getD .skip, [.v (.int .i64)], [(.tmp 2, .bool)], [], 0, []⟩
inductive spec_l3Time.Pt where
  | p0 (a0 : Int)
def spec_l3Time.lb : spec_l3Time.Pt → Nat
  | .p0 _ => 0
def spec_l3Time.st : spec_l3Time.Pt → St
  | .p0 a0 => enter [.v (.int .i64) a0] 0
def spec_l3Time.step (n : Nat) (K : spec_l3Time.Pt → Option (Tup [.bool])) : spec_l3Time.Pt → Option (Tup [.bool])
  | .p0 a0 => cond (decide ((0 : Int) ≤ a0)) (some (decide (a0 ≤ (1000000000000 : Int)))) (some false)
def spec_l3Time (n : Nat) (a0 : Int) : Option (Tup [.bool]) := goRec spec_l3Time.step n (.p0 a0)
def spec_l3Time.spec : Ctr := ⟨48, [.v (.int .i64)], [.bool], [], none, fun n x => spec_l3Time n x.1⟩
theorem spec_l3Time.seg_eq : SegEq ty gl spec_l3Time.F spec_l3Time.md spec_l3Time.T spec_l3Time.spec spec_l3Time.lb spec_l3Time.st spec_l3Time.step := by
  intro n goto y; cases y <;> kernel_rfl
theorem spec_l3Time.text : Text Go.Proofs.Try.prog spec_l3Time.F spec_l3Time.spec := textOf Go.Proofs.Try.f48
theorem spec_l3Time.ok : CtrOK Go.Proofs.Try.prog gl spec_l3Time.spec :=
  ctr_okS tabs spec_l3Time.text spec_l3Time.seg_eq (fun n x => ⟨.p0 x.1, rfl, rfl, rfl⟩) (nilC)

/-! loop.example/g00039/spec.l2Cmp -/
def spec_l2Cmp.T : List Ctr := [spec_l2CmpNum.spec, spec_l2CmpText.spec]
def spec_l2Cmp.md : List (Nat × List Md) := []
noncomputable def spec_l2Cmp.F : Fun := ⟨(Go.Proofs.Try.f151.body).getD .skip, [.v (.sl false (.pair .str (.pair .str .unit))), .v (.sl false (.pair .str (.pair .str .unit)))], [(.tmp 4, (.int .i64))], [], 0, [(7, ⟨[0, 1, 5], [], [], false⟩), (9, ⟨[0, 1, 5, 17], [], [], false⟩)]⟩
inductive spec_l2Cmp.Pt where
  | p0 (a0 : List ((ByteArray) × ((ByteArray) × (Unit)))) (a1 : List ((ByteArray) × ((ByteArray) × (Unit))))
  | p7 (y1 : List ((ByteArray) × ((ByteArray) × (Unit)))) (y2 : List ((ByteArray) × ((ByteArray) × (Unit)))) (y3 : Int)
  | p9 (y1 : List ((ByteArray) × ((ByteArray) × (Unit)))) (y2 : List ((ByteArray) × ((ByteArray) × (Unit)))) (y3 : Int) (y4 : Bool)
def spec_l2Cmp.lb : spec_l2Cmp.Pt → Nat
  | .p0 _ _ => 0
  | .p7 _ _ _ => 7
  | .p9 _ _ _ _ => 9
def spec_l2Cmp.st : spec_l2Cmp.Pt → St
  | .p0 a0 a1 => enter [.v (.sl false (.pair .str (.pair .str .unit))) a0, .v (.sl false (.pair .str (.pair .str .unit))) a1] 0
  | .p7 y1 y2 y3 => ⟨[(0, .im (.sl false (.pair .str (.pair .str .unit))) y1), (1, .im (.sl false (.pair .str (.pair .str .unit))) y2), (5, .im (.int .i64) y3)], [], 0⟩
  | .p9 y1 y2 y3 y4 => ⟨[(0, .im (.sl false (.pair .str (.pair .str .unit))) y1), (1, .im (.sl false (.pair .str (.pair .str .unit))) y2), (5, .im (.int .i64) y3), (17, .im .bool y4)], [], 0⟩
def spec_l2Cmp.step (n : Nat) (K : spec_l2Cmp.Pt → Option (Tup [(.int .i64)])) : spec_l2Cmp.Pt → Option (Tup [(.int .i64)])
  | .p0 a0 a1 => K (.p7 a0 a1 (0 : Int))
  | .p7 y1 y2 y3 => cond (decide (y3 < ((List.length y1) : Int))) (K (.p9 y1 y2 y3 (decide (y3 < ((List.length y2) : Int))))) (K (.p9 y1 y2 y3 false))
  | .p9 y1 y2 y3 y4 => cond y4 (cond (inB y3 (List.length y1)) (cond (inB y3 (List.length y2)) ((spec_l2CmpText n (List.getD y1 (Int.toNat y3) default).1 (List.getD y2 (Int.toNat y3) default).1).bind fun (r7 : Int) => cond (!(decide (r7 = (0 : Int)))) (some r7) (cond (inB y3 (List.length y1)) (cond (inB y3 (List.length y2)) ((spec_l2CmpText n (List.getD y1 (Int.toNat y3) default).2.1 (List.getD y2 (Int.toNat y3) default).2.1).bind fun (r8 : Int) => cond (!(decide (r8 = (0 : Int)))) (some r8) (K (.p7 y1 y2 (IntKind.wrap .i64 (y3 + (1 : Int)))))) (none)) (none))) (none)) (none)) ((spec_l2CmpNum n ((List.length y1) : Int) ((List.length y2) : Int)).bind fun (r7 : Int) => some r7)
def spec_l2Cmp (n : Nat) (a0 : List ((ByteArray) × ((ByteArray) × (Unit)))) (a1 : List ((ByteArray) × ((ByteArray) × (Unit)))) : Option (Tup [(.int .i64)]) := goRec spec_l2Cmp.step n (.p0 a0 a1)
def spec_l2Cmp.spec : Ctr := ⟨151, [.v (.sl false (.pair .str (.pair .str .unit))), .v (.sl false (.pair .str (.pair .str .unit)))], [(.int .i64)], [], none, fun n x => spec_l2Cmp n x.1 x.2.1⟩
theorem spec_l2Cmp.seg_eq : SegEq ty gl spec_l2Cmp.F spec_l2Cmp.md spec_l2Cmp.T spec_l2Cmp.spec spec_l2Cmp.lb spec_l2Cmp.st spec_l2Cmp.step := by
  intro n goto y; cases y <;> kernel_rfl
theorem spec_l2Cmp.text : Text Go.Proofs.Try.prog spec_l2Cmp.F spec_l2Cmp.spec := textOf Go.Proofs.Try.f151
theorem spec_l2Cmp.ok : CtrOK Go.Proofs.Try.prog gl spec_l2Cmp.spec :=
  ctr_okS tabs spec_l2Cmp.text spec_l2Cmp.seg_eq (fun n x => ⟨.p0 x.1 x.2.1, rfl, rfl, rfl⟩) (consC spec_l2CmpNum.ok (consC spec_l2CmpText.ok (nilC)))

/-! loop.example/g00039/spec.l7Place -/
def spec_l7Place.T : List Ctr := [spec_l2Cmp.spec]
def spec_l7Place.md : List (Nat × List Md) := []
noncomputable def spec_l7Place.F : Fun := ⟨(Go.Proofs.Try.f93.body).getD .skip, [.v (.sl false (.pair (.sl false (.pair .str (.pair .str .unit))) (.pair (.sl false (.pair (.int .i64) (.pair (.int .i64) .unit))) .unit))), .v (.sl false (.pair .str (.pair .str .unit)))], [(.tmp 4, (.int .i64)), (.tmp 5, .bool)], [], 0, [(7, ⟨[0, 1, 9, 10, 11], [(9, (.pair (.sl false (.pair .str (.pair .str .unit))) (.pair (.sl false (.pair (.int .i64) (.pair (.int .i64) .unit))) .unit)))], [], false⟩)]⟩
inductive spec_l7Place.Pt where
  | p0 (a0 : List ((List ((ByteArray) × ((ByteArray) × (Unit)))) × ((List ((Int) × ((Int) × (Unit)))) × (Unit)))) (a1 : List ((ByteArray) × ((ByteArray) × (Unit))))
  | p7 (y1 : List ((List ((ByteArray) × ((ByteArray) × (Unit)))) × ((List ((Int) × ((Int) × (Unit)))) × (Unit)))) (y2 : List ((ByteArray) × ((ByteArray) × (Unit)))) (y3 : List ((List ((ByteArray) × ((ByteArray) × (Unit)))) × ((List ((Int) × ((Int) × (Unit)))) × (Unit)))) (y4 : Int) (y5 : Int)
def spec_l7Place.lb : spec_l7Place.Pt → Nat
  | .p0 _ _ => 0
  | .p7 _ _ _ _ _ => 7
def spec_l7Place.st : spec_l7Place.Pt → St
  | .p0 a0 a1 => enter [.v (.sl false (.pair (.sl false (.pair .str (.pair .str .unit))) (.pair (.sl false (.pair (.int .i64) (.pair (.int .i64) .unit))) .unit))) a0, .v (.sl false (.pair .str (.pair .str .unit))) a1] 0
  | .p7 y1 y2 y3 y4 y5 => ⟨[(0, .im (.sl false (.pair (.sl false (.pair .str (.pair .str .unit))) (.pair (.sl false (.pair (.int .i64) (.pair (.int .i64) .unit))) .unit))) y1), (1, .im (.sl false (.pair .str (.pair .str .unit))) y2), (9, .im (.sl false (.pair (.sl false (.pair .str (.pair .str .unit))) (.pair (.sl false (.pair (.int .i64) (.pair (.int .i64) .unit))) .unit))) y3), (10, .im (.int .i64) y4), (11, .im (.int .i64) y5)], [], 0⟩
def spec_l7Place.step (n : Nat) (K : spec_l7Place.Pt → Option (Tup [(.int .i64), .bool])) : spec_l7Place.Pt → Option (Tup [(.int .i64), .bool])
  | .p0 a0 a1 => K (.p7 a0 a1 a0 ((List.length a0) : Int) (0 : Int))
  | .p7 y1 y2 y3 y4 y5 => cond (decide (y5 < y4)) (cond (inB y5 (List.length y3)) ((spec_l2Cmp n (List.getD y3 (Int.toNat y5) default).1 y2).bind fun (r8 : Int) => cond (decide (r8 = (0 : Int))) (some (y5, true)) (cond (decide ((0 : Int) < r8)) (some (y5, false)) (K (.p7 y1 y2 y3 y4 (IntKind.wrap .i64 (y5 + (1 : Int))))))) (none)) (some (((List.length y1) : Int), false))
def spec_l7Place (n : Nat) (a0 : List ((List ((ByteArray) × ((ByteArray) × (Unit)))) × ((List ((Int) × ((Int) × (Unit)))) × (Unit)))) (a1 : List ((ByteArray) × ((ByteArray) × (Unit)))) : Option (Tup [(.int .i64), .bool]) := goRec spec_l7Place.step n (.p0 a0 a1)
def spec_l7Place.spec : Ctr := ⟨93, [.v (.sl false (.pair (.sl false (.pair .str (.pair .str .unit))) (.pair (.sl false (.pair (.int .i64) (.pair (.int .i64) .unit))) .unit))), .v (.sl false (.pair .str (.pair .str .unit)))], [(.int .i64), .bool], [], none, fun n x => spec_l7Place n x.1 x.2.1⟩
theorem spec_l7Place.seg_eq : SegEq ty gl spec_l7Place.F spec_l7Place.md spec_l7Place.T spec_l7Place.spec spec_l7Place.lb spec_l7Place.st spec_l7Place.step := by
  intro n goto y; cases y <;> kernel_rfl
theorem spec_l7Place.text : Text Go.Proofs.Try.prog spec_l7Place.F spec_l7Place.spec := textOf Go.Proofs.Try.f93
theorem spec_l7Place.ok : CtrOK Go.Proofs.Try.prog gl spec_l7Place.spec :=
  ctr_okS tabs spec_l7Place.text spec_l7Place.seg_eq (fun n x => ⟨.p0 x.1 x.2.1, rfl, rfl, rfl⟩) (consC spec_l2Cmp.ok (nilC))

/-! loop.example/g00039/spec.l6Cut -/
def spec_l6Cut.T : List Ctr := []
def spec_l6Cut.md : List (Nat × List Md) := []
noncomputable def spec_l6Cut.F : Fun := ⟨(Go.Proofs.Try.f94.body).getD .skip, [.v (.sl false (.pair (.int .i64) (.pair (.int .i64) .unit))), .v (.int .i64), .v (.int .i64)], [(.tmp 6, (.sl false (.pair (.int .i64) (.pair (.int .i64) .unit))))], [], 0, [(9, ⟨[1, 2, 7, 10, 11, 12], [(7, (.pair (.int .i64) (.pair (.int .i64) .unit))), (10, (.pair (.int .i64) (.pair (.int .i64) .unit)))], [], false⟩)]⟩
inductive spec_l6Cut.Pt where
  | p0 (a0 : List ((Int) × ((Int) × (Unit)))) (a1 : Int) (a2 : Int)
  | p9 (y1 : Int) (y2 : Int) (y3 : List ((Int) × ((Int) × (Unit)))) (y4 : Int) (y5 : Int) (y6 : List ((Int) × ((Int) × (Unit))))
def spec_l6Cut.lb : spec_l6Cut.Pt → Nat
  | .p0 _ _ _ => 0
  | .p9 _ _ _ _ _ _ => 9
def spec_l6Cut.st : spec_l6Cut.Pt → St
  | .p0 a0 a1 a2 => enter [.v (.sl false (.pair (.int .i64) (.pair (.int .i64) .unit))) a0, .v (.int .i64) a1, .v (.int .i64) a2] 0
  | .p9 y1 y2 y3 y4 y5 y6 => ⟨[(1, .im (.int .i64) y1), (2, .im (.int .i64) y2), (7, .hs 0 [] none 0), (10, .im (.sl false (.pair (.int .i64) (.pair (.int .i64) .unit))) y3), (11, .im (.int .i64) y4), (12, .im (.int .i64) y5)], [(0, .arr true (.pair (.int .i64) (.pair (.int .i64) .unit)) y6 0)], 1⟩
def spec_l6Cut.step (n : Nat) (K : spec_l6Cut.Pt → Option (Tup [(.sl false (.pair (.int .i64) (.pair (.int .i64) .unit)))])) : spec_l6Cut.Pt → Option (Tup [(.sl false (.pair (.int .i64) (.pair (.int .i64) .unit)))])
  | .p0 a0 a1 a2 => K (.p9 a1 a2 a0 ((List.length a0) : Int) (0 : Int) ([] : List ((Int) × ((Int) × (Unit)))))
  | .p9 y1 y2 y3 y4 y5 y6 => cond (decide (y5 < y4)) (cond (inB y5 (List.length y3)) (cond (decide (y1 ≤ (List.getD y3 (Int.toNat y5) default).1)) (cond (decide ((List.getD y3 (Int.toNat y5) default).1 ≤ y2)) (cond (room ((List.length y6) + (List.length [(List.getD y3 (Int.toNat y5) default)]))) (K (.p9 y1 y2 y3 y4 (IntKind.wrap .i64 (y5 + (1 : Int))) (y6 ++ [(List.getD y3 (Int.toNat y5) default)]))) (none)) (K (.p9 y1 y2 y3 y4 (IntKind.wrap .i64 (y5 + (1 : Int))) y6))) (K (.p9 y1 y2 y3 y4 (IntKind.wrap .i64 (y5 + (1 : Int))) y6))) (none)) (some y6)
def spec_l6Cut (n : Nat) (a0 : List ((Int) × ((Int) × (Unit)))) (a1 : Int) (a2 : Int) : Option (Tup [(.sl false (.pair (.int .i64) (.pair (.int .i64) .unit)))]) := goRec spec_l6Cut.step n (.p0 a0 a1 a2)
def spec_l6Cut.spec : Ctr := ⟨94, [.v (.sl false (.pair (.int .i64) (.pair (.int .i64) .unit))), .v (.int .i64), .v (.int .i64)], [(.sl false (.pair (.int .i64) (.pair (.int .i64) .unit)))], [], none, fun n x => spec_l6Cut n x.1 x.2.1 x.2.2.1⟩
theorem spec_l6Cut.seg_eq : SegEq ty gl spec_l6Cut.F spec_l6Cut.md spec_l6Cut.T spec_l6Cut.spec spec_l6Cut.lb spec_l6Cut.st spec_l6Cut.step := by
  intro n goto y; cases y <;> kernel_rfl
theorem spec_l6Cut.text : Text Go.Proofs.Try.prog spec_l6Cut.F spec_l6Cut.spec := textOf Go.Proofs.Try.f94
theorem spec_l6Cut.ok : CtrOK Go.Proofs.Try.prog gl spec_l6Cut.spec :=
  ctr_okS tabs spec_l6Cut.text spec_l6Cut.seg_eq (fun n x => ⟨.p0 x.1 x.2.1 x.2.2.1, rfl, rfl, rfl⟩) (nilC)

/-! loop.example/g00039/spec.l6Merge -/
def spec_l6Merge.T : List Ctr := []
def spec_l6Merge.md : List (Nat × List Md) := []
noncomputable def spec_l6Merge.F : Fun := ⟨(Go.Proofs.Try.f147.body).getD .skip, [.v (.sl false (.pair (.int .i64) (.pair (.int .i64) .unit))), .v (.sl false (.pair (.int .i64) (.pair (.int .i64) .unit)))], [(.tmp 4, (.sl false (.pair (.int .i64) (.pair (.int .i64) .unit))))], [], 0, [(11, ⟨[0, 1, 5, 6, 7], [(5, (.pair (.int .i64) (.pair (.int .i64) .unit)))], [], false⟩), (13, ⟨[0, 1, 5, 6, 7, 17], [(5, (.pair (.int .i64) (.pair (.int .i64) .unit)))], [], false⟩), (19, ⟨[0, 1, 5, 6, 7, 40], [(5, (.pair (.int .i64) (.pair (.int .i64) .unit)))], [], false⟩), (23, ⟨[0, 1, 5, 6, 7, 57], [(5, (.pair (.int .i64) (.pair (.int .i64) .unit)))], [], false⟩)]⟩
inductive spec_l6Merge.Pt where
  | p0 (a0 : List ((Int) × ((Int) × (Unit)))) (a1 : List ((Int) × ((Int) × (Unit))))
  | p11 (y1 : List ((Int) × ((Int) × (Unit)))) (y2 : List ((Int) × ((Int) × (Unit)))) (y3 : Int) (y4 : Int) (y5 : List ((Int) × ((Int) × (Unit))))
  | p13 (y1 : List ((Int) × ((Int) × (Unit)))) (y2 : List ((Int) × ((Int) × (Unit)))) (y3 : Int) (y4 : Int) (y5 : Bool) (y6 : List ((Int) × ((Int) × (Unit))))
  | p19 (y1 : List ((Int) × ((Int) × (Unit)))) (y2 : List ((Int) × ((Int) × (Unit)))) (y3 : Int) (y4 : Int) (y5 : Bool) (y6 : List ((Int) × ((Int) × (Unit))))
  | p23 (y1 : List ((Int) × ((Int) × (Unit)))) (y2 : List ((Int) × ((Int) × (Unit)))) (y3 : Int) (y4 : Int) (y5 : Bool) (y6 : List ((Int) × ((Int) × (Unit))))
def spec_l6Merge.lb : spec_l6Merge.Pt → Nat
  | .p0 _ _ => 0
  | .p11 _ _ _ _ _ => 11
  | .p13 _ _ _ _ _ _ => 13
  | .p19 _ _ _ _ _ _ => 19
  | .p23 _ _ _ _ _ _ => 23
def spec_l6Merge.st : spec_l6Merge.Pt → St
  | .p0 a0 a1 => enter [.v (.sl false (.pair (.int .i64) (.pair (.int .i64) .unit))) a0, .v (.sl false (.pair (.int .i64) (.pair (.int .i64) .unit))) a1] 0
  | .p11 y1 y2 y3 y4 y5 => ⟨[(0, .im (.sl false (.pair (.int .i64) (.pair (.int .i64) .unit))) y1), (1, .im (.sl false (.pair (.int .i64) (.pair (.int .i64) .unit))) y2), (5, .hs 0 [] none 0), (6, .im (.int .i64) y3), (7, .im (.int .i64) y4)], [(0, .arr true (.pair (.int .i64) (.pair (.int .i64) .unit)) y5 0)], 1⟩
  | .p13 y1 y2 y3 y4 y5 y6 => ⟨[(0, .im (.sl false (.pair (.int .i64) (.pair (.int .i64) .unit))) y1), (1, .im (.sl false (.pair (.int .i64) (.pair (.int .i64) .unit))) y2), (5, .hs 0 [] none 0), (6, .im (.int .i64) y3), (7, .im (.int .i64) y4), (17, .im .bool y5)], [(0, .arr true (.pair (.int .i64) (.pair (.int .i64) .unit)) y6 0)], 1⟩
  | .p19 y1 y2 y3 y4 y5 y6 => ⟨[(0, .im (.sl false (.pair (.int .i64) (.pair (.int .i64) .unit))) y1), (1, .im (.sl false (.pair (.int .i64) (.pair (.int .i64) .unit))) y2), (5, .hs 0 [] none 0), (6, .im (.int .i64) y3), (7, .im (.int .i64) y4), (40, .im .bool y5)], [(0, .arr true (.pair (.int .i64) (.pair (.int .i64) .unit)) y6 0)], 1⟩
  | .p23 y1 y2 y3 y4 y5 y6 => ⟨[(0, .im (.sl false (.pair (.int .i64) (.pair (.int .i64) .unit))) y1), (1, .im (.sl false (.pair (.int .i64) (.pair (.int .i64) .unit))) y2), (5, .hs 0 [] none 0), (6, .im (.int .i64) y3), (7, .im (.int .i64) y4), (57, .im .bool y5)], [(0, .arr true (.pair (.int .i64) (.pair (.int .i64) .unit)) y6 0)], 1⟩
def spec_l6Merge.step (n : Nat) (K : spec_l6Merge.Pt → Option (Tup [(.sl false (.pair (.int .i64) (.pair (.int .i64) .unit)))])) : spec_l6Merge.Pt → Option (Tup [(.sl false (.pair (.int .i64) (.pair (.int .i64) .unit)))])
  | .p0 a0 a1 => K (.p11 a0 a1 (0 : Int) (0 : Int) ([] : List ((Int) × ((Int) × (Unit)))))
  | .p11 y1 y2 y3 y4 y5 => cond (decide (y3 < ((List.length y1) : Int))) (K (.p13 y1 y2 y3 y4 true y5)) (K (.p13 y1 y2 y3 y4 (decide (y4 < ((List.length y2) : Int))) y5))
  | .p13 y1 y2 y3 y4 y5 y6 => cond y5 (cond (decide (y4 = ((List.length y2) : Int))) (K (.p19 y1 y2 y3 y4 true y6)) (cond (decide (y3 < ((List.length y1) : Int))) (cond (inB y3 (List.length y1)) (cond (inB y4 (List.length y2)) (K (.p19 y1 y2 y3 y4 (decide ((List.getD y1 (Int.toNat y3) default).1 ≤ (List.getD y2 (Int.toNat y4) default).1)) y6)) (none)) (none)) (K (.p19 y1 y2 y3 y4 false y6)))) (some y6)
  | .p19 y1 y2 y3 y4 y5 y6 => cond y5 (cond (decide (y4 < ((List.length y2) : Int))) (cond (inB y3 (List.length y1)) (cond (inB y4 (List.length y2)) (K (.p23 y1 y2 y3 y4 (decide ((List.getD y1 (Int.toNat y3) default).1 = (List.getD y2 (Int.toNat y4) default).1)) y6)) (none)) (none)) (K (.p23 y1 y2 y3 y4 false y6))) (cond (inB y4 (List.length y2)) (cond (room ((List.length y6) + (List.length [(List.getD y2 (Int.toNat y4) default)]))) (K (.p11 y1 y2 y3 (IntKind.wrap .i64 (y4 + (1 : Int))) (y6 ++ [(List.getD y2 (Int.toNat y4) default)]))) (none)) (none))
  | .p23 y1 y2 y3 y4 y5 y6 => cond y5 (cond (inB y3 (List.length y1)) (cond (room ((List.length y6) + (List.length [(List.getD y1 (Int.toNat y3) default)]))) (K (.p11 y1 y2 (IntKind.wrap .i64 (y3 + (1 : Int))) (IntKind.wrap .i64 (y4 + (1 : Int))) (y6 ++ [(List.getD y1 (Int.toNat y3) default)]))) (none)) (none)) (cond (inB y3 (List.length y1)) (cond (room ((List.length y6) + (List.length [(List.getD y1 (Int.toNat y3) default)]))) (K (.p11 y1 y2 (IntKind.wrap .i64 (y3 + (1 : Int))) y4 (y6 ++ [(List.getD y1 (Int.toNat y3) default)]))) (none)) (none))
def spec_l6Merge (n : Nat) (a0 : List ((Int) × ((Int) × (Unit)))) (a1 : List ((Int) × ((Int) × (Unit)))) : Option (Tup [(.sl false (.pair (.int .i64) (.pair (.int .i64) .unit)))]) := goRec spec_l6Merge.step n (.p0 a0 a1)
def spec_l6Merge.spec : Ctr := ⟨147, [.v (.sl false (.pair (.int .i64) (.pair (.int .i64) .unit))), .v (.sl false (.pair (.int .i64) (.pair (.int .i64) .unit)))], [(.sl false (.pair (.int .i64) (.pair (.int .i64) .unit)))], [], none, fun n x => spec_l6Merge n x.1 x.2.1⟩
theorem spec_l6Merge.seg_eq : SegEq ty gl spec_l6Merge.F spec_l6Merge.md spec_l6Merge.T spec_l6Merge.spec spec_l6Merge.lb spec_l6Merge.st spec_l6Merge.step := by
  intro n goto y; cases y <;> kernel_rfl
theorem spec_l6Merge.text : Text Go.Proofs.Try.prog spec_l6Merge.F spec_l6Merge.spec := textOf Go.Proofs.Try.f147
theorem spec_l6Merge.ok : CtrOK Go.Proofs.Try.prog gl spec_l6Merge.spec :=
  ctr_okS tabs spec_l6Merge.text spec_l6Merge.seg_eq (fun n x => ⟨.p0 x.1 x.2.1, rfl, rfl, rfl⟩) (nilC)

/-! loop.example/g00039/spec.l7Put -/
def spec_l7Put.T : List Ctr := [spec_l3Copy.spec, spec_l7Named.spec, spec_l3Time.spec, spec_l7Place.spec, spec_l6Cut.spec, spec_l6Merge.spec]
def spec_l7Put.md : List (Nat × List Md) := []
noncomputable def spec_l7Put.F : Fun := ⟨(Go.Proofs.Try.f89.body).getD .skip, [.p (.pair (.int .i64) (.pair (.int .i64) (.pair (.int .i64) (.pair (.sl false (.pair (.sl false (.pair .str (.pair .str .unit))) (.pair (.sl false (.pair (.int .i64) (.pair (.int .i64) .unit))) .unit))) .unit)))), .v (.pair (.sl false (.pair .str (.pair .str .unit))) (.pair (.int .i64) (.pair (.int .i64) .unit)))], [(.tmp 4, (.int .i64))], [some (.pair (.int .i64) (.pair (.int .i64) (.pair (.int .i64) (.pair (.sl false (.pair (.sl false (.pair .str (.pair .str .unit))) (.pair (.sl false (.pair (.int .i64) (.pair (.int .i64) .unit))) .unit))) .unit))))], 1, [(31, ⟨[0, 3, 5, 7], [], [(3, 0, (.pair .str (.pair .str .unit)))], false⟩)]⟩
inductive spec_l7Put.Pt where
  | p0 (a0 : (Int) × ((Int) × ((Int) × ((List ((List ((ByteArray) × ((ByteArray) × (Unit)))) × ((List ((Int) × ((Int) × (Unit)))) × (Unit)))) × (Unit))))) (a1 : (List ((ByteArray) × ((ByteArray) × (Unit)))) × ((Int) × ((Int) × (Unit))))
  | p31 (y1 : Int) (y2 : Int) (y3 : Int) (y4 : Int) (y5 : List ((ByteArray) × ((ByteArray) × (Unit)))) (y6 : Int) (y7 : Int) (y8 : Int) (y9 : Int) (y10 : List ((List ((ByteArray) × ((ByteArray) × (Unit)))) × ((List ((Int) × ((Int) × (Unit)))) × (Unit))))
def spec_l7Put.lb : spec_l7Put.Pt → Nat
  | .p0 _ _ => 0
  | .p31 _ _ _ _ _ _ _ _ _ _ => 31
def spec_l7Put.st : spec_l7Put.Pt → St
  | .p0 a0 a1 => enter [.p (.pair (.int .i64) (.pair (.int .i64) (.pair (.int .i64) (.pair (.sl false (.pair (.sl false (.pair .str (.pair .str .unit))) (.pair (.sl false (.pair (.int .i64) (.pair (.int .i64) .unit))) .unit))) .unit)))) a0, .v (.pair (.sl false (.pair .str (.pair .str .unit))) (.pair (.int .i64) (.pair (.int .i64) .unit))) a1] 1
  | .p31 y1 y2 y3 y4 y5 y6 y7 y8 y9 y10 => ⟨[(0, .po 0 0), (3, .po 1 0), (5, .im (.int .i64) y1), (7, .po 2 0)], [(0, .obj [.im (.int .i64) y2, .im (.int .i64) y3, .im (.int .i64) y4, .hs 3 [] none 0]), (1, .obj [.im (.sl false (.pair .str (.pair .str .unit))) y5, .im (.int .i64) y6, .im (.int .i64) y7]), (2, .obj [.im (.int .i64) y8, .im (.int .i64) y9]), (3, .arr false (.pair (.sl false (.pair .str (.pair .str .unit))) (.pair (.sl false (.pair (.int .i64) (.pair (.int .i64) .unit))) .unit)) y10 0)], 4⟩
def spec_l7Put.step (n : Nat) (K : spec_l7Put.Pt → Option (Tup [(.int .i64), (.pair (.int .i64) (.pair (.int .i64) (.pair (.int .i64) (.pair (.sl false (.pair (.sl false (.pair .str (.pair .str .unit))) (.pair (.sl false (.pair (.int .i64) (.pair (.int .i64) .unit))) .unit))) .unit))))])) : spec_l7Put.Pt → Option (Tup [(.int .i64), (.pair (.int .i64) (.pair (.int .i64) (.pair (.int .i64) (.pair (.sl false (.pair (.sl false (.pair .str (.pair .str .unit))) (.pair (.sl false (.pair (.int .i64) (.pair (.int .i64) .unit))) .unit))) .unit))))])
  | .p0 a0 a1 => (spec_l7Named n a1.1).bind fun r5 => cond (!r5) (some ((1 : Int), a0)) ((spec_l3Time n a1.2.1).bind fun r6 => cond (!r6) (some ((2 : Int), a0)) (cond (decide (a1.2.1 < (IntKind.wrap .i64 (a0.2.2.1 - a0.1)))) (some ((3 : Int), a0)) ((spec_l7Place n a0.2.2.2.1 a1.1).bind fun r7 => cond (!r7.2) (cond (decide (a0.2.1 ≤ ((List.length a0.2.2.2.1) : Int))) (some ((4 : Int), a0)) (cond (room ((List.length a0.2.2.2.1) + (List.length [(([] : List ((ByteArray) × ((ByteArray) × (Unit)))), (([] : List ((Int) × ((Int) × (Unit)))), ()))]))) (cond (inC (IntKind.wrap .i64 (r7.1 + (1 : Int))) ((List.length (a0.2.2.2.1 ++ [(([] : List ((ByteArray) × ((ByteArray) × (Unit)))), (([] : List ((Int) × ((Int) × (Unit)))), ()))])) : Int) (List.length (a0.2.2.2.1 ++ [(([] : List ((ByteArray) × ((ByteArray) × (Unit)))), (([] : List ((Int) × ((Int) × (Unit)))), ()))]))) (cond (inC r7.1 ((List.length (a0.2.2.2.1 ++ [(([] : List ((ByteArray) × ((ByteArray) × (Unit)))), (([] : List ((Int) × ((Int) × (Unit)))), ()))])) : Int) (List.length (a0.2.2.2.1 ++ [(([] : List ((ByteArray) × ((ByteArray) × (Unit)))), (([] : List ((Int) × ((Int) × (Unit)))), ()))]))) (cond ((((Nat.beq (0 + (Int.toNat (IntKind.wrap .i64 (r7.1 + (1 : Int))))) ((0 + (Int.toNat r7.1)) + 1)) && (Nat.beq ((0 + (Int.toNat (IntKind.wrap .i64 (r7.1 + (1 : Int))))) + ((Int.toNat ((List.length (a0.2.2.2.1 ++ [(([] : List ((ByteArray) × ((ByteArray) × (Unit)))), (([] : List ((Int) × ((Int) × (Unit)))), ()))])) : Int)) - (Int.toNat (IntKind.wrap .i64 (r7.1 + (1 : Int)))))) (List.length (a0.2.2.2.1 ++ [(([] : List ((ByteArray) × ((ByteArray) × (Unit)))), (([] : List ((Int) × ((Int) × (Unit)))), ()))])))) && (Nat.beq ((0 + (Int.toNat r7.1)) + ((Int.toNat ((List.length (a0.2.2.2.1 ++ [(([] : List ((ByteArray) × ((ByteArray) × (Unit)))), (([] : List ((Int) × ((Int) × (Unit)))), ()))])) : Int)) - (Int.toNat r7.1))) (List.length (a0.2.2.2.1 ++ [(([] : List ((ByteArray) × ((ByteArray) × (Unit)))), (([] : List ((Int) × ((Int) × (Unit)))), ()))])))) && (Nat.blt (0 + (Int.toNat r7.1)) (List.length (a0.2.2.2.1 ++ [(([] : List ((ByteArray) × ((ByteArray) × (Unit)))), (([] : List ((Int) × ((Int) × (Unit)))), ()))])))) ((spec_l3Copy n a1.1).bind fun r8 => cond (inB r7.1 (List.length (shiftL (a0.2.2.2.1 ++ [(([] : List ((ByteArray) × ((ByteArray) × (Unit)))), (([] : List ((Int) × ((Int) × (Unit)))), ()))]) (0 + (Int.toNat r7.1)) (default : (List ((ByteArray) × ((ByteArray) × (Unit)))) × ((List ((Int) × ((Int) × (Unit)))) × (Unit)))))) (cond (Nat.beq (Int.toNat r7.1) (0 + (Int.toNat r7.1))) (K (.p31 r7.1 a0.1 a0.2.1 a0.2.2.1 a1.1 a1.2.1 a1.2.2.1 a1.2.1 a1.2.2.1 (List.set (shiftL (a0.2.2.2.1 ++ [(([] : List ((ByteArray) × ((ByteArray) × (Unit)))), (([] : List ((Int) × ((Int) × (Unit)))), ()))]) (0 + (Int.toNat r7.1)) (default : (List ((ByteArray) × ((ByteArray) × (Unit)))) × ((List ((Int) × ((Int) × (Unit)))) × (Unit)))) (0 + (Int.toNat r7.1)) (r8, (([] : List ((Int) × ((Int) × (Unit)))), ()))))) (none)) (none)) (none)) (none)) (none)) (none))) (K (.p31 r7.1 a0.1 a0.2.1 a0.2.2.1 a1.1 a1.2.1 a1.2.2.1 a1.2.1 a1.2.2.1 a0.2.2.2.1)))))
  | .p31 y1 y2 y3 y4 y5 y6 y7 y8 y9 y10 => cond (inB y1 (List.length y10)) ((spec_l6Cut n (List.getD y10 (0 + (Int.toNat y1)) default).2.1 y6 y6).bind fun r13 => cond (decide ((0 : Int) < ((List.length r13) : Int))) (cond (inB (0 : Int) (List.length r13)) (cond (decide ((List.getD r13 (0 + (Int.toNat (0 : Int))) default).2.1 = y7)) (some ((6 : Int), (y2, (y3, (y4, (y10, ())))))) (some ((5 : Int), (y2, (y3, (y4, (y10, ()))))))) (none)) (cond (inB y1 (List.length y10)) (cond (decide ((2000 : Int) ≤ ((List.length (List.getD y10 (0 + (Int.toNat y1)) default).2.1) : Int))) (some ((7 : Int), (y2, (y3, (y4, (y10, ())))))) (cond (inB y1 (List.length y10)) ((spec_l6Merge n (List.getD y10 (0 + (Int.toNat y1)) default).2.1 [(y8, (y9, ()))]).bind fun r14 => cond (inB y1 (List.length y10)) (cond (decide (y4 < y6)) (some ((0 : Int), (y2, (y3, (y6, ((List.set y10 (0 + (Int.toNat y1)) ((List.getD y10 (0 + (Int.toNat y1)) default).1, (r14, (List.getD y10 (0 + (Int.toNat y1)) default).2.2))), ())))))) (some ((0 : Int), (y2, (y3, (y4, ((List.set y10 (0 + (Int.toNat y1)) ((List.getD y10 (0 + (Int.toNat y1)) default).1, (r14, (List.getD y10 (0 + (Int.toNat y1)) default).2.2))), ()))))))) (none)) (none))) (none))) (none)
def spec_l7Put (n : Nat) (a0 : (Int) × ((Int) × ((Int) × ((List ((List ((ByteArray) × ((ByteArray) × (Unit)))) × ((List ((Int) × ((Int) × (Unit)))) × (Unit)))) × (Unit))))) (a1 : (List ((ByteArray) × ((ByteArray) × (Unit)))) × ((Int) × ((Int) × (Unit)))) : Option (Tup [(.int .i64), (.pair (.int .i64) (.pair (.int .i64) (.pair (.int .i64) (.pair (.sl false (.pair (.sl false (.pair .str (.pair .str .unit))) (.pair (.sl false (.pair (.int .i64) (.pair (.int .i64) .unit))) .unit))) .unit))))]) := goRec spec_l7Put.step n (.p0 a0 a1)
def spec_l7Put.spec : Ctr := ⟨89, [.p (.pair (.int .i64) (.pair (.int .i64) (.pair (.int .i64) (.pair (.sl false (.pair (.sl false (.pair .str (.pair .str .unit))) (.pair (.sl false (.pair (.int .i64) (.pair (.int .i64) .unit))) .unit))) .unit)))), .v (.pair (.sl false (.pair .str (.pair .str .unit))) (.pair (.int .i64) (.pair (.int .i64) .unit)))], [(.int .i64)], [(.pair (.int .i64) (.pair (.int .i64) (.pair (.int .i64) (.pair (.sl false (.pair (.sl false (.pair .str (.pair .str .unit))) (.pair (.sl false (.pair (.int .i64) (.pair (.int .i64) .unit))) .unit))) .unit))))], none, fun n x => spec_l7Put n x.1 x.2.1⟩
theorem spec_l7Put.seg_eq : SegEq ty gl spec_l7Put.F spec_l7Put.md spec_l7Put.T spec_l7Put.spec spec_l7Put.lb spec_l7Put.st spec_l7Put.step := by
  intro n goto y; cases y <;> kernel_rfl
theorem spec_l7Put.text : Text Go.Proofs.Try.prog spec_l7Put.F spec_l7Put.spec := textOf Go.Proofs.Try.f89
theorem spec_l7Put.ok : CtrOK Go.Proofs.Try.prog gl spec_l7Put.spec :=
  ctr_okS tabs spec_l7Put.text spec_l7Put.seg_eq (fun n x => ⟨.p0 x.1 x.2.1, rfl, rfl, rfl⟩) (consC spec_l3Copy.ok (consC spec_l7Named.ok (consC spec_l3Time.ok (consC spec_l7Place.ok (consC spec_l6Cut.ok (consC spec_l6Merge.ok (nilC)))))))

/-! (*loop.example/g00039/spec.l1Cur).head -/
def spec_l1Cur__head.T : List Ctr := [spec_l1Cur__pick.spec, spec_l1Cur__puts.spec, spec_l7Put.spec]
def spec_l1Cur__head.md : List (Nat × List Md) := [(79, [.p (.pair (.bs (.int .u8)) (.pair (.int .i64) (.pair (.int .u64) .unit))), .v]), (78, [.p (.pair (.bs (.int .u8)) (.pair (.int .i64) (.pair (.int .u64) .unit))), .v, .v]), (89, [.p (.pair (.int .i64) (.pair (.int .i64) (.pair (.int .i64) (.pair (.sl false (.pair (.sl false (.pair .str (.pair .str .unit))) (.pair (.sl false (.pair (.int .i64) (.pair (.int .i64) .unit))) .unit))) .unit)))), .v])]
noncomputable def spec_l1Cur__head.F : Fun := ⟨(Go.Proofs.Try.f77.body).getD .skip, [.p (.pair (.bs (.int .u8)) (.pair (.int .i64) (.pair (.int .u64) .unit))), .v (.int .i64)], [(.cell 4 62, (.pair (.int .i64) (.pair (.int .i64) (.pair (.int .i64) (.pair (.sl false (.pair (.sl false (.pair .str (.pair .str .unit))) (.pair (.sl false (.pair (.int .i64) (.pair (.int .i64) .unit))) .unit))) .unit)))))], [some (.pair (.bs (.int .u8)) (.pair (.int .i64) (.pair (.int .u64) .unit)))], 1, [(9, ⟨[4, 5, 18, 19, 20], [(18, (.pair (.sl false (.pair .str (.pair .str .unit))) (.pair (.int .i64) (.pair (.int .i64) .unit))))], [(4, 3, (.pair (.sl false (.pair .str (.pair .str .unit))) (.pair (.sl false (.pair (.int .i64) (.pair (.int .i64) .unit))) .unit))), (5, 3, (.pair (.sl false (.pair .str (.pair .str .unit))) (.pair (.sl false (.pair (.int .i64) (.pair (.int .i64) .unit))) .unit)))], true⟩)]⟩
inductive spec_l1Cur__head.Pt where
  | p0 (a0 : (List (Int)) × ((Int) × ((Int) × (Unit)))) (a1 : Int)
  | p9 (y1 : Int) (y2 : Int) (y3 : List (Int)) (y4 : Int) (y5 : Int) (y6 : Int) (y7 : Int) (y8 : Int) (y9 : Int) (y10 : Int) (y11 : Int) (y12 : List ((List ((ByteArray) × ((ByteArray) × (Unit)))) × ((Int) × ((Int) × (Unit))))) (y13 : List ((List ((ByteArray) × ((ByteArray) × (Unit)))) × ((List ((Int) × ((Int) × (Unit)))) × (Unit)))) (y14 : List ((List ((ByteArray) × ((ByteArray) × (Unit)))) × ((List ((Int) × ((Int) × (Unit)))) × (Unit))))
def spec_l1Cur__head.lb : spec_l1Cur__head.Pt → Nat
  | .p0 _ _ => 0
  | .p9 _ _ _ _ _ _ _ _ _ _ _ _ _ _ => 9
def spec_l1Cur__head.st : spec_l1Cur__head.Pt → St
  | .p0 a0 a1 => enter [.p (.pair (.bs (.int .u8)) (.pair (.int .i64) (.pair (.int .u64) .unit))) a0, .v (.int .i64) a1] 1
  | .p9 y1 y2 y3 y4 y5 y6 y7 y8 y9 y10 y11 y12 y13 y14 => ⟨[(4, .po 1 0), (5, .po 2 0), (18, .hs 3 [] none 0), (19, .im (.int .i64) y1), (20, .im (.int .i64) y2)], [(0, .obj [.im (.bs (.int .u8)) y3, .im (.int .i64) y4, .im (.int .u64) y5]), (1, .obj [.im (.int .i64) y6, .im (.int .i64) y7, .im (.int .i64) y8, .hs 4 [] none 0]), (2, .obj [.im (.int .i64) y9, .im (.int .i64) y10, .im (.int .i64) y11, .hs 5 [] none 0]), (3, .arr false (.pair (.sl false (.pair .str (.pair .str .unit))) (.pair (.int .i64) (.pair (.int .i64) .unit))) y12 0), (4, .arr false (.pair (.sl false (.pair .str (.pair .str .unit))) (.pair (.sl false (.pair (.int .i64) (.pair (.int .i64) .unit))) .unit)) y13 0), (5, .arr false (.pair (.sl false (.pair .str (.pair .str .unit))) (.pair (.sl false (.pair (.int .i64) (.pair (.int .i64) .unit))) .unit)) y14 0)], 6⟩
def spec_l1Cur__head.step (n : Nat) (K : spec_l1Cur__head.Pt → Option (Tup [(.pair (.int .i64) (.pair (.int .i64) (.pair (.int .i64) (.pair (.sl false (.pair (.sl false (.pair .str (.pair .str .unit))) (.pair (.sl false (.pair (.int .i64) (.pair (.int .i64) .unit))) .unit))) .unit)))), (.pair (.bs (.int .u8)) (.pair (.int .i64) (.pair (.int .u64) .unit)))])) : spec_l1Cur__head.Pt → Option (Tup [(.pair (.int .i64) (.pair (.int .i64) (.pair (.int .i64) (.pair (.sl false (.pair (.sl false (.pair .str (.pair .str .unit))) (.pair (.sl false (.pair (.int .i64) (.pair (.int .i64) .unit))) .unit))) .unit)))), (.pair (.bs (.int .u8)) (.pair (.int .i64) (.pair (.int .u64) .unit)))])
  | .p0 a0 a1 => (spec_l1Cur__pick n (a0.1, a0.2) (60 : Int)).bind fun r5 => (spec_l1Cur__pick n (r5.2.1, r5.2.2) (12 : Int)).bind fun r6 => (spec_l1Cur__pick n (r6.2.1, r6.2.2) (60 : Int)).bind fun r7 => (spec_l1Cur__puts n (r7.2.1, r7.2.2) r7.1 a1).bind fun r8 => K (.p9 ((List.length r8.1) : Int) (0 : Int) r8.2.1 r8.2.2.1 r8.2.2.2.1 (default : Int) (default : Int) (default : Int) r5.1 (IntKind.wrap .i64 ((3 : Int) + r6.1)) (-(1 : Int)) r8.1 ([] : List ((List ((ByteArray) × ((ByteArray) × (Unit)))) × ((List ((Int) × ((Int) × (Unit)))) × (Unit)))) ([] : List ((List ((ByteArray) × ((ByteArray) × (Unit)))) × ((List ((Int) × ((Int) × (Unit)))) × (Unit)))))
  | .p9 y1 y2 y3 y4 y5 y6 y7 y8 y9 y10 y11 y12 y13 y14 => cond (decide (y2 < y1)) (cond (inB y2 (List.length y12)) ((spec_l7Put n (y9, (y10, (y11, (y14, ())))) ((List.getD y12 (0 + (Int.toNat y2)) default).1, (List.getD y12 (0 + (Int.toNat y2)) default).2)).bind fun r17 => K (.p9 y1 (IntKind.wrap .i64 (y2 + (1 : Int))) y3 y4 y5 y6 y7 y8 r17.2.1 r17.2.2.1 r17.2.2.2.1 y12 y13 r17.2.2.2.2.1)) (none)) (some ((y9, (y10, (y11, (y14, ())))), (y3, (y4, (y5, ())))))
def spec_l1Cur__head (n : Nat) (a0 : (List (Int)) × ((Int) × ((Int) × (Unit)))) (a1 : Int) : Option (Tup [(.pair (.int .i64) (.pair (.int .i64) (.pair (.int .i64) (.pair (.sl false (.pair (.sl false (.pair .str (.pair .str .unit))) (.pair (.sl false (.pair (.int .i64) (.pair (.int .i64) .unit))) .unit))) .unit)))), (.pair (.bs (.int .u8)) (.pair (.int .i64) (.pair (.int .u64) .unit)))]) := goRec spec_l1Cur__head.step n (.p0 a0 a1)
def spec_l1Cur__head.spec : Ctr := ⟨77, [.p (.pair (.bs (.int .u8)) (.pair (.int .i64) (.pair (.int .u64) .unit))), .v (.int .i64)], [(.pair (.int .i64) (.pair (.int .i64) (.pair (.int .i64) (.pair (.sl false (.pair (.sl false (.pair .str (.pair .str .unit))) (.pair (.sl false (.pair (.int .i64) (.pair (.int .i64) .unit))) .unit))) .unit))))], [(.pair (.bs (.int .u8)) (.pair (.int .i64) (.pair (.int .u64) .unit)))], none, fun n x => spec_l1Cur__head n x.1 x.2.1⟩
theorem spec_l1Cur__head.seg_eq : SegEq ty gl spec_l1Cur__head.F spec_l1Cur__head.md spec_l1Cur__head.T spec_l1Cur__head.spec spec_l1Cur__head.lb spec_l1Cur__head.st spec_l1Cur__head.step := by
  intro n goto y; cases y <;> kernel_rfl
theorem spec_l1Cur__head.text : Text Go.Proofs.Try.prog spec_l1Cur__head.F spec_l1Cur__head.spec := textOf Go.Proofs.Try.f77
theorem spec_l1Cur__head.ok : CtrOK Go.Proofs.Try.prog gl spec_l1Cur__head.spec :=
  ctr_okS tabs spec_l1Cur__head.text spec_l1Cur__head.seg_eq (fun n x => ⟨.p0 x.1 x.2.1, rfl, rfl, rfl⟩) (consC spec_l1Cur__pick.ok (consC spec_l1Cur__puts.ok (consC spec_l7Put.ok (nilC))))

/-! loop.example/g00039/spec.l1Many -/
def spec_l1Many.T : List Ctr := []
def spec_l1Many.md : List (Nat × List Md) := []
noncomputable def spec_l1Many.F : Fun := ⟨(Go.Proofs.Try.f80.body).getD .skip, [.v (.sl false (.int .u8)), .v (.int .i64), .v (.int .i64)], [(.tmp 6, (.int .i64))], [], 0, []⟩
inductive spec_l1Many.Pt where
  | p0 (a0 : List (Int)) (a1 : Int) (a2 : Int)
def spec_l1Many.lb : spec_l1Many.Pt → Nat
  | .p0 _ _ _ => 0
def spec_l1Many.st : spec_l1Many.Pt → St
  | .p0 a0 a1 a2 => enter [.v (.sl false (.int .u8)) a0, .v (.int .i64) a1, .v (.int .i64) a2] 0
def spec_l1Many.step (n : Nat) (K : spec_l1Many.Pt → Option (Tup [(.int .i64)])) : spec_l1Many.Pt → Option (Tup [(.int .i64)])
  | .p0 a0 a1 a2 => cond (decide (a1 = (0 : Int))) (none) (cond (decide (a2 < (IntKind.wrap .i64 (Int.tdiv ((List.length a0) : Int) a1)))) (some a2) (some (IntKind.wrap .i64 (Int.tdiv ((List.length a0) : Int) a1))))
def spec_l1Many (n : Nat) (a0 : List (Int)) (a1 : Int) (a2 : Int) : Option (Tup [(.int .i64)]) := goRec spec_l1Many.step n (.p0 a0 a1 a2)
def spec_l1Many.spec : Ctr := ⟨80, [.v (.sl false (.int .u8)), .v (.int .i64), .v (.int .i64)], [(.int .i64)], [], none, fun n x => spec_l1Many n x.1 x.2.1 x.2.2.1⟩
theorem spec_l1Many.seg_eq : SegEq ty gl spec_l1Many.F spec_l1Many.md spec_l1Many.T spec_l1Many.spec spec_l1Many.lb spec_l1Many.st spec_l1Many.step := by
  intro n goto y; cases y <;> kernel_rfl
theorem spec_l1Many.text : Text Go.Proofs.Try.prog spec_l1Many.F spec_l1Many.spec := textOf Go.Proofs.Try.f80
theorem spec_l1Many.ok : CtrOK Go.Proofs.Try.prog gl spec_l1Many.spec :=
  ctr_okS tabs spec_l1Many.text spec_l1Many.seg_eq (fun n x => ⟨.p0 x.1 x.2.1 x.2.2.1, rfl, rfl, rfl⟩) (nilC)

/-! (*loop.example/g00039/spec.l1Cur).longSamples -/
def spec_l1Cur__longSamples.T : List Ctr := []
def spec_l1Cur__longSamples.md : List (Nat × List Md) := []
noncomputable def spec_l1Cur__longSamples.F : Fun := ⟨(Go.Proofs.Try.f82.body).getD .skip, [.q (.pair (.bs (.int .u8)) (.pair (.int .i64) (.pair (.int .u64) .unit))), .v (.int .i64)], [(.tmp 4, (.sl false (.pair (.int .i64) (.pair (.int .i64) .unit))))], [], 0, [(9, ⟨[1, 5, 6], [(5, (.pair (.int .i64) (.pair (.int .i64) .unit)))], [], false⟩)]⟩
inductive spec_l1Cur__longSamples.Pt where
  | p0 (a0 : (List (Int)) × ((Int) × ((Int) × (Unit)))) (a1 : Int)
  | p9 (y1 : Int) (y2 : Int) (y3 : List ((Int) × ((Int) × (Unit))))
def spec_l1Cur__longSamples.lb : spec_l1Cur__longSamples.Pt → Nat
  | .p0 _ _ => 0
  | .p9 _ _ _ => 9
def spec_l1Cur__longSamples.st : spec_l1Cur__longSamples.Pt → St
  | .p0 a0 a1 => enter [.q (.pair (.bs (.int .u8)) (.pair (.int .i64) (.pair (.int .u64) .unit))) a0, .v (.int .i64) a1] 0
  | .p9 y1 y2 y3 => ⟨[(1, .im (.int .i64) y1), (5, .hs 0 [] none 0), (6, .im (.int .i64) y2)], [(0, .arr true (.pair (.int .i64) (.pair (.int .i64) .unit)) y3 0)], 1⟩
def spec_l1Cur__longSamples.step (n : Nat) (K : spec_l1Cur__longSamples.Pt → Option (Tup [(.sl false (.pair (.int .i64) (.pair (.int .i64) .unit)))])) : spec_l1Cur__longSamples.Pt → Option (Tup [(.sl false (.pair (.int .i64) (.pair (.int .i64) .unit)))])
  | .p0 a0 a1 => K (.p9 a1 (0 : Int) ([] : List ((Int) × ((Int) × (Unit)))))
  | .p9 y1 y2 y3 => cond (decide (y2 < y1)) (cond (room ((List.length y3) + (List.length [((IntKind.wrap .i64 (y2 * (3 : Int))), ((IntKind.wrap .i64 (y2 * y2)), ()))]))) (K (.p9 y1 (IntKind.wrap .i64 (y2 + (1 : Int))) (y3 ++ [((IntKind.wrap .i64 (y2 * (3 : Int))), ((IntKind.wrap .i64 (y2 * y2)), ()))]))) (none)) (some y3)
def spec_l1Cur__longSamples (n : Nat) (a0 : (List (Int)) × ((Int) × ((Int) × (Unit)))) (a1 : Int) : Option (Tup [(.sl false (.pair (.int .i64) (.pair (.int .i64) .unit)))]) := goRec spec_l1Cur__longSamples.step n (.p0 a0 a1)
def spec_l1Cur__longSamples.spec : Ctr := ⟨82, [.q (.pair (.bs (.int .u8)) (.pair (.int .i64) (.pair (.int .u64) .unit))), .v (.int .i64)], [(.sl false (.pair (.int .i64) (.pair (.int .i64) .unit)))], [], none, fun n x => spec_l1Cur__longSamples n x.1 x.2.1⟩
theorem spec_l1Cur__longSamples.seg_eq : SegEq ty gl spec_l1Cur__longSamples.F spec_l1Cur__longSamples.md spec_l1Cur__longSamples.T spec_l1Cur__longSamples.spec spec_l1Cur__longSamples.lb spec_l1Cur__longSamples.st spec_l1Cur__longSamples.step := by
  intro n goto y; cases y <;> kernel_rfl
theorem spec_l1Cur__longSamples.text : Text Go.Proofs.Try.prog spec_l1Cur__longSamples.F spec_l1Cur__longSamples.spec := textOf Go.Proofs.Try.f82
theorem spec_l1Cur__longSamples.ok : CtrOK Go.Proofs.Try.prog gl spec_l1Cur__longSamples.spec :=
  ctr_okS tabs spec_l1Cur__longSamples.text spec_l1Cur__longSamples.seg_eq (fun n x => ⟨.p0 x.1 x.2.1, rfl, rfl, rfl⟩) (nilC)

/-! (*loop.example/g00039/spec.l1Cur).of2 -/
def spec_l1Cur__of2.T : List Ctr := [spec_l1Cur__one.spec]
def spec_l1Cur__of2.md : List (Nat × List Md) := [(81, [.p (.pair (.bs (.int .u8)) (.pair (.int .i64) (.pair (.int .u64) .unit))), .v])]
noncomputable def spec_l1Cur__of2.F : Fun := ⟨(Go.Proofs.Try.f133.body).getD .skip, [.p (.pair (.bs (.int .u8)) (.pair (.int .i64) (.pair (.int .u64) .unit))), .v (.int .i64), .v (.int .i64)], [(.tmp 6, (.int .i64))], [some (.pair (.bs (.int .u8)) (.pair (.int .i64) (.pair (.int .u64) .unit)))], 1, []⟩
inductive spec_l1Cur__of2.Pt where
  | p0 (a0 : (List (Int)) × ((Int) × ((Int) × (Unit)))) (a1 : Int) (a2 : Int)
def spec_l1Cur__of2.lb : spec_l1Cur__of2.Pt → Nat
  | .p0 _ _ _ => 0
def spec_l1Cur__of2.st : spec_l1Cur__of2.Pt → St
  | .p0 a0 a1 a2 => enter [.p (.pair (.bs (.int .u8)) (.pair (.int .i64) (.pair (.int .u64) .unit))) a0, .v (.int .i64) a1, .v (.int .i64) a2] 1
def spec_l1Cur__of2.step (n : Nat) (K : spec_l1Cur__of2.Pt → Option (Tup [(.int .i64), (.pair (.bs (.int .u8)) (.pair (.int .i64) (.pair (.int .u64) .unit)))])) : spec_l1Cur__of2.Pt → Option (Tup [(.int .i64), (.pair (.bs (.int .u8)) (.pair (.int .i64) (.pair (.int .u64) .unit)))])
  | .p0 a0 a1 a2 => (spec_l1Cur__one n (a0.1, a0.2) (2 : Int)).bind fun r6 => cond r6.1 (some (a1, (r6.2.1, r6.2.2))) (some (a2, (r6.2.1, r6.2.2)))
def spec_l1Cur__of2 (n : Nat) (a0 : (List (Int)) × ((Int) × ((Int) × (Unit)))) (a1 : Int) (a2 : Int) : Option (Tup [(.int .i64), (.pair (.bs (.int .u8)) (.pair (.int .i64) (.pair (.int .u64) .unit)))]) := goRec spec_l1Cur__of2.step n (.p0 a0 a1 a2)
def spec_l1Cur__of2.spec : Ctr := ⟨133, [.p (.pair (.bs (.int .u8)) (.pair (.int .i64) (.pair (.int .u64) .unit))), .v (.int .i64), .v (.int .i64)], [(.int .i64)], [(.pair (.bs (.int .u8)) (.pair (.int .i64) (.pair (.int .u64) .unit)))], none, fun n x => spec_l1Cur__of2 n x.1 x.2.1 x.2.2.1⟩
theorem spec_l1Cur__of2.seg_eq : SegEq ty gl spec_l1Cur__of2.F spec_l1Cur__of2.md spec_l1Cur__of2.T spec_l1Cur__of2.spec spec_l1Cur__of2.lb spec_l1Cur__of2.st spec_l1Cur__of2.step := by
  intro n goto y; cases y <;> kernel_rfl
theorem spec_l1Cur__of2.text : Text Go.Proofs.Try.prog spec_l1Cur__of2.F spec_l1Cur__of2.spec := textOf Go.Proofs.Try.f133
theorem spec_l1Cur__of2.ok : CtrOK Go.Proofs.Try.prog gl spec_l1Cur__of2.spec :=
  ctr_okS tabs spec_l1Cur__of2.text spec_l1Cur__of2.seg_eq (fun n x => ⟨.p0 x.1 x.2.1 x.2.2.1, rfl, rfl, rfl⟩) (consC spec_l1Cur__one.ok (nilC))

/-! loop.example/g00039/spec.l2Num -/
def spec_l2Num.T : List Ctr := []
def spec_l2Num.md : List (Nat × List Md) := []
noncomputable def spec_l2Num.F : Fun := ⟨(Go.Proofs.Try.f182.body).getD .skip, [.v (.int .i64)], [(.tmp 2, .str)], [], 0, [(17, ⟨[0, 3, 4], [], [], false⟩)]⟩
inductive spec_l2Num.Pt where
  | p0 (a0 : Int)
  | p17 (y1 : Int) (y2 : ByteArray) (y3 : Bool)
def spec_l2Num.lb : spec_l2Num.Pt → Nat
  | .p0 _ => 0
  | .p17 _ _ _ => 17
def spec_l2Num.st : spec_l2Num.Pt → St
  | .p0 a0 => enter [.v (.int .i64) a0] 0
  | .p17 y1 y2 y3 => ⟨[(0, .im (.int .i64) y1), (3, .im .str y2), (4, .im .bool y3)], [], 0⟩
def spec_l2Num.step (n : Nat) (K : spec_l2Num.Pt → Option (Tup [.str])) : spec_l2Num.Pt → Option (Tup [.str])
  | .p0 a0 => cond (decide (a0 = (0 : Int))) (some (⟨#[48]⟩ : ByteArray)) (K (.p17 a0 (⟨#[]⟩ : ByteArray) (decide (a0 < (0 : Int)))))
  | .p17 y1 y2 y3 => cond (!(decide (y1 = (0 : Int)))) (cond (decide ((Int.tmod y1 (10 : Int)) < (0 : Int))) (cond (room ((ByteArray.size (ofOcts [(IntKind.wrap .u8 (IntKind.wrap .i64 ((48 : Int) + (IntKind.wrap .i64 ((0 : Int) - (Int.tmod y1 (10 : Int)))))))])) + (ByteArray.size y2))) (K (.p17 (IntKind.wrap .i64 (Int.tdiv y1 (10 : Int))) ((ofOcts [(IntKind.wrap .u8 (IntKind.wrap .i64 ((48 : Int) + (IntKind.wrap .i64 ((0 : Int) - (Int.tmod y1 (10 : Int)))))))]) ++ y2) y3)) (none)) (cond (room ((ByteArray.size (ofOcts [(IntKind.wrap .u8 (IntKind.wrap .i64 ((48 : Int) + (Int.tmod y1 (10 : Int)))))])) + (ByteArray.size y2))) (K (.p17 (IntKind.wrap .i64 (Int.tdiv y1 (10 : Int))) ((ofOcts [(IntKind.wrap .u8 (IntKind.wrap .i64 ((48 : Int) + (Int.tmod y1 (10 : Int)))))]) ++ y2) y3)) (none))) (cond y3 (cond (room ((ByteArray.size (⟨#[45]⟩ : ByteArray)) + (ByteArray.size y2))) (some ((⟨#[45]⟩ : ByteArray) ++ y2)) (none)) (some y2))
def spec_l2Num (n : Nat) (a0 : Int) : Option (Tup [.str]) := goRec spec_l2Num.step n (.p0 a0)
def spec_l2Num.spec : Ctr := ⟨182, [.v (.int .i64)], [.str], [], none, fun n x => spec_l2Num n x.1⟩
theorem spec_l2Num.seg_eq : SegEq ty gl spec_l2Num.F spec_l2Num.md spec_l2Num.T spec_l2Num.spec spec_l2Num.lb spec_l2Num.st spec_l2Num.step := by
  intro n goto y; cases y <;> kernel_rfl
theorem spec_l2Num.text : Text Go.Proofs.Try.prog spec_l2Num.F spec_l2Num.spec := textOf Go.Proofs.Try.f182
theorem spec_l2Num.ok : CtrOK Go.Proofs.Try.prog gl spec_l2Num.spec :=
  ctr_okS tabs spec_l2Num.text spec_l2Num.seg_eq (fun n x => ⟨.p0 x.1, rfl, rfl, rfl⟩) (nilC)

/-! (*loop.example/g00039/spec.l1Cur).oddLabels -/
def spec_l1Cur__oddLabels.T : List Ctr := [spec_l1Cur__pick.spec, spec_l1Cur__of.spec, spec_l2Num.spec]
def spec_l1Cur__oddLabels.md : List (Nat × List Md) := [(79, [.p (.pair (.bs (.int .u8)) (.pair (.int .i64) (.pair (.int .u64) .unit))), .v]), (179, [.p (.pair (.bs (.int .u8)) (.pair (.int .i64) (.pair (.int .u64) .unit))), .v])]
noncomputable def spec_l1Cur__oddLabels.F : Fun := ⟨(Go.Proofs.Try.f135.body).getD .skip, [.p (.pair (.bs (.int .u8)) (.pair (.int .i64) (.pair (.int .u64) .unit))), .g (.sl false (.pair .str (.pair .str .unit)))], [(.tmp 4, (.sl false (.pair .str (.pair .str .unit))))], [some (.pair (.bs (.int .u8)) (.pair (.int .i64) (.pair (.int .u64) .unit)))], 1, [(59, ⟨[1, 5, 8, 9], [(1, (.pair .str (.pair .str .unit)))], [], false⟩), (39, ⟨[0, 1, 7], [(1, (.pair .str (.pair .str .unit)))], [], false⟩)]⟩
inductive spec_l1Cur__oddLabels.Pt where
  | p0 (a0 : (List (Int)) × ((Int) × ((Int) × (Unit)))) (a1 : List ((ByteArray) × ((ByteArray) × (Unit))))
  | p39 (y1 : Int) (y2 : List (Int)) (y3 : Int) (y4 : Int) (y5 : List ((ByteArray) × ((ByteArray) × (Unit))))
  | p59 (y1 : Int) (y2 : ByteArray) (y3 : Int) (y4 : List (Int)) (y5 : Int) (y6 : Int) (y7 : List ((ByteArray) × ((ByteArray) × (Unit))))
def spec_l1Cur__oddLabels.lb : spec_l1Cur__oddLabels.Pt → Nat
  | .p0 _ _ => 0
  | .p39 _ _ _ _ _ => 39
  | .p59 _ _ _ _ _ _ _ => 59
def spec_l1Cur__oddLabels.st : spec_l1Cur__oddLabels.Pt → St
  | .p0 a0 a1 => enter [.p (.pair (.bs (.int .u8)) (.pair (.int .i64) (.pair (.int .u64) .unit))) a0, .g (.sl false (.pair .str (.pair .str .unit))) a1] 1
  | .p39 y1 y2 y3 y4 y5 => ⟨[(0, .po 0 0), (1, .hs 1 [] none 0), (7, .im (.int .i64) y1)], [(0, .obj [.im (.bs (.int .u8)) y2, .im (.int .i64) y3, .im (.int .u64) y4]), (1, .arr false (.pair .str (.pair .str .unit)) y5 0)], 2⟩
  | .p59 y1 y2 y3 y4 y5 y6 y7 => ⟨[(1, .hs 1 [] none 0), (5, .im (.int .i64) y1), (8, .im .str y2), (9, .im (.int .i64) y3)], [(0, .obj [.im (.bs (.int .u8)) y4, .im (.int .i64) y5, .im (.int .u64) y6]), (1, .arr false (.pair .str (.pair .str .unit)) y7 0)], 2⟩
def spec_l1Cur__oddLabels.step (n : Nat) (K : spec_l1Cur__oddLabels.Pt → Option (Tup [(.sl false (.pair .str (.pair .str .unit))), (.pair (.bs (.int .u8)) (.pair (.int .i64) (.pair (.int .u64) .unit)))])) : spec_l1Cur__oddLabels.Pt → Option (Tup [(.sl false (.pair .str (.pair .str .unit))), (.pair (.bs (.int .u8)) (.pair (.int .i64) (.pair (.int .u64) .unit)))])
  | .p0 a0 a1 => cond (decide (((List.length a1) : Int) = (0 : Int))) (some (a1, (a0.1, a0.2))) ((spec_l1Cur__pick n (a0.1, a0.2) ((List.length a1) : Int)).bind fun r5 => (spec_l1Cur__pick n (r5.2.1, r5.2.2) (20 : Int)).bind fun r6 => cond (decide (r6.1 = (0 : Int))) ((spec_l1Cur__of n (r6.2.1, r6.2.2) [(⟨#[]⟩ : ByteArray), (⟨#[57, 97]⟩ : ByteArray), (⟨#[97, 45, 98]⟩ : ByteArray), (⟨#[95]⟩ : ByteArray), (⟨#[106, 111, 98]⟩ : ByteArray), (⟨#[97, 50, 51, 52, 53, 54, 55, 56, 57, 48, 49, 50, 51, 52, 53, 54, 55, 56, 57, 48, 49, 50, 51, 52, 53, 54, 55, 56, 57, 48, 49, 50, 51, 52, 53, 54, 55, 56, 57, 48]⟩ : ByteArray)]).bind fun r7 => cond (inB r5.1 (List.length a1)) (some ((List.set a1 (0 + (Int.toNat r5.1)) (r7.1, (List.getD a1 (0 + (Int.toNat r5.1)) default).2)), (r7.2.1, r7.2.2))) (none)) (cond (decide (r6.1 = (1 : Int))) ((spec_l1Cur__of n (r6.2.1, r6.2.2) [(⟨#[]⟩ : ByteArray), (⟨#[10]⟩ : ByteArray), (⟨#[127]⟩ : ByteArray), (⟨#[111, 107, 32]⟩ : ByteArray)]).bind fun r7 => cond (inB r5.1 (List.length a1)) (some ((List.set a1 (0 + (Int.toNat r5.1)) ((List.getD a1 (0 + (Int.toNat r5.1)) default).1, (r7.1, (List.getD a1 (0 + (Int.toNat r5.1)) default).2.2))), (r7.2.1, r7.2.2))) (none)) (cond (decide (r6.1 = (2 : Int))) (cond (inB (0 : Int) (List.length a1)) (cond (inB r5.1 (List.length a1)) (cond (inB (0 : Int) (List.length a1)) (cond (inB r5.1 (List.length (List.set a1 (0 + (Int.toNat (0 : Int))) (List.getD a1 (0 + (Int.toNat r5.1)) default)))) (some ((List.set (List.set a1 (0 + (Int.toNat (0 : Int))) (List.getD a1 (0 + (Int.toNat r5.1)) default)) (0 + (Int.toNat r5.1)) (List.getD a1 (0 + (Int.toNat (0 : Int))) default)), (r6.2.1, r6.2.2))) (none)) (none)) (none)) (none)) (cond (decide (r6.1 = (3 : Int))) (K (.p39 (0 : Int) r6.2.1 r6.2.2.1 r6.2.2.2.1 a1)) (cond (decide (r6.1 = (4 : Int))) ((spec_l1Cur__pick n (r6.2.1, r6.2.2) (3 : Int)).bind fun r7 => K (.p59 r5.1 (⟨#[]⟩ : ByteArray) (IntKind.wrap .i64 ((99 : Int) + r7.1)) r7.2.1 r7.2.2.1 r7.2.2.2.1 a1)) (some (a1, (r6.2.1, r6.2.2))))))))
  | .p39 y1 y2 y3 y4 y5 => (spec_l1Cur__pick n (y2, (y3, (y4, ()))) (3 : Int)).bind fun r8 => cond (decide (((List.length y5) : Int) < (IntKind.wrap .i64 ((19 : Int) + r8.1)))) ((spec_l2Num n (IntKind.wrap .i64 ((100 : Int) + y1))).bind fun r9 => cond (room ((ByteArray.size (⟨#[122, 122, 122]⟩ : ByteArray)) + (ByteArray.size r9))) (cond (room ((List.length y5) + (List.length [(((⟨#[122, 122, 122]⟩ : ByteArray) ++ r9), ((⟨#[118]⟩ : ByteArray), ()))]))) (K (.p39 (IntKind.wrap .i64 (y1 + (1 : Int))) r8.2.1 r8.2.2.1 r8.2.2.2.1 (y5 ++ [(((⟨#[122, 122, 122]⟩ : ByteArray) ++ r9), ((⟨#[118]⟩ : ByteArray), ()))]))) (none)) (none)) (some (y5, (r8.2.1, r8.2.2)))
  | .p59 y1 y2 y3 y4 y5 y6 y7 => cond (decide ((0 : Int) < y3)) (cond (room ((ByteArray.size y2) + (ByteArray.size (⟨#[118]⟩ : ByteArray)))) (K (.p59 y1 (y2 ++ (⟨#[118]⟩ : ByteArray)) (IntKind.wrap .i64 (y3 - (1 : Int))) y4 y5 y6 y7)) (none)) (cond (inB y1 (List.length y7)) (some ((List.set y7 (0 + (Int.toNat y1)) ((List.getD y7 (0 + (Int.toNat y1)) default).1, (y2, (List.getD y7 (0 + (Int.toNat y1)) default).2.2))), (y4, (y5, (y6, ()))))) (none))
def spec_l1Cur__oddLabels (n : Nat) (a0 : (List (Int)) × ((Int) × ((Int) × (Unit)))) (a1 : List ((ByteArray) × ((ByteArray) × (Unit)))) : Option (Tup [(.sl false (.pair .str (.pair .str .unit))), (.pair (.bs (.int .u8)) (.pair (.int .i64) (.pair (.int .u64) .unit)))]) := goRec spec_l1Cur__oddLabels.step n (.p0 a0 a1)
def spec_l1Cur__oddLabels.spec : Ctr := ⟨135, [.p (.pair (.bs (.int .u8)) (.pair (.int .i64) (.pair (.int .u64) .unit))), .g (.sl false (.pair .str (.pair .str .unit)))], [(.sl false (.pair .str (.pair .str .unit)))], [(.pair (.bs (.int .u8)) (.pair (.int .i64) (.pair (.int .u64) .unit)))], none, fun n x => spec_l1Cur__oddLabels n x.1 x.2.1⟩
theorem spec_l1Cur__oddLabels.seg_eq : SegEq ty gl spec_l1Cur__oddLabels.F spec_l1Cur__oddLabels.md spec_l1Cur__oddLabels.T spec_l1Cur__oddLabels.spec spec_l1Cur__oddLabels.lb spec_l1Cur__oddLabels.st spec_l1Cur__oddLabels.step := by
  intro n goto y; cases y <;> kernel_rfl
theorem spec_l1Cur__oddLabels.text : Text Go.Proofs.Try.prog spec_l1Cur__oddLabels.F spec_l1Cur__oddLabels.spec := textOf Go.Proofs.Try.f135
theorem spec_l1Cur__oddLabels.ok : CtrOK Go.Proofs.Try.prog gl spec_l1Cur__oddLabels.spec :=
  ctr_okS tabs spec_l1Cur__oddLabels.text spec_l1Cur__oddLabels.seg_eq (fun n x => ⟨.p0 x.1 x.2.1, rfl, rfl, rfl⟩) (consC spec_l1Cur__pick.ok (consC spec_l1Cur__of.ok (consC spec_l2Num.ok (nilC))))

/-! (*loop.example/g00039/spec.l1Cur).oddSamples -/
def spec_l1Cur__oddSamples.T : List Ctr := [spec_l1Cur__pick.spec, spec_l1Cur__of2.spec]
def spec_l1Cur__oddSamples.md : List (Nat × List Md) := [(79, [.p (.pair (.bs (.int .u8)) (.pair (.int .i64) (.pair (.int .u64) .unit))), .v]), (133, [.p (.pair (.bs (.int .u8)) (.pair (.int .i64) (.pair (.int .u64) .unit))), .v, .v])]
noncomputable def spec_l1Cur__oddSamples.F : Fun := ⟨(Go.Proofs.Try.f181.body).getD .skip, [.p (.pair (.bs (.int .u8)) (.pair (.int .i64) (.pair (.int .u64) .unit))), .g (.sl false (.pair (.int .i64) (.pair (.int .i64) .unit)))], [(.tmp 4, (.sl false (.pair (.int .i64) (.pair (.int .i64) .unit))))], [some (.pair (.bs (.int .u8)) (.pair (.int .i64) (.pair (.int .u64) .unit)))], 1, []⟩
inductive spec_l1Cur__oddSamples.Pt where
  | p0 (a0 : (List (Int)) × ((Int) × ((Int) × (Unit)))) (a1 : List ((Int) × ((Int) × (Unit))))
def spec_l1Cur__oddSamples.lb : spec_l1Cur__oddSamples.Pt → Nat
  | .p0 _ _ => 0
def spec_l1Cur__oddSamples.st : spec_l1Cur__oddSamples.Pt → St
  | .p0 a0 a1 => enter [.p (.pair (.bs (.int .u8)) (.pair (.int .i64) (.pair (.int .u64) .unit))) a0, .g (.sl false (.pair (.int .i64) (.pair (.int .i64) .unit))) a1] 1
def spec_l1Cur__oddSamples.step (n : Nat) (K : spec_l1Cur__oddSamples.Pt → Option (Tup [(.sl false (.pair (.int .i64) (.pair (.int .i64) .unit))), (.pair (.bs (.int .u8)) (.pair (.int .i64) (.pair (.int .u64) .unit)))])) : spec_l1Cur__oddSamples.Pt → Option (Tup [(.sl false (.pair (.int .i64) (.pair (.int .i64) .unit))), (.pair (.bs (.int .u8)) (.pair (.int .i64) (.pair (.int .u64) .unit)))])
  | .p0 a0 a1 => (spec_l1Cur__pick n (a0.1, a0.2) (20 : Int)).bind fun r5 => cond (decide (r5.1 = (0 : Int))) (cond (decide ((1 : Int) < ((List.length a1) : Int))) (cond (inB (0 : Int) (List.length a1)) (cond (inB (1 : Int) (List.length a1)) (some ((List.set a1 (0 + (Int.toNat (1 : Int))) ((List.getD a1 (0 + (Int.toNat (0 : Int))) default).1, (List.getD a1 (0 + (Int.toNat (1 : Int))) default).2)), (r5.2.1, r5.2.2))) (none)) (none)) (some (a1, (r5.2.1, r5.2.2)))) (cond (decide (r5.1 = (1 : Int))) ((spec_l1Cur__of2 n (r5.2.1, r5.2.2) (1000000000000 : Int) (1000000000001 : Int)).bind fun r6 => cond (room ((List.length a1) + (List.length [(r6.1, (default : (Int) × (Unit)))]))) (some ((a1 ++ [(r6.1, (default : (Int) × (Unit)))]), (r6.2.1, r6.2.2))) (none)) (cond (decide (r5.1 = (2 : Int))) (cond (decide ((0 : Int) < ((List.length a1) : Int))) (cond (inB (0 : Int) (List.length a1)) (some ((List.set a1 (0 + (Int.toNat (0 : Int))) ((-(1 : Int)), (List.getD a1 (0 + (Int.toNat (0 : Int))) default).2)), (r5.2.1, r5.2.2))) (none)) (some (a1, (r5.2.1, r5.2.2)))) (some (a1, (r5.2.1, r5.2.2)))))
def spec_l1Cur__oddSamples (n : Nat) (a0 : (List (Int)) × ((Int) × ((Int) × (Unit)))) (a1 : List ((Int) × ((Int) × (Unit)))) : Option (Tup [(.sl false (.pair (.int .i64) (.pair (.int .i64) .unit))), (.pair (.bs (.int .u8)) (.pair (.int .i64) (.pair (.int .u64) .unit)))]) := goRec spec_l1Cur__oddSamples.step n (.p0 a0 a1)
def spec_l1Cur__oddSamples.spec : Ctr := ⟨181, [.p (.pair (.bs (.int .u8)) (.pair (.int .i64) (.pair (.int .u64) .unit))), .g (.sl false (.pair (.int .i64) (.pair (.int .i64) .unit)))], [(.sl false (.pair (.int .i64) (.pair (.int .i64) .unit)))], [(.pair (.bs (.int .u8)) (.pair (.int .i64) (.pair (.int .u64) .unit)))], none, fun n x => spec_l1Cur__oddSamples n x.1 x.2.1⟩
theorem spec_l1Cur__oddSamples.seg_eq : SegEq ty gl spec_l1Cur__oddSamples.F spec_l1Cur__oddSamples.md spec_l1Cur__oddSamples.T spec_l1Cur__oddSamples.spec spec_l1Cur__oddSamples.lb spec_l1Cur__oddSamples.st spec_l1Cur__oddSamples.step := by
  intro n goto y; cases y <;> kernel_rfl
theorem spec_l1Cur__oddSamples.text : Text Go.Proofs.Try.prog spec_l1Cur__oddSamples.F spec_l1Cur__oddSamples.spec := textOf Go.Proofs.Try.f181
theorem spec_l1Cur__oddSamples.ok : CtrOK Go.Proofs.Try.prog gl spec_l1Cur__oddSamples.spec :=
  ctr_okS tabs spec_l1Cur__oddSamples.text spec_l1Cur__oddSamples.seg_eq (fun n x => ⟨.p0 x.1 x.2.1, rfl, rfl, rfl⟩) (consC spec_l1Cur__pick.ok (consC spec_l1Cur__of2.ok (nilC)))

/-! loop.example/g00039/spec.l2With -/
def spec_l2With.T : List Ctr := [spec_l2CmpText.spec]
def spec_l2With.md : List (Nat × List Md) := []
noncomputable def spec_l2With.F : Fun := ⟨(Go.Proofs.Try.f136.body).getD .skip, [.v (.sl false (.pair .str (.pair .str .unit))), .v .str, .v .str], [(.tmp 6, (.sl false (.pair .str (.pair .str .unit))))], [], 0, [(11, ⟨[1, 2, 7, 8, 13, 14, 15], [(7, (.pair .str (.pair .str .unit))), (13, (.pair .str (.pair .str .unit)))], [], false⟩), (22, ⟨[1, 2, 7, 8, 10, 13, 14, 15], [(7, (.pair .str (.pair .str .unit))), (13, (.pair .str (.pair .str .unit)))], [], false⟩), (23, ⟨[1, 2, 7, 8, 10, 13, 14, 15, 27], [(7, (.pair .str (.pair .str .unit))), (13, (.pair .str (.pair .str .unit)))], [], false⟩)]⟩
inductive spec_l2With.Pt where
  | p0 (a0 : List ((ByteArray) × ((ByteArray) × (Unit)))) (a1 : ByteArray) (a2 : ByteArray)
  | p11 (y1 : ByteArray) (y2 : ByteArray) (y3 : Bool) (y4 : List ((ByteArray) × ((ByteArray) × (Unit)))) (y5 : Int) (y6 : Int) (y7 : List ((ByteArray) × ((ByteArray) × (Unit))))
  | p23 (y1 : ByteArray) (y2 : ByteArray) (y3 : Bool) (y4 : List ((ByteArray) × ((ByteArray) × (Unit)))) (y5 : Int) (y6 : Int) (y7 : Bool) (y8 : List ((ByteArray) × ((ByteArray) × (Unit)))) (y9 : ByteArray) (y10 : ByteArray)
  | p22 (y1 : ByteArray) (y2 : ByteArray) (y3 : Bool) (y4 : List ((ByteArray) × ((ByteArray) × (Unit)))) (y5 : Int) (y6 : Int) (y7 : List ((ByteArray) × ((ByteArray) × (Unit)))) (y8 : ByteArray) (y9 : ByteArray)
def spec_l2With.lb : spec_l2With.Pt → Nat
  | .p0 _ _ _ => 0
  | .p11 _ _ _ _ _ _ _ => 11
  | .p23 _ _ _ _ _ _ _ _ _ _ => 23
  | .p22 _ _ _ _ _ _ _ _ _ => 22
def spec_l2With.st : spec_l2With.Pt → St
  | .p0 a0 a1 a2 => enter [.v (.sl false (.pair .str (.pair .str .unit))) a0, .v .str a1, .v .str a2] 0
  | .p11 y1 y2 y3 y4 y5 y6 y7 => ⟨[(1, .im .str y1), (2, .im .str y2), (7, .hs 0 [] none 0), (8, .im .bool y3), (13, .im (.sl false (.pair .str (.pair .str .unit))) y4), (14, .im (.int .i64) y5), (15, .im (.int .i64) y6)], [(0, .arr true (.pair .str (.pair .str .unit)) y7 0)], 1⟩
  | .p23 y1 y2 y3 y4 y5 y6 y7 y8 y9 y10 => ⟨[(1, .im .str y1), (2, .im .str y2), (7, .hs 0 [] none 0), (8, .im .bool y3), (10, .po 1 0), (13, .im (.sl false (.pair .str (.pair .str .unit))) y4), (14, .im (.int .i64) y5), (15, .im (.int .i64) y6), (27, .im .bool y7)], [(0, .arr true (.pair .str (.pair .str .unit)) y8 0), (1, .obj [.im .str y9, .im .str y10])], 2⟩
  | .p22 y1 y2 y3 y4 y5 y6 y7 y8 y9 => ⟨[(1, .im .str y1), (2, .im .str y2), (7, .hs 0 [] none 0), (8, .im .bool y3), (10, .po 1 0), (13, .im (.sl false (.pair .str (.pair .str .unit))) y4), (14, .im (.int .i64) y5), (15, .im (.int .i64) y6)], [(0, .arr true (.pair .str (.pair .str .unit)) y7 0), (1, .obj [.im .str y8, .im .str y9])], 2⟩
def spec_l2With.step (n : Nat) (K : spec_l2With.Pt → Option (Tup [(.sl false (.pair .str (.pair .str .unit)))])) : spec_l2With.Pt → Option (Tup [(.sl false (.pair .str (.pair .str .unit)))])
  | .p0 a0 a1 a2 => K (.p11 a1 a2 (seq a2 (⟨#[]⟩ : ByteArray)) a0 ((List.length a0) : Int) (0 : Int) ([] : List ((ByteArray) × ((ByteArray) × (Unit)))))
  | .p11 y1 y2 y3 y4 y5 y6 y7 => cond (decide (y6 < y5)) (cond (inB y6 (List.length y4)) (cond (!y3) ((spec_l2CmpText n y1 (List.getD y4 (Int.toNat y6) default).1).bind fun (r10 : Int) => K (.p23 y1 y2 y3 y4 y5 y6 (decide (r10 ≤ (0 : Int))) y7 (List.getD y4 (Int.toNat y6) default).1 (List.getD y4 (Int.toNat y6) default).2.1)) (K (.p23 y1 y2 y3 y4 y5 y6 false y7 (List.getD y4 (Int.toNat y6) default).1 (List.getD y4 (Int.toNat y6) default).2.1))) (none)) (cond (!y3) (cond (room ((List.length y7) + (List.length [(y1, (y2, ()))]))) (some (y7 ++ [(y1, (y2, ()))])) (none)) (some y7))
  | .p23 y1 y2 y3 y4 y5 y6 y7 y8 y9 y10 => cond y7 (cond (room ((List.length y8) + (List.length [(y1, (y2, ()))]))) (K (.p22 y1 y2 true y4 y5 y6 (y8 ++ [(y1, (y2, ()))]) y9 y10)) (none)) (K (.p22 y1 y2 y3 y4 y5 y6 y8 y9 y10))
  | .p22 y1 y2 y3 y4 y5 y6 y7 y8 y9 => cond (!(seq y8 y1)) (cond (room ((List.length y7) + (List.length [(y8, (y9, ()))]))) (K (.p11 y1 y2 y3 y4 y5 (IntKind.wrap .i64 (y6 + (1 : Int))) (y7 ++ [(y8, (y9, ()))]))) (none)) (K (.p11 y1 y2 y3 y4 y5 (IntKind.wrap .i64 (y6 + (1 : Int))) y7))
def spec_l2With (n : Nat) (a0 : List ((ByteArray) × ((ByteArray) × (Unit)))) (a1 : ByteArray) (a2 : ByteArray) : Option (Tup [(.sl false (.pair .str (.pair .str .unit)))]) := goRec spec_l2With.step n (.p0 a0 a1 a2)
def spec_l2With.spec : Ctr := ⟨136, [.v (.sl false (.pair .str (.pair .str .unit))), .v .str, .v .str], [(.sl false (.pair .str (.pair .str .unit)))], [], none, fun n x => spec_l2With n x.1 x.2.1 x.2.2.1⟩
theorem spec_l2With.seg_eq : SegEq ty gl spec_l2With.F spec_l2With.md spec_l2With.T spec_l2With.spec spec_l2With.lb spec_l2With.st spec_l2With.step := by
  intro n goto y; cases y <;> kernel_rfl
theorem spec_l2With.text : Text Go.Proofs.Try.prog spec_l2With.F spec_l2With.spec := textOf Go.Proofs.Try.f136
theorem spec_l2With.ok : CtrOK Go.Proofs.Try.prog gl spec_l2With.spec :=
  ctr_okS tabs spec_l2With.text spec_l2With.seg_eq (fun n x => ⟨.p0 x.1 x.2.1 x.2.2.1, rfl, rfl, rfl⟩) (consC spec_l2CmpText.ok (nilC))

/-! (*loop.example/g00039/spec.l1Cur).oddSeries -/
def spec_l1Cur__oddSeries.T : List Ctr := [spec_l1Cur__pick.spec, spec_l1Cur__oddLabels.spec, spec_l1Cur__oddSamples.spec, spec_l2With.spec]
def spec_l1Cur__oddSeries.md : List (Nat × List Md) := [(79, [.p (.pair (.bs (.int .u8)) (.pair (.int .i64) (.pair (.int .u64) .unit))), .v]), (135, [.p (.pair (.bs (.int .u8)) (.pair (.int .i64) (.pair (.int .u64) .unit))), .g (.sl false (.pair .str (.pair .str .unit)))]), (181, [.p (.pair (.bs (.int .u8)) (.pair (.int .i64) (.pair (.int .u64) .unit))), .g (.sl false (.pair (.int .i64) (.pair (.int .i64) .unit)))])]
noncomputable def spec_l1Cur__oddSeries.F : Fun := ⟨(Go.Proofs.Try.f134.body).getD .skip, [.p (.pair (.bs (.int .u8)) (.pair (.int .i64) (.pair (.int .u64) .unit))), .g (.sl false (.pair (.sl false (.pair .str (.pair .str .unit))) (.pair (.sl false (.pair (.int .i64) (.pair (.int .i64) .unit))) .unit)))], [(.tmp 4, (.sl false (.pair (.sl false (.pair .str (.pair .str .unit))) (.pair (.sl false (.pair (.int .i64) (.pair (.int .i64) .unit))) .unit))))], [some (.pair (.bs (.int .u8)) (.pair (.int .i64) (.pair (.int .u64) .unit)))], 1, []⟩
inductive spec_l1Cur__oddSeries.Pt where
  | p0 (a0 : (List (Int)) × ((Int) × ((Int) × (Unit)))) (a1 : List ((List ((ByteArray) × ((ByteArray) × (Unit)))) × ((List ((Int) × ((Int) × (Unit)))) × (Unit))))
def spec_l1Cur__oddSeries.lb : spec_l1Cur__oddSeries.Pt → Nat
  | .p0 _ _ => 0
def spec_l1Cur__oddSeries.st : spec_l1Cur__oddSeries.Pt → St
  | .p0 a0 a1 => enter [.p (.pair (.bs (.int .u8)) (.pair (.int .i64) (.pair (.int .u64) .unit))) a0, .g (.sl false (.pair (.sl false (.pair .str (.pair .str .unit))) (.pair (.sl false (.pair (.int .i64) (.pair (.int .i64) .unit))) .unit))) a1] 1
def spec_l1Cur__oddSeries.step (n : Nat) (K : spec_l1Cur__oddSeries.Pt → Option (Tup [(.sl false (.pair (.sl false (.pair .str (.pair .str .unit))) (.pair (.sl false (.pair (.int .i64) (.pair (.int .i64) .unit))) .unit))), (.pair (.bs (.int .u8)) (.pair (.int .i64) (.pair (.int .u64) .unit)))])) : spec_l1Cur__oddSeries.Pt → Option (Tup [(.sl false (.pair (.sl false (.pair .str (.pair .str .unit))) (.pair (.sl false (.pair (.int .i64) (.pair (.int .i64) .unit))) .unit))), (.pair (.bs (.int .u8)) (.pair (.int .i64) (.pair (.int .u64) .unit)))])
  | .p0 a0 a1 => cond (decide (((List.length a1) : Int) = (0 : Int))) (some (a1, (a0.1, a0.2))) ((spec_l1Cur__pick n (a0.1, a0.2) ((List.length a1) : Int)).bind fun r5 => (spec_l1Cur__pick n (r5.2.1, r5.2.2) (16 : Int)).bind fun r6 => cond (decide (r6.1 = (0 : Int))) (cond (inB r5.1 (List.length a1)) ((spec_l1Cur__oddLabels n (r6.2.1, r6.2.2) (List.getD a1 (0 + (Int.toNat r5.1)) default).1).bind fun r7 => cond (inB r5.1 (List.length a1)) (cond (Nat.beq (Int.toNat r5.1) (0 + (Int.toNat r5.1))) (some ((List.set a1 (0 + (Int.toNat r5.1)) (r7.1, (List.getD a1 (0 + (Int.toNat r5.1)) default).2)), (r7.2.1, r7.2.2))) (none)) (none)) (none)) (cond (decide (r6.1 = (1 : Int))) (cond (inB r5.1 (List.length a1)) ((spec_l1Cur__oddSamples n (r6.2.1, r6.2.2) (List.getD a1 (0 + (Int.toNat r5.1)) default).2.1).bind fun r7 => cond (inB r5.1 (List.length a1)) (cond (Nat.beq (Int.toNat r5.1) (0 + (Int.toNat r5.1))) (some ((List.set a1 (0 + (Int.toNat r5.1)) ((List.getD a1 (0 + (Int.toNat r5.1)) default).1, (r7.1, (List.getD a1 (0 + (Int.toNat r5.1)) default).2.2))), (r7.2.1, r7.2.2))) (none)) (none)) (none)) (cond (decide (r6.1 = (2 : Int))) (cond (inB r5.1 (List.length a1)) (some ((List.set a1 (0 + (Int.toNat r5.1)) ((List.getD a1 (0 + (Int.toNat r5.1)) default).1, (([] : List ((Int) × ((Int) × (Unit)))), (List.getD a1 (0 + (Int.toNat r5.1)) default).2.2))), (r6.2.1, r6.2.2))) (none)) (cond (decide (r6.1 = (3 : Int))) (cond (inB (0 : Int) (List.length a1)) (cond (inB r5.1 (List.length a1)) (cond (inB (0 : Int) (List.length a1)) (cond ((Nat.beq (0 + (Int.toNat r5.1)) (0 + (Int.toNat (0 : Int)))) && (Nat.beq (0 + (Int.toNat r5.1)) (0 + (Int.toNat (0 : Int))))) (cond (inB r5.1 (List.length a1)) (cond ((Nat.beq (0 + (Int.toNat (0 : Int))) (0 + (Int.toNat r5.1))) && (Nat.beq (0 + (Int.toNat (0 : Int))) (0 + (Int.toNat r5.1)))) (some (a1, (r6.2.1, r6.2.2))) (cond (((Nat.beq (0 + (Int.toNat r5.1)) 0) && (Nat.blt 0 (0 + (Int.toNat (0 : Int))))) && (Nat.beq (0 + (Int.toNat (0 : Int))) (0 + (Int.toNat (0 : Int))))) (none) (none))) (none)) (cond (((Nat.beq (0 + (Int.toNat (0 : Int))) 0) && (Nat.blt 0 (0 + (Int.toNat r5.1)))) && (Nat.beq (0 + (Int.toNat r5.1)) (0 + (Int.toNat r5.1)))) (cond (inB r5.1 (List.length (List.set a1 0 (List.getD a1 (0 + (Int.toNat r5.1)) default)))) (cond (Nat.beq (Int.toNat r5.1) (0 + (Int.toNat r5.1))) (some ((List.set (List.set a1 0 (List.getD a1 (0 + (Int.toNat r5.1)) default)) (0 + (Int.toNat r5.1)) ((List.getD a1 0 default).1, ((List.getD a1 0 default).2.1, ()))), (r6.2.1, r6.2.2))) (none)) (none)) (none))) (none)) (none)) (none)) (cond (decide (r6.1 = (4 : Int))) (cond (inB r5.1 (List.length a1)) ((spec_l2With n (List.getD a1 (0 + (Int.toNat r5.1)) default).1 (⟨#[95, 110, 97, 109, 101]⟩ : ByteArray) (⟨#[]⟩ : ByteArray)).bind fun r7 => cond (inB r5.1 (List.length a1)) (some ((List.set a1 (0 + (Int.toNat r5.1)) (r7, (List.getD a1 (0 + (Int.toNat r5.1)) default).2)), (r6.2.1, r6.2.2))) (none)) (none)) (some (a1, (r6.2.1, r6.2.2))))))))
def spec_l1Cur__oddSeries (n : Nat) (a0 : (List (Int)) × ((Int) × ((Int) × (Unit)))) (a1 : List ((List ((ByteArray) × ((ByteArray) × (Unit)))) × ((List ((Int) × ((Int) × (Unit)))) × (Unit)))) : Option (Tup [(.sl false (.pair (.sl false (.pair .str (.pair .str .unit))) (.pair (.sl false (.pair (.int .i64) (.pair (.int .i64) .unit))) .unit))), (.pair (.bs (.int .u8)) (.pair (.int .i64) (.pair (.int .u64) .unit)))]) := goRec spec_l1Cur__oddSeries.step n (.p0 a0 a1)
def spec_l1Cur__oddSeries.spec : Ctr := ⟨134, [.p (.pair (.bs (.int .u8)) (.pair (.int .i64) (.pair (.int .u64) .unit))), .g (.sl false (.pair (.sl false (.pair .str (.pair .str .unit))) (.pair (.sl false (.pair (.int .i64) (.pair (.int .i64) .unit))) .unit)))], [(.sl false (.pair (.sl false (.pair .str (.pair .str .unit))) (.pair (.sl false (.pair (.int .i64) (.pair (.int .i64) .unit))) .unit)))], [(.pair (.bs (.int .u8)) (.pair (.int .i64) (.pair (.int .u64) .unit)))], none, fun n x => spec_l1Cur__oddSeries n x.1 x.2.1⟩
theorem spec_l1Cur__oddSeries.seg_eq : SegEq ty gl spec_l1Cur__oddSeries.F spec_l1Cur__oddSeries.md spec_l1Cur__oddSeries.T spec_l1Cur__oddSeries.spec spec_l1Cur__oddSeries.lb spec_l1Cur__oddSeries.st spec_l1Cur__oddSeries.step := by
  intro n goto y; cases y <;> kernel_rfl
theorem spec_l1Cur__oddSeries.text : Text Go.Proofs.Try.prog spec_l1Cur__oddSeries.F spec_l1Cur__oddSeries.spec := textOf Go.Proofs.Try.f134
theorem spec_l1Cur__oddSeries.ok : CtrOK Go.Proofs.Try.prog gl spec_l1Cur__oddSeries.spec :=
  ctr_okS tabs spec_l1Cur__oddSeries.text spec_l1Cur__oddSeries.seg_eq (fun n x => ⟨.p0 x.1 x.2.1, rfl, rfl, rfl⟩) (consC spec_l1Cur__pick.ok (consC spec_l1Cur__oddLabels.ok (consC spec_l1Cur__oddSamples.ok (consC spec_l2With.ok (nilC)))))

/-! (*loop.example/g00039/spec.l1Cur).oddHead -/
def spec_l1Cur__oddHead.T : List Ctr := [spec_l1Cur__pick.spec, spec_l1Cur__of2.spec, spec_l1Cur__oddSeries.spec]
def spec_l1Cur__oddHead.md : List (Nat × List Md) := [(79, [.p (.pair (.bs (.int .u8)) (.pair (.int .i64) (.pair (.int .u64) .unit))), .v]), (133, [.p (.pair (.bs (.int .u8)) (.pair (.int .i64) (.pair (.int .u64) .unit))), .v, .v]), (134, [.p (.pair (.bs (.int .u8)) (.pair (.int .i64) (.pair (.int .u64) .unit))), .g (.sl false (.pair (.sl false (.pair .str (.pair .str .unit))) (.pair (.sl false (.pair (.int .i64) (.pair (.int .i64) .unit))) .unit)))])]
noncomputable def spec_l1Cur__oddHead.F : Fun := ⟨(Go.Proofs.Try.f83.body).getD .skip, [.p (.pair (.bs (.int .u8)) (.pair (.int .i64) (.pair (.int .u64) .unit))), .g (.pair (.int .i64) (.pair (.int .i64) (.pair (.int .i64) (.pair (.sl false (.pair (.sl false (.pair .str (.pair .str .unit))) (.pair (.sl false (.pair (.int .i64) (.pair (.int .i64) .unit))) .unit))) .unit))))], [(.cell 4 62, (.pair (.int .i64) (.pair (.int .i64) (.pair (.int .i64) (.pair (.sl false (.pair (.sl false (.pair .str (.pair .str .unit))) (.pair (.sl false (.pair (.int .i64) (.pair (.int .i64) .unit))) .unit))) .unit)))))], [some (.pair (.bs (.int .u8)) (.pair (.int .i64) (.pair (.int .u64) .unit)))], 1, []⟩
inductive spec_l1Cur__oddHead.Pt where
  | p0 (a0 : (List (Int)) × ((Int) × ((Int) × (Unit)))) (a1 : (Int) × ((Int) × ((Int) × ((List ((List ((ByteArray) × ((ByteArray) × (Unit)))) × ((List ((Int) × ((Int) × (Unit)))) × (Unit)))) × (Unit)))))
def spec_l1Cur__oddHead.lb : spec_l1Cur__oddHead.Pt → Nat
  | .p0 _ _ => 0
def spec_l1Cur__oddHead.st : spec_l1Cur__oddHead.Pt → St
  | .p0 a0 a1 => enter [.p (.pair (.bs (.int .u8)) (.pair (.int .i64) (.pair (.int .u64) .unit))) a0, .g (.pair (.int .i64) (.pair (.int .i64) (.pair (.int .i64) (.pair (.sl false (.pair (.sl false (.pair .str (.pair .str .unit))) (.pair (.sl false (.pair (.int .i64) (.pair (.int .i64) .unit))) .unit))) .unit)))) a1] 1
def spec_l1Cur__oddHead.step (n : Nat) (K : spec_l1Cur__oddHead.Pt → Option (Tup [(.pair (.int .i64) (.pair (.int .i64) (.pair (.int .i64) (.pair (.sl false (.pair (.sl false (.pair .str (.pair .str .unit))) (.pair (.sl false (.pair (.int .i64) (.pair (.int .i64) .unit))) .unit))) .unit)))), (.pair (.bs (.int .u8)) (.pair (.int .i64) (.pair (.int .u64) .unit)))])) : spec_l1Cur__oddHead.Pt → Option (Tup [(.pair (.int .i64) (.pair (.int .i64) (.pair (.int .i64) (.pair (.sl false (.pair (.sl false (.pair .str (.pair .str .unit))) (.pair (.sl false (.pair (.int .i64) (.pair (.int .i64) .unit))) .unit))) .unit)))), (.pair (.bs (.int .u8)) (.pair (.int .i64) (.pair (.int .u64) .unit)))])
  | .p0 a0 a1 => (spec_l1Cur__pick n (a0.1, a0.2) (20 : Int)).bind fun r5 => cond (decide (r5.1 = (0 : Int))) ((spec_l1Cur__of2 n (r5.2.1, r5.2.2) (-(1 : Int)) (1000000000000 : Int)).bind fun r6 => some ((r6.1, a1.2), (r6.2.1, r6.2.2))) (cond (decide (r5.1 = (1 : Int))) ((spec_l1Cur__pick n (r5.2.1, r5.2.2) (2 : Int)).bind fun r6 => some ((a1.1, ((IntKind.wrap .i64 (((List.length a1.2.2.2.1) : Int) - r6.1)), a1.2.2)), (r6.2.1, r6.2.2))) (cond (decide (r5.1 = (2 : Int))) ((spec_l1Cur__pick n (r5.2.1, r5.2.2) (4 : Int)).bind fun r6 => cond (inB r6.1 (List.length [(-(1 : Int)), (-(2 : Int)), (1000000000000 : Int), (1000000000001 : Int)])) (some ((a1.1, (a1.2.1, ((List.getD [(-(1 : Int)), (-(2 : Int)), (1000000000000 : Int), (1000000000001 : Int)] (0 + (Int.toNat r6.1)) default), (a1.2.2.2.1, ())))), (r6.2.1, r6.2.2))) (none)) (cond (decide (r5.1 = (3 : Int))) ((spec_l1Cur__oddSeries n (r5.2.1, r5.2.2) a1.2.2.2.1).bind fun r6 => some ((a1.1, (a1.2.1, (a1.2.2.1, (r6.1, ())))), (r6.2.1, r6.2.2))) (some (a1, (r5.2.1, r5.2.2))))))
def spec_l1Cur__oddHead (n : Nat) (a0 : (List (Int)) × ((Int) × ((Int) × (Unit)))) (a1 : (Int) × ((Int) × ((Int) × ((List ((List ((ByteArray) × ((ByteArray) × (Unit)))) × ((List ((Int) × ((Int) × (Unit)))) × (Unit)))) × (Unit))))) : Option (Tup [(.pair (.int .i64) (.pair (.int .i64) (.pair (.int .i64) (.pair (.sl false (.pair (.sl false (.pair .str (.pair .str .unit))) (.pair (.sl false (.pair (.int .i64) (.pair (.int .i64) .unit))) .unit))) .unit)))), (.pair (.bs (.int .u8)) (.pair (.int .i64) (.pair (.int .u64) .unit)))]) := goRec spec_l1Cur__oddHead.step n (.p0 a0 a1)
def spec_l1Cur__oddHead.spec : Ctr := ⟨83, [.p (.pair (.bs (.int .u8)) (.pair (.int .i64) (.pair (.int .u64) .unit))), .g (.pair (.int .i64) (.pair (.int .i64) (.pair (.int .i64) (.pair (.sl false (.pair (.sl false (.pair .str (.pair .str .unit))) (.pair (.sl false (.pair (.int .i64) (.pair (.int .i64) .unit))) .unit))) .unit))))], [(.pair (.int .i64) (.pair (.int .i64) (.pair (.int .i64) (.pair (.sl false (.pair (.sl false (.pair .str (.pair .str .unit))) (.pair (.sl false (.pair (.int .i64) (.pair (.int .i64) .unit))) .unit))) .unit))))], [(.pair (.bs (.int .u8)) (.pair (.int .i64) (.pair (.int .u64) .unit)))], none, fun n x => spec_l1Cur__oddHead n x.1 x.2.1⟩
theorem spec_l1Cur__oddHead.seg_eq : SegEq ty gl spec_l1Cur__oddHead.F spec_l1Cur__oddHead.md spec_l1Cur__oddHead.T spec_l1Cur__oddHead.spec spec_l1Cur__oddHead.lb spec_l1Cur__oddHead.st spec_l1Cur__oddHead.step := by
  intro n goto y; cases y <;> kernel_rfl
theorem spec_l1Cur__oddHead.text : Text Go.Proofs.Try.prog spec_l1Cur__oddHead.F spec_l1Cur__oddHead.spec := textOf Go.Proofs.Try.f83
theorem spec_l1Cur__oddHead.ok : CtrOK Go.Proofs.Try.prog gl spec_l1Cur__oddHead.spec :=
  ctr_okS tabs spec_l1Cur__oddHead.text spec_l1Cur__oddHead.seg_eq (fun n x => ⟨.p0 x.1 x.2.1, rfl, rfl, rfl⟩) (consC spec_l1Cur__pick.ok (consC spec_l1Cur__of2.ok (consC spec_l1Cur__oddSeries.ok (nilC))))

/-! (*loop.example/g00039/spec.l1Cur).oddPuts -/
def spec_l1Cur__oddPuts.T : List Ctr := [spec_l1Cur__pick.spec, spec_l1Cur__of2.spec, spec_l1Cur__oddLabels.spec, spec_l2With.spec]
def spec_l1Cur__oddPuts.md : List (Nat × List Md) := [(79, [.p (.pair (.bs (.int .u8)) (.pair (.int .i64) (.pair (.int .u64) .unit))), .v]), (135, [.p (.pair (.bs (.int .u8)) (.pair (.int .i64) (.pair (.int .u64) .unit))), .g (.sl false (.pair .str (.pair .str .unit)))]), (133, [.p (.pair (.bs (.int .u8)) (.pair (.int .i64) (.pair (.int .u64) .unit))), .v, .v])]
noncomputable def spec_l1Cur__oddPuts.F : Fun := ⟨(Go.Proofs.Try.f84.body).getD .skip, [.p (.pair (.bs (.int .u8)) (.pair (.int .i64) (.pair (.int .u64) .unit))), .g (.sl false (.pair (.sl false (.pair .str (.pair .str .unit))) (.pair (.int .i64) (.pair (.int .i64) .unit))))], [(.tmp 4, (.sl false (.pair (.sl false (.pair .str (.pair .str .unit))) (.pair (.int .i64) (.pair (.int .i64) .unit)))))], [some (.pair (.bs (.int .u8)) (.pair (.int .i64) (.pair (.int .u64) .unit)))], 1, [(33, ⟨[0, 1], [(1, (.pair (.sl false (.pair .str (.pair .str .unit))) (.pair (.int .i64) (.pair (.int .i64) .unit))))], [], false⟩)]⟩
inductive spec_l1Cur__oddPuts.Pt where
  | p0 (a0 : (List (Int)) × ((Int) × ((Int) × (Unit)))) (a1 : List ((List ((ByteArray) × ((ByteArray) × (Unit)))) × ((Int) × ((Int) × (Unit)))))
  | p33 (y1 : List (Int)) (y2 : Int) (y3 : Int) (y4 : List ((List ((ByteArray) × ((ByteArray) × (Unit)))) × ((Int) × ((Int) × (Unit)))))
def spec_l1Cur__oddPuts.lb : spec_l1Cur__oddPuts.Pt → Nat
  | .p0 _ _ => 0
  | .p33 _ _ _ _ => 33
def spec_l1Cur__oddPuts.st : spec_l1Cur__oddPuts.Pt → St
  | .p0 a0 a1 => enter [.p (.pair (.bs (.int .u8)) (.pair (.int .i64) (.pair (.int .u64) .unit))) a0, .g (.sl false (.pair (.sl false (.pair .str (.pair .str .unit))) (.pair (.int .i64) (.pair (.int .i64) .unit)))) a1] 1
  | .p33 y1 y2 y3 y4 => ⟨[(0, .po 0 0), (1, .hs 1 [] none 0)], [(0, .obj [.im (.bs (.int .u8)) y1, .im (.int .i64) y2, .im (.int .u64) y3]), (1, .arr false (.pair (.sl false (.pair .str (.pair .str .unit))) (.pair (.int .i64) (.pair (.int .i64) .unit))) y4 0)], 2⟩
def spec_l1Cur__oddPuts.step (n : Nat) (K : spec_l1Cur__oddPuts.Pt → Option (Tup [(.sl false (.pair (.sl false (.pair .str (.pair .str .unit))) (.pair (.int .i64) (.pair (.int .i64) .unit)))), (.pair (.bs (.int .u8)) (.pair (.int .i64) (.pair (.int .u64) .unit)))])) : spec_l1Cur__oddPuts.Pt → Option (Tup [(.sl false (.pair (.sl false (.pair .str (.pair .str .unit))) (.pair (.int .i64) (.pair (.int .i64) .unit)))), (.pair (.bs (.int .u8)) (.pair (.int .i64) (.pair (.int .u64) .unit)))])
  | .p0 a0 a1 => cond (decide (((List.length a1) : Int) = (0 : Int))) (some (a1, (a0.1, a0.2))) ((spec_l1Cur__pick n (a0.1, a0.2) ((List.length a1) : Int)).bind fun r5 => (spec_l1Cur__pick n (r5.2.1, r5.2.2) (12 : Int)).bind fun r6 => cond (decide (r6.1 = (0 : Int))) (cond (inB r5.1 (List.length a1)) ((spec_l1Cur__oddLabels n (r6.2.1, r6.2.2) (List.getD a1 (0 + (Int.toNat r5.1)) default).1).bind fun r7 => cond (inB r5.1 (List.length a1)) (cond (Nat.beq (Int.toNat r5.1) (0 + (Int.toNat r5.1))) (some ((List.set a1 (0 + (Int.toNat r5.1)) (r7.1, (List.getD a1 (0 + (Int.toNat r5.1)) default).2)), (r7.2.1, r7.2.2))) (none)) (none)) (none)) (cond (decide (r6.1 = (1 : Int))) ((spec_l1Cur__of2 n (r6.2.1, r6.2.2) (-(1 : Int)) (1000000000001 : Int)).bind fun r7 => cond (inB r5.1 (List.length a1)) (some ((List.set a1 (0 + (Int.toNat r5.1)) ((List.getD a1 (0 + (Int.toNat r5.1)) default).1, (r7.1, (List.getD a1 (0 + (Int.toNat r5.1)) default).2.2))), (r7.2.1, r7.2.2))) (none)) (cond (decide (r6.1 = (2 : Int))) (cond (inB r5.1 (List.length a1)) ((spec_l2With n (List.getD a1 (0 + (Int.toNat r5.1)) default).1 (⟨#[95, 110, 97, 109, 101]⟩ : ByteArray) (⟨#[]⟩ : ByteArray)).bind fun r7 => cond (inB r5.1 (List.length a1)) (some ((List.set a1 (0 + (Int.toNat r5.1)) (r7, (List.getD a1 (0 + (Int.toNat r5.1)) default).2)), (r6.2.1, r6.2.2))) (none)) (none)) (cond (decide (r6.1 = (3 : Int))) (K (.p33 r6.2.1 r6.2.2.1 r6.2.2.2.1 a1)) (some (a1, (r6.2.1, r6.2.2)))))))
  | .p33 y1 y2 y3 y4 => (spec_l1Cur__pick n (y1, (y2, (y3, ()))) (3 : Int)).bind fun r7 => cond (decide (((List.length y4) : Int) < (IntKind.wrap .i64 ((499 : Int) + r7.1)))) (cond (room ((List.length y4) + (List.length [([((⟨#[95, 110, 97, 109, 101]⟩ : ByteArray), ((⟨#[120]⟩ : ByteArray), ()))], (((List.length y4) : Int), (default : (Int) × (Unit))))]))) (K (.p33 r7.2.1 r7.2.2.1 r7.2.2.2.1 (y4 ++ [([((⟨#[95, 110, 97, 109, 101]⟩ : ByteArray), ((⟨#[120]⟩ : ByteArray), ()))], (((List.length y4) : Int), (default : (Int) × (Unit))))]))) (none)) (some (y4, (r7.2.1, r7.2.2)))
def spec_l1Cur__oddPuts (n : Nat) (a0 : (List (Int)) × ((Int) × ((Int) × (Unit)))) (a1 : List ((List ((ByteArray) × ((ByteArray) × (Unit)))) × ((Int) × ((Int) × (Unit))))) : Option (Tup [(.sl false (.pair (.sl false (.pair .str (.pair .str .unit))) (.pair (.int .i64) (.pair (.int .i64) .unit)))), (.pair (.bs (.int .u8)) (.pair (.int .i64) (.pair (.int .u64) .unit)))]) := goRec spec_l1Cur__oddPuts.step n (.p0 a0 a1)
def spec_l1Cur__oddPuts.spec : Ctr := ⟨84, [.p (.pair (.bs (.int .u8)) (.pair (.int .i64) (.pair (.int .u64) .unit))), .g (.sl false (.pair (.sl false (.pair .str (.pair .str .unit))) (.pair (.int .i64) (.pair (.int .i64) .unit))))], [(.sl false (.pair (.sl false (.pair .str (.pair .str .unit))) (.pair (.int .i64) (.pair (.int .i64) .unit))))], [(.pair (.bs (.int .u8)) (.pair (.int .i64) (.pair (.int .u64) .unit)))], none, fun n x => spec_l1Cur__oddPuts n x.1 x.2.1⟩
theorem spec_l1Cur__oddPuts.seg_eq : SegEq ty gl spec_l1Cur__oddPuts.F spec_l1Cur__oddPuts.md spec_l1Cur__oddPuts.T spec_l1Cur__oddPuts.spec spec_l1Cur__oddPuts.lb spec_l1Cur__oddPuts.st spec_l1Cur__oddPuts.step := by
  intro n goto y; cases y <;> kernel_rfl
theorem spec_l1Cur__oddPuts.text : Text Go.Proofs.Try.prog spec_l1Cur__oddPuts.F spec_l1Cur__oddPuts.spec := textOf Go.Proofs.Try.f84
theorem spec_l1Cur__oddPuts.ok : CtrOK Go.Proofs.Try.prog gl spec_l1Cur__oddPuts.spec :=
  ctr_okS tabs spec_l1Cur__oddPuts.text spec_l1Cur__oddPuts.seg_eq (fun n x => ⟨.p0 x.1 x.2.1, rfl, rfl, rfl⟩) (consC spec_l1Cur__pick.ok (consC spec_l1Cur__of2.ok (consC spec_l1Cur__oddLabels.ok (consC spec_l2With.ok (nilC)))))

/-! loop.example/g00039/spec.DrawPutAll -/
def spec_DrawPutAll.T : List Ctr := [spec_l1Cur__pick.spec, spec_l1Cur__one.spec, spec_l1Cur__puts.spec, spec_l1Cur__head.spec, spec_l1Many.spec, spec_l1Cur__longSamples.spec, spec_l1Cur__oddHead.spec, spec_l1Cur__oddPuts.spec]
def spec_DrawPutAll.md : List (Nat × List Md) := [(77, [.p (.pair (.bs (.int .u8)) (.pair (.int .i64) (.pair (.int .u64) .unit))), .v]), (79, [.p (.pair (.bs (.int .u8)) (.pair (.int .i64) (.pair (.int .u64) .unit))), .v]), (78, [.p (.pair (.bs (.int .u8)) (.pair (.int .i64) (.pair (.int .u64) .unit))), .v, .v]), (81, [.p (.pair (.bs (.int .u8)) (.pair (.int .i64) (.pair (.int .u64) .unit))), .v]), (82, [.q (.pair (.bs (.int .u8)) (.pair (.int .i64) (.pair (.int .u64) .unit))), .v]), (83, [.p (.pair (.bs (.int .u8)) (.pair (.int .i64) (.pair (.int .u64) .unit))), .g (.pair (.int .i64) (.pair (.int .i64) (.pair (.int .i64) (.pair (.sl false (.pair (.sl false (.pair .str (.pair .str .unit))) (.pair (.sl false (.pair (.int .i64) (.pair (.int .i64) .unit))) .unit))) .unit))))]), (84, [.p (.pair (.bs (.int .u8)) (.pair (.int .i64) (.pair (.int .u64) .unit))), .g (.sl false (.pair (.sl false (.pair .str (.pair .str .unit))) (.pair (.int .i64) (.pair (.int .i64) .unit))))])]
noncomputable def spec_DrawPutAll.F : Fun := ⟨(Go.Proofs.Try.f35.body).getD .skip, [.v (.bs (.int .u8))], [(.cell 2 62, (.pair (.int .i64) (.pair (.int .i64) (.pair (.int .i64) (.pair (.sl false (.pair (.sl false (.pair .str (.pair .str .unit))) (.pair (.sl false (.pair (.int .i64) (.pair (.int .i64) .unit))) .unit))) .unit))))), (.tmp 3, (.sl false (.pair (.sl false (.pair .str (.pair .str .unit))) (.pair (.int .i64) (.pair (.int .i64) .unit)))))], [], 0, []⟩
inductive spec_DrawPutAll.Pt where
  | p0 (a0 : List (Int))
def spec_DrawPutAll.lb : spec_DrawPutAll.Pt → Nat
  | .p0 _ => 0
def spec_DrawPutAll.st : spec_DrawPutAll.Pt → St
  | .p0 a0 => enter [.v (.bs (.int .u8)) a0] 0
def spec_DrawPutAll.step (n : Nat) (K : spec_DrawPutAll.Pt → Option (Tup [(.pair (.int .i64) (.pair (.int .i64) (.pair (.int .i64) (.pair (.sl false (.pair (.sl false (.pair .str (.pair .str .unit))) (.pair (.sl false (.pair (.int .i64) (.pair (.int .i64) .unit))) .unit))) .unit)))), (.sl false (.pair (.sl false (.pair .str (.pair .str .unit))) (.pair (.int .i64) (.pair (.int .i64) .unit))))])) : spec_DrawPutAll.Pt → Option (Tup [(.pair (.int .i64) (.pair (.int .i64) (.pair (.int .i64) (.pair (.sl false (.pair (.sl false (.pair .str (.pair .str .unit))) (.pair (.sl false (.pair (.int .i64) (.pair (.int .i64) .unit))) .unit))) .unit)))), (.sl false (.pair (.sl false (.pair .str (.pair .str .unit))) (.pair (.int .i64) (.pair (.int .i64) .unit))))])
  | .p0 a0 => (spec_l1Cur__head n (a0, (default : (Int) × ((Int) × (Unit)))) (12 : Int)).bind fun r4 => (spec_l1Cur__pick n (r4.2.1, r4.2.2) (100 : Int)).bind fun r5 => (spec_l1Many n a0 (20 : Int) (40 : Int)).bind fun (r6 : Int) => (spec_l1Cur__puts n (r5.2.1, r5.2.2) r5.1 (IntKind.wrap .i64 ((20 : Int) + r6))).bind fun r7 => (spec_l1Cur__one n (r7.2.1, r7.2.2) (20 : Int)).bind fun r8 => cond r8.1 ((spec_l1Cur__pick n (r8.2.1, r8.2.2) (2 : Int)).bind fun r9 => (spec_l1Cur__longSamples n (r9.2.1, r9.2.2) (IntKind.wrap .i64 ((2000 : Int) - r9.1))).bind fun r10 => cond (room ((List.length r7.1) + (List.length [([((⟨#[95, 110, 97, 109, 101]⟩ : ByteArray), ((⟨#[117, 112]⟩ : ByteArray), ()))], ((1 : Int), (default : (Int) × (Unit)))), ([((⟨#[95, 110, 97, 109, 101]⟩ : ByteArray), ((⟨#[117, 112]⟩ : ByteArray), ()))], ((6001 : Int), (default : (Int) × (Unit))))]))) ((spec_l1Cur__oddHead n (r9.2.1, r9.2.2) ((1000000000000 : Int), ((3 : Int), ((6000 : Int), ([([((⟨#[95, 110, 97, 109, 101]⟩ : ByteArray), ((⟨#[117, 112]⟩ : ByteArray), ()))], (r10, ()))], ()))))).bind fun r11 => (spec_l1Cur__oddPuts n (r11.2.1, r11.2.2) (r7.1 ++ [([((⟨#[95, 110, 97, 109, 101]⟩ : ByteArray), ((⟨#[117, 112]⟩ : ByteArray), ()))], ((1 : Int), (default : (Int) × (Unit)))), ([((⟨#[95, 110, 97, 109, 101]⟩ : ByteArray), ((⟨#[117, 112]⟩ : ByteArray), ()))], ((6001 : Int), (default : (Int) × (Unit))))])).bind fun r12 => some (r11.1, r12.1)) (none)) ((spec_l1Cur__oddHead n (r8.2.1, r8.2.2) r4.1).bind fun r9 => (spec_l1Cur__oddPuts n (r9.2.1, r9.2.2) r7.1).bind fun r10 => some (r9.1, r10.1))
def spec_DrawPutAll (n : Nat) (a0 : List (Int)) : Option (Tup [(.pair (.int .i64) (.pair (.int .i64) (.pair (.int .i64) (.pair (.sl false (.pair (.sl false (.pair .str (.pair .str .unit))) (.pair (.sl false (.pair (.int .i64) (.pair (.int .i64) .unit))) .unit))) .unit)))), (.sl false (.pair (.sl false (.pair .str (.pair .str .unit))) (.pair (.int .i64) (.pair (.int .i64) .unit))))]) := goRec spec_DrawPutAll.step n (.p0 a0)
def spec_DrawPutAll.spec : Ctr := ⟨35, [.v (.bs (.int .u8))], [(.pair (.int .i64) (.pair (.int .i64) (.pair (.int .i64) (.pair (.sl false (.pair (.sl false (.pair .str (.pair .str .unit))) (.pair (.sl false (.pair (.int .i64) (.pair (.int .i64) .unit))) .unit))) .unit)))), (.sl false (.pair (.sl false (.pair .str (.pair .str .unit))) (.pair (.int .i64) (.pair (.int .i64) .unit))))], [], none, fun n x => spec_DrawPutAll n x.1⟩
theorem spec_DrawPutAll.seg_eq : SegEq ty gl spec_DrawPutAll.F spec_DrawPutAll.md spec_DrawPutAll.T spec_DrawPutAll.spec spec_DrawPutAll.lb spec_DrawPutAll.st spec_DrawPutAll.step := by
  intro n goto y; cases y <;> kernel_rfl
theorem spec_DrawPutAll.text : Text Go.Proofs.Try.prog spec_DrawPutAll.F spec_DrawPutAll.spec := textOf Go.Proofs.Try.f35
theorem spec_DrawPutAll.ok : CtrOK Go.Proofs.Try.prog gl spec_DrawPutAll.spec :=
  ctr_okS tabs spec_DrawPutAll.text spec_DrawPutAll.seg_eq (fun n x => ⟨.p0 x.1, rfl, rfl, rfl⟩) (consC spec_l1Cur__pick.ok (consC spec_l1Cur__one.ok (consC spec_l1Cur__puts.ok (consC spec_l1Cur__head.ok (consC spec_l1Many.ok (consC spec_l1Cur__longSamples.ok (consC spec_l1Cur__oddHead.ok (consC spec_l1Cur__oddPuts.ok (nilC)))))))))

/-! loop.example/g00039/impl.isTime -/
def impl_isTime.T : List Ctr := []
def impl_isTime.md : List (Nat × List Md) := []
noncomputable def impl_isTime.F : Fun := ⟨(Go.Proofs.Try.f54.body).getD .skip, [.v (.int .i64)], [(.tmp 2, .bool)], [], 0, []⟩
inductive impl_isTime.Pt where
  | p0 (a0 : Int)
def impl_isTime.lb : impl_isTime.Pt → Nat
  | .p0 _ => 0
def impl_isTime.st : impl_isTime.Pt → St
  | .p0 a0 => enter [.v (.int .i64) a0] 0
def impl_isTime.step (n : Nat) (K : impl_isTime.Pt → Option (Tup [.bool])) : impl_isTime.Pt → Option (Tup [.bool])
  | .p0 a0 => cond (decide ((0 : Int) ≤ a0)) (some (decide (a0 ≤ (1000000000000 : Int)))) (some false)
def impl_isTime (n : Nat) (a0 : Int) : Option (Tup [.bool]) := goRec impl_isTime.step n (.p0 a0)
def impl_isTime.spec : Ctr := ⟨54, [.v (.int .i64)], [.bool], [], none, fun n x => impl_isTime n x.1⟩
theorem impl_isTime.seg_eq : SegEq ty gl impl_isTime.F impl_isTime.md impl_isTime.T impl_isTime.spec impl_isTime.lb impl_isTime.st impl_isTime.step := by
  intro n goto y; cases y <;> kernel_rfl
theorem impl_isTime.text : Text Go.Proofs.Try.prog impl_isTime.F impl_isTime.spec := textOf Go.Proofs.Try.f54
theorem impl_isTime.ok : CtrOK Go.Proofs.Try.prog gl impl_isTime.spec :=
  ctr_okS tabs impl_isTime.text impl_isTime.seg_eq (fun n x => ⟨.p0 x.1, rfl, rfl, rfl⟩) (nilC)

/-! loop.example/g00039/impl.goodWindow -/
def impl_goodWindow.T : List Ctr := [impl_isTime.spec]
def impl_goodWindow.md : List (Nat × List Md) := []
noncomputable def impl_goodWindow.F : Fun := ⟨(Go.Proofs.Try.f137.body).getD .skip, [.v (.int .i64), .v (.int .i64)], [(.tmp 4, .bool)], [], 0, []⟩
inductive impl_goodWindow.Pt where
  | p0 (a0 : Int) (a1 : Int)
def impl_goodWindow.lb : impl_goodWindow.Pt → Nat
  | .p0 _ _ => 0
def impl_goodWindow.st : impl_goodWindow.Pt → St
  | .p0 a0 a1 => enter [.v (.int .i64) a0, .v (.int .i64) a1] 0
def impl_goodWindow.step (n : Nat) (K : impl_goodWindow.Pt → Option (Tup [.bool])) : impl_goodWindow.Pt → Option (Tup [.bool])
  | .p0 a0 a1 => (impl_isTime n a0).bind fun r5 => cond r5 (cond (decide ((0 : Int) ≤ a1)) (some (decide (a1 ≤ (200 : Int)))) (some false)) (some false)
def impl_goodWindow (n : Nat) (a0 : Int) (a1 : Int) : Option (Tup [.bool]) := goRec impl_goodWindow.step n (.p0 a0 a1)
def impl_goodWindow.spec : Ctr := ⟨137, [.v (.int .i64), .v (.int .i64)], [.bool], [], none, fun n x => impl_goodWindow n x.1 x.2.1⟩
theorem impl_goodWindow.seg_eq : SegEq ty gl impl_goodWindow.F impl_goodWindow.md impl_goodWindow.T impl_goodWindow.spec impl_goodWindow.lb impl_goodWindow.st impl_goodWindow.step := by
  intro n goto y; cases y <;> kernel_rfl
theorem impl_goodWindow.text : Text Go.Proofs.Try.prog impl_goodWindow.F impl_goodWindow.spec := textOf Go.Proofs.Try.f137
theorem impl_goodWindow.ok : CtrOK Go.Proofs.Try.prog gl impl_goodWindow.spec :=
  ctr_okS tabs impl_goodWindow.text impl_goodWindow.seg_eq (fun n x => ⟨.p0 x.1 x.2.1, rfl, rfl, rfl⟩) (consC impl_isTime.ok (nilC))

/-! loop.example/g00039/impl.digitByte -/
def impl_digitByte.T : List Ctr := []
def impl_digitByte.md : List (Nat × List Md) := []
noncomputable def impl_digitByte.F : Fun := ⟨(Go.Proofs.Try.f161.body).getD .skip, [.v (.int .u8)], [(.tmp 2, .bool)], [], 0, []⟩
inductive impl_digitByte.Pt where
  | p0 (a0 : Int)
def impl_digitByte.lb : impl_digitByte.Pt → Nat
  | .p0 _ => 0
def impl_digitByte.st : impl_digitByte.Pt → St
  | .p0 a0 => enter [.v (.int .u8) a0] 0
def impl_digitByte.step (n : Nat) (K : impl_digitByte.Pt → Option (Tup [.bool])) : impl_digitByte.Pt → Option (Tup [.bool])
  | .p0 a0 => cond (decide ((48 : Int) ≤ a0)) (some (decide (a0 ≤ (57 : Int)))) (some false)
def impl_digitByte (n : Nat) (a0 : Int) : Option (Tup [.bool]) := goRec impl_digitByte.step n (.p0 a0)
def impl_digitByte.spec : Ctr := ⟨161, [.v (.int .u8)], [.bool], [], none, fun n x => impl_digitByte n x.1⟩
theorem impl_digitByte.seg_eq : SegEq ty gl impl_digitByte.F impl_digitByte.md impl_digitByte.T impl_digitByte.spec impl_digitByte.lb impl_digitByte.st impl_digitByte.step := by
  intro n goto y; cases y <;> kernel_rfl
theorem impl_digitByte.text : Text Go.Proofs.Try.prog impl_digitByte.F impl_digitByte.spec := textOf Go.Proofs.Try.f161
theorem impl_digitByte.ok : CtrOK Go.Proofs.Try.prog gl impl_digitByte.spec :=
  ctr_okS tabs impl_digitByte.text impl_digitByte.seg_eq (fun n x => ⟨.p0 x.1, rfl, rfl, rfl⟩) (nilC)

/-! loop.example/g00039/impl.letterByte -/
def impl_letterByte.T : List Ctr := []
def impl_letterByte.md : List (Nat × List Md) := []
noncomputable def impl_letterByte.F : Fun := ⟨(Go.Proofs.Try.f196.body).getD .skip, [.v (.int .u8)], [(.tmp 2, .bool)], [], 0, []⟩
inductive impl_letterByte.Pt where
  | p0 (a0 : Int)
def impl_letterByte.lb : impl_letterByte.Pt → Nat
  | .p0 _ => 0
def impl_letterByte.st : impl_letterByte.Pt → St
  | .p0 a0 => enter [.v (.int .u8) a0] 0
def impl_letterByte.step (n : Nat) (K : impl_letterByte.Pt → Option (Tup [.bool])) : impl_letterByte.Pt → Option (Tup [.bool])
  | .p0 a0 => cond (decide ((97 : Int) ≤ a0)) (cond (decide (a0 ≤ (122 : Int))) (some true) (cond (decide ((65 : Int) ≤ a0)) (some (decide (a0 ≤ (90 : Int)))) (some false))) (cond (decide ((65 : Int) ≤ a0)) (some (decide (a0 ≤ (90 : Int)))) (some false))
def impl_letterByte (n : Nat) (a0 : Int) : Option (Tup [.bool]) := goRec impl_letterByte.step n (.p0 a0)
def impl_letterByte.spec : Ctr := ⟨196, [.v (.int .u8)], [.bool], [], none, fun n x => impl_letterByte n x.1⟩
theorem impl_letterByte.seg_eq : SegEq ty gl impl_letterByte.F impl_letterByte.md impl_letterByte.T impl_letterByte.spec impl_letterByte.lb impl_letterByte.st impl_letterByte.step := by
  intro n goto y; cases y <;> kernel_rfl
theorem impl_letterByte.text : Text Go.Proofs.Try.prog impl_letterByte.F impl_letterByte.spec := textOf Go.Proofs.Try.f196
theorem impl_letterByte.ok : CtrOK Go.Proofs.Try.prog gl impl_letterByte.spec :=
  ctr_okS tabs impl_letterByte.text impl_letterByte.seg_eq (fun n x => ⟨.p0 x.1, rfl, rfl, rfl⟩) (nilC)

/-! loop.example/g00039/impl.wordByte -/
def impl_wordByte.T : List Ctr := [impl_digitByte.spec, impl_letterByte.spec]
def impl_wordByte.md : List (Nat × List Md) := []
noncomputable def impl_wordByte.F : Fun := ⟨(Go.Proofs.Try.f162.body).getD .skip, [.v (.int .u8)], [(.tmp 2, .bool)], [], 0, []⟩
inductive impl_wordByte.Pt where
  | p0 (a0 : Int)
def impl_wordByte.lb : impl_wordByte.Pt → Nat
  | .p0 _ => 0
def impl_wordByte.st : impl_wordByte.Pt → St
  | .p0 a0 => enter [.v (.int .u8) a0] 0
def impl_wordByte.step (n : Nat) (K : impl_wordByte.Pt → Option (Tup [.bool])) : impl_wordByte.Pt → Option (Tup [.bool])
  | .p0 a0 => (impl_letterByte n a0).bind fun r4 => cond r4 (some true) ((impl_digitByte n a0).bind fun r5 => cond r5 (some true) (some (decide (a0 = (95 : Int)))))
def impl_wordByte (n : Nat) (a0 : Int) : Option (Tup [.bool]) := goRec impl_wordByte.step n (.p0 a0)
def impl_wordByte.spec : Ctr := ⟨162, [.v (.int .u8)], [.bool], [], none, fun n x => impl_wordByte n x.1⟩
theorem impl_wordByte.seg_eq : SegEq ty gl impl_wordByte.F impl_wordByte.md impl_wordByte.T impl_wordByte.spec impl_wordByte.lb impl_wordByte.st impl_wordByte.step := by
  intro n goto y; cases y <;> kernel_rfl
theorem impl_wordByte.text : Text Go.Proofs.Try.prog impl_wordByte.F impl_wordByte.spec := textOf Go.Proofs.Try.f162
theorem impl_wordByte.ok : CtrOK Go.Proofs.Try.prog gl impl_wordByte.spec :=
  ctr_okS tabs impl_wordByte.text impl_wordByte.seg_eq (fun n x => ⟨.p0 x.1, rfl, rfl, rfl⟩) (consC impl_digitByte.ok (consC impl_letterByte.ok (nilC)))

/-! loop.example/g00039/impl.isName -/
def impl_isName.T : List Ctr := [impl_digitByte.spec, impl_wordByte.spec]
def impl_isName.md : List (Nat × List Md) := []
noncomputable def impl_isName.F : Fun := ⟨(Go.Proofs.Try.f102.body).getD .skip, [.v .str], [(.tmp 2, .bool)], [], 0, [(4, ⟨[0, 15], [], [], false⟩), (15, ⟨[0, 17, 18], [], [], false⟩)]⟩
inductive impl_isName.Pt where
  | p0 (a0 : ByteArray)
  | p4 (y1 : ByteArray) (y2 : Bool)
  | p15 (y1 : ByteArray) (y2 : Int) (y3 : Int)
def impl_isName.lb : impl_isName.Pt → Nat
  | .p0 _ => 0
  | .p4 _ _ => 4
  | .p15 _ _ _ => 15
def impl_isName.st : impl_isName.Pt → St
  | .p0 a0 => enter [.v .str a0] 0
  | .p4 y1 y2 => ⟨[(0, .im .str y1), (15, .im .bool y2)], [], 0⟩
  | .p15 y1 y2 y3 => ⟨[(0, .im .str y1), (17, .im (.int .i64) y2), (18, .im (.int .i64) y3)], [], 0⟩
def impl_isName.step (n : Nat) (K : impl_isName.Pt → Option (Tup [.bool])) : impl_isName.Pt → Option (Tup [.bool])
  | .p0 a0 => cond (seq a0 (⟨#[]⟩ : ByteArray)) (K (.p4 a0 true)) (cond (decide ((40 : Int) < ((ByteArray.size a0) : Int))) (K (.p4 a0 true)) (cond (inB (0 : Int) (ByteArray.size a0)) ((impl_digitByte n (bt a0 (0 : Int))).bind fun r4 => K (.p4 a0 r4)) (none)))
  | .p4 y1 y2 => cond y2 (some false) (K (.p15 y1 ((ByteArray.size y1) : Int) (0 : Int)))
  | .p15 y1 y2 y3 => cond (decide (y3 < y2)) (cond (inB y3 (ByteArray.size y1)) ((impl_wordByte n (bt y1 y3)).bind fun r6 => cond (!r6) (some false) (K (.p15 y1 y2 (IntKind.wrap .i64 (y3 + (1 : Int)))))) (none)) (some true)
def impl_isName (n : Nat) (a0 : ByteArray) : Option (Tup [.bool]) := goRec impl_isName.step n (.p0 a0)
def impl_isName.spec : Ctr := ⟨102, [.v .str], [.bool], [], none, fun n x => impl_isName n x.1⟩
theorem impl_isName.seg_eq : SegEq ty gl impl_isName.F impl_isName.md impl_isName.T impl_isName.spec impl_isName.lb impl_isName.st impl_isName.step := by
  intro n goto y; cases y <;> kernel_rfl
theorem impl_isName.text : Text Go.Proofs.Try.prog impl_isName.F impl_isName.spec := textOf Go.Proofs.Try.f102
theorem impl_isName.ok : CtrOK Go.Proofs.Try.prog gl impl_isName.spec :=
  ctr_okS tabs impl_isName.text impl_isName.seg_eq (fun n x => ⟨.p0 x.1, rfl, rfl, rfl⟩) (consC impl_digitByte.ok (consC impl_wordByte.ok (nilC)))

/-! loop.example/g00039/impl.printed -/
def impl_printed.T : List Ctr := []
def impl_printed.md : List (Nat × List Md) := []
noncomputable def impl_printed.F : Fun := ⟨(Go.Proofs.Try.f166.body).getD .skip, [.v .str, .v (.int .i64)], [(.tmp 4, .bool)], [], 0, [(15, ⟨[0, 11, 12], [], [], false⟩)]⟩
inductive impl_printed.Pt where
  | p0 (a0 : ByteArray) (a1 : Int)
  | p15 (y1 : ByteArray) (y2 : Int) (y3 : Int)
def impl_printed.lb : impl_printed.Pt → Nat
  | .p0 _ _ => 0
  | .p15 _ _ _ => 15
def impl_printed.st : impl_printed.Pt → St
  | .p0 a0 a1 => enter [.v .str a0, .v (.int .i64) a1] 0
  | .p15 y1 y2 y3 => ⟨[(0, .im .str y1), (11, .im (.int .i64) y2), (12, .im (.int .i64) y3)], [], 0⟩
def impl_printed.step (n : Nat) (K : impl_printed.Pt → Option (Tup [.bool])) : impl_printed.Pt → Option (Tup [.bool])
  | .p0 a0 a1 => cond (decide (a1 < ((ByteArray.size a0) : Int))) (some false) (K (.p15 a0 ((ByteArray.size a0) : Int) (0 : Int)))
  | .p15 y1 y2 y3 => cond (decide (y3 < y2)) (cond (inB y3 (ByteArray.size y1)) (cond (decide ((bt y1 y3) < (32 : Int))) (some false) (cond (inB y3 (ByteArray.size y1)) (cond (decide ((126 : Int) < (bt y1 y3))) (some false) (K (.p15 y1 y2 (IntKind.wrap .i64 (y3 + (1 : Int)))))) (none))) (none)) (some true)
def impl_printed (n : Nat) (a0 : ByteArray) (a1 : Int) : Option (Tup [.bool]) := goRec impl_printed.step n (.p0 a0 a1)
def impl_printed.spec : Ctr := ⟨166, [.v .str, .v (.int .i64)], [.bool], [], none, fun n x => impl_printed n x.1 x.2.1⟩
theorem impl_printed.seg_eq : SegEq ty gl impl_printed.F impl_printed.md impl_printed.T impl_printed.spec impl_printed.lb impl_printed.st impl_printed.step := by
  intro n goto y; cases y <;> kernel_rfl
theorem impl_printed.text : Text Go.Proofs.Try.prog impl_printed.F impl_printed.spec := textOf Go.Proofs.Try.f166
theorem impl_printed.ok : CtrOK Go.Proofs.Try.prog gl impl_printed.spec :=
  ctr_okS tabs impl_printed.text impl_printed.seg_eq (fun n x => ⟨.p0 x.1 x.2.1, rfl, rfl, rfl⟩) (nilC)

/-! loop.example/g00039/impl.isValue -/
def impl_isValue.T : List Ctr := [impl_printed.spec]
def impl_isValue.md : List (Nat × List Md) := []
noncomputable def impl_isValue.F : Fun := ⟨(Go.Proofs.Try.f104.body).getD .skip, [.v .str], [(.tmp 2, .bool)], [], 0, []⟩
inductive impl_isValue.Pt where
  | p0 (a0 : ByteArray)
def impl_isValue.lb : impl_isValue.Pt → Nat
  | .p0 _ => 0
def impl_isValue.st : impl_isValue.Pt → St
  | .p0 a0 => enter [.v .str a0] 0
def impl_isValue.step (n : Nat) (K : impl_isValue.Pt → Option (Tup [.bool])) : impl_isValue.Pt → Option (Tup [.bool])
  | .p0 a0 => cond (!(seq a0 (⟨#[]⟩ : ByteArray))) ((impl_printed n a0 (100 : Int)).bind fun r4 => some r4) (some false)
def impl_isValue (n : Nat) (a0 : ByteArray) : Option (Tup [.bool]) := goRec impl_isValue.step n (.p0 a0)
def impl_isValue.spec : Ctr := ⟨104, [.v .str], [.bool], [], none, fun n x => impl_isValue n x.1⟩
theorem impl_isValue.seg_eq : SegEq ty gl impl_isValue.F impl_isValue.md impl_isValue.T impl_isValue.spec impl_isValue.lb impl_isValue.st impl_isValue.step := by
  intro n goto y; cases y <;> kernel_rfl
theorem impl_isValue.text : Text Go.Proofs.Try.prog impl_isValue.F impl_isValue.spec := textOf Go.Proofs.Try.f104
theorem impl_isValue.ok : CtrOK Go.Proofs.Try.prog gl impl_isValue.spec :=
  ctr_okS tabs impl_isValue.text impl_isValue.seg_eq (fun n x => ⟨.p0 x.1, rfl, rfl, rfl⟩) (consC impl_printed.ok (nilC))

/-! loop.example/g00039/impl.GoodLabels -/
def impl_GoodLabels.T : List Ctr := [impl_isName.spec, impl_isValue.spec]
def impl_GoodLabels.md : List (Nat × List Md) := []
noncomputable def impl_GoodLabels.F : Fun := ⟨(Go.Proofs.Try.f53.body).getD .skip, [.v (.sl false (.pair .str (.pair .str .unit)))], [(.tmp 2, .bool)], [], 0, [(15, ⟨[0, 8, 9, 10], [(8, (.pair .str (.pair .str .unit)))], [], false⟩), (26, ⟨[0, 8, 9, 10, 39], [(8, (.pair .str (.pair .str .unit)))], [], false⟩)]⟩
inductive impl_GoodLabels.Pt where
  | p0 (a0 : List ((ByteArray) × ((ByteArray) × (Unit))))
  | p15 (y1 : List ((ByteArray) × ((ByteArray) × (Unit)))) (y2 : List ((ByteArray) × ((ByteArray) × (Unit)))) (y3 : Int) (y4 : Int)
  | p26 (y1 : List ((ByteArray) × ((ByteArray) × (Unit)))) (y2 : List ((ByteArray) × ((ByteArray) × (Unit)))) (y3 : Int) (y4 : Int) (y5 : Bool)
def impl_GoodLabels.lb : impl_GoodLabels.Pt → Nat
  | .p0 _ => 0
  | .p15 _ _ _ _ => 15
  | .p26 _ _ _ _ _ => 26
def impl_GoodLabels.st : impl_GoodLabels.Pt → St
  | .p0 a0 => enter [.v (.sl false (.pair .str (.pair .str .unit))) a0] 0
  | .p15 y1 y2 y3 y4 => ⟨[(0, .im (.sl false (.pair .str (.pair .str .unit))) y1), (8, .im (.sl false (.pair .str (.pair .str .unit))) y2), (9, .im (.int .i64) y3), (10, .im (.int .i64) y4)], [], 0⟩
  | .p26 y1 y2 y3 y4 y5 => ⟨[(0, .im (.sl false (.pair .str (.pair .str .unit))) y1), (8, .im (.sl false (.pair .str (.pair .str .unit))) y2), (9, .im (.int .i64) y3), (10, .im (.int .i64) y4), (39, .im .bool y5)], [], 0⟩
def impl_GoodLabels.step (n : Nat) (K : impl_GoodLabels.Pt → Option (Tup [.bool])) : impl_GoodLabels.Pt → Option (Tup [.bool])
  | .p0 a0 => cond (decide ((20 : Int) < ((List.length a0) : Int))) (some false) (K (.p15 a0 a0 ((List.length a0) : Int) (0 : Int)))
  | .p15 y1 y2 y3 y4 => cond (decide (y4 < y3)) (cond (inB y4 (List.length y2)) ((impl_isName n (List.getD y2 (Int.toNat y4) default).1).bind fun r7 => cond (!r7) (K (.p26 y1 y2 y3 y4 true)) ((impl_isValue n (List.getD y2 (Int.toNat y4) default).2.1).bind fun r8 => cond (!r8) (K (.p26 y1 y2 y3 y4 true)) (cond (decide ((0 : Int) < y4)) (cond (inB (IntKind.wrap .i64 (y4 - (1 : Int))) (List.length y1)) (K (.p26 y1 y2 y3 y4 (!(slt (List.getD y1 (Int.toNat (IntKind.wrap .i64 (y4 - (1 : Int)))) default).1 (List.getD y2 (Int.toNat y4) default).1)))) (none)) (K (.p26 y1 y2 y3 y4 false))))) (none)) (some true)
  | .p26 y1 y2 y3 y4 y5 => cond y5 (some false) (K (.p15 y1 y2 y3 (IntKind.wrap .i64 (y4 + (1 : Int)))))
def impl_GoodLabels (n : Nat) (a0 : List ((ByteArray) × ((ByteArray) × (Unit)))) : Option (Tup [.bool]) := goRec impl_GoodLabels.step n (.p0 a0)
def impl_GoodLabels.spec : Ctr := ⟨53, [.v (.sl false (.pair .str (.pair .str .unit)))], [.bool], [], none, fun n x => impl_GoodLabels n x.1⟩
theorem impl_GoodLabels.seg_eq : SegEq ty gl impl_GoodLabels.F impl_GoodLabels.md impl_GoodLabels.T impl_GoodLabels.spec impl_GoodLabels.lb impl_GoodLabels.st impl_GoodLabels.step := by
  intro n goto y; cases y <;> kernel_rfl
theorem impl_GoodLabels.text : Text Go.Proofs.Try.prog impl_GoodLabels.F impl_GoodLabels.spec := textOf Go.Proofs.Try.f53
theorem impl_GoodLabels.ok : CtrOK Go.Proofs.Try.prog gl impl_GoodLabels.spec :=
  ctr_okS tabs impl_GoodLabels.text impl_GoodLabels.seg_eq (fun n x => ⟨.p0 x.1, rfl, rfl, rfl⟩) (consC impl_isName.ok (consC impl_isValue.ok (nilC)))

/-! loop.example/g00039/impl.valueOf -/
def impl_valueOf.T : List Ctr := []
def impl_valueOf.md : List (Nat × List Md) := []
noncomputable def impl_valueOf.F : Fun := ⟨(Go.Proofs.Try.f117.body).getD .skip, [.v (.sl false (.pair .str (.pair .str .unit))), .v .str], [(.tmp 4, .str)], [], 0, [(7, ⟨[1, 7, 8, 9], [(7, (.pair .str (.pair .str .unit)))], [], false⟩)]⟩
inductive impl_valueOf.Pt where
  | p0 (a0 : List ((ByteArray) × ((ByteArray) × (Unit)))) (a1 : ByteArray)
  | p7 (y1 : ByteArray) (y2 : List ((ByteArray) × ((ByteArray) × (Unit)))) (y3 : Int) (y4 : Int)
def impl_valueOf.lb : impl_valueOf.Pt → Nat
  | .p0 _ _ => 0
  | .p7 _ _ _ _ => 7
def impl_valueOf.st : impl_valueOf.Pt → St
  | .p0 a0 a1 => enter [.v (.sl false (.pair .str (.pair .str .unit))) a0, .v .str a1] 0
  | .p7 y1 y2 y3 y4 => ⟨[(1, .im .str y1), (7, .im (.sl false (.pair .str (.pair .str .unit))) y2), (8, .im (.int .i64) y3), (9, .im (.int .i64) y4)], [], 0⟩
def impl_valueOf.step (n : Nat) (K : impl_valueOf.Pt → Option (Tup [.str])) : impl_valueOf.Pt → Option (Tup [.str])
  | .p0 a0 a1 => K (.p7 a1 a0 ((List.length a0) : Int) (0 : Int))
  | .p7 y1 y2 y3 y4 => cond (decide (y4 < y3)) (cond (inB y4 (List.length y2)) (cond (seq (List.getD y2 (Int.toNat y4) default).1 y1) (some (List.getD y2 (Int.toNat y4) default).2.1) (K (.p7 y1 y2 y3 (IntKind.wrap .i64 (y4 + (1 : Int)))))) (none)) (some (⟨#[]⟩ : ByteArray))
def impl_valueOf (n : Nat) (a0 : List ((ByteArray) × ((ByteArray) × (Unit)))) (a1 : ByteArray) : Option (Tup [.str]) := goRec impl_valueOf.step n (.p0 a0 a1)
def impl_valueOf.spec : Ctr := ⟨117, [.v (.sl false (.pair .str (.pair .str .unit))), .v .str], [.str], [], none, fun n x => impl_valueOf n x.1 x.2.1⟩
theorem impl_valueOf.seg_eq : SegEq ty gl impl_valueOf.F impl_valueOf.md impl_valueOf.T impl_valueOf.spec impl_valueOf.lb impl_valueOf.st impl_valueOf.step := by
  intro n goto y; cases y <;> kernel_rfl
theorem impl_valueOf.text : Text Go.Proofs.Try.prog impl_valueOf.F impl_valueOf.spec := textOf Go.Proofs.Try.f117
theorem impl_valueOf.ok : CtrOK Go.Proofs.Try.prog gl impl_valueOf.spec :=
  ctr_okS tabs impl_valueOf.text impl_valueOf.seg_eq (fun n x => ⟨.p0 x.1 x.2.1, rfl, rfl, rfl⟩) (nilC)

/-! loop.example/g00039/impl.GoodSamples -/
def impl_GoodSamples.T : List Ctr := [impl_isTime.spec]
def impl_GoodSamples.md : List (Nat × List Md) := []
noncomputable def impl_GoodSamples.F : Fun := ⟨(Go.Proofs.Try.f183.body).getD .skip, [.v (.sl false (.pair (.int .i64) (.pair (.int .i64) .unit)))], [(.tmp 2, .bool)], [], 0, [(15, ⟨[0, 8, 9, 10], [(8, (.pair (.int .i64) (.pair (.int .i64) .unit)))], [], false⟩), (26, ⟨[0, 8, 9, 10, 33], [(8, (.pair (.int .i64) (.pair (.int .i64) .unit)))], [], false⟩)]⟩
inductive impl_GoodSamples.Pt where
  | p0 (a0 : List ((Int) × ((Int) × (Unit))))
  | p15 (y1 : List ((Int) × ((Int) × (Unit)))) (y2 : List ((Int) × ((Int) × (Unit)))) (y3 : Int) (y4 : Int)
  | p26 (y1 : List ((Int) × ((Int) × (Unit)))) (y2 : List ((Int) × ((Int) × (Unit)))) (y3 : Int) (y4 : Int) (y5 : Bool)
def impl_GoodSamples.lb : impl_GoodSamples.Pt → Nat
  | .p0 _ => 0
  | .p15 _ _ _ _ => 15
  | .p26 _ _ _ _ _ => 26
def impl_GoodSamples.st : impl_GoodSamples.Pt → St
  | .p0 a0 => enter [.v (.sl false (.pair (.int .i64) (.pair (.int .i64) .unit))) a0] 0
  | .p15 y1 y2 y3 y4 => ⟨[(0, .im (.sl false (.pair (.int .i64) (.pair (.int .i64) .unit))) y1), (8, .im (.sl false (.pair (.int .i64) (.pair (.int .i64) .unit))) y2), (9, .im (.int .i64) y3), (10, .im (.int .i64) y4)], [], 0⟩
  | .p26 y1 y2 y3 y4 y5 => ⟨[(0, .im (.sl false (.pair (.int .i64) (.pair (.int .i64) .unit))) y1), (8, .im (.sl false (.pair (.int .i64) (.pair (.int .i64) .unit))) y2), (9, .im (.int .i64) y3), (10, .im (.int .i64) y4), (33, .im .bool y5)], [], 0⟩
def impl_GoodSamples.step (n : Nat) (K : impl_GoodSamples.Pt → Option (Tup [.bool])) : impl_GoodSamples.Pt → Option (Tup [.bool])
  | .p0 a0 => cond (decide ((2000 : Int) < ((List.length a0) : Int))) (some false) (K (.p15 a0 a0 ((List.length a0) : Int) (0 : Int)))
  | .p15 y1 y2 y3 y4 => cond (decide (y4 < y3)) (cond (inB y4 (List.length y2)) ((impl_isTime n (List.getD y2 (Int.toNat y4) default).1).bind fun r7 => cond (!r7) (K (.p26 y1 y2 y3 y4 true)) (cond (decide ((0 : Int) < y4)) (cond (inB (IntKind.wrap .i64 (y4 - (1 : Int))) (List.length y1)) (K (.p26 y1 y2 y3 y4 (decide ((List.getD y2 (Int.toNat y4) default).1 ≤ (List.getD y1 (Int.toNat (IntKind.wrap .i64 (y4 - (1 : Int)))) default).1)))) (none)) (K (.p26 y1 y2 y3 y4 false)))) (none)) (some true)
  | .p26 y1 y2 y3 y4 y5 => cond y5 (some false) (K (.p15 y1 y2 y3 (IntKind.wrap .i64 (y4 + (1 : Int)))))
def impl_GoodSamples (n : Nat) (a0 : List ((Int) × ((Int) × (Unit)))) : Option (Tup [.bool]) := goRec impl_GoodSamples.step n (.p0 a0)
def impl_GoodSamples.spec : Ctr := ⟨183, [.v (.sl false (.pair (.int .i64) (.pair (.int .i64) .unit)))], [.bool], [], none, fun n x => impl_GoodSamples n x.1⟩
theorem impl_GoodSamples.seg_eq : SegEq ty gl impl_GoodSamples.F impl_GoodSamples.md impl_GoodSamples.T impl_GoodSamples.spec impl_GoodSamples.lb impl_GoodSamples.st impl_GoodSamples.step := by
  intro n goto y; cases y <;> kernel_rfl
theorem impl_GoodSamples.text : Text Go.Proofs.Try.prog impl_GoodSamples.F impl_GoodSamples.spec := textOf Go.Proofs.Try.f183
theorem impl_GoodSamples.ok : CtrOK Go.Proofs.Try.prog gl impl_GoodSamples.spec :=
  ctr_okS tabs impl_GoodSamples.text impl_GoodSamples.seg_eq (fun n x => ⟨.p0 x.1, rfl, rfl, rfl⟩) (consC impl_isTime.ok (nilC))

/-! cmp.isNaN[string] -/
def cmp_isNaN_string.T : List Ctr := []
def cmp_isNaN_string.md : List (Nat × List Md) := []
noncomputable def cmp_isNaN_string.F : Fun := ⟨(Go.Proofs.Try.f209.body).getD .skip, [.v .str], [(.tmp 2, .bool)], [], 0, []⟩
inductive cmp_isNaN_string.Pt where
  | p0 (a0 : ByteArray)
def cmp_isNaN_string.lb : cmp_isNaN_string.Pt → Nat
  | .p0 _ => 0
def cmp_isNaN_string.st : cmp_isNaN_string.Pt → St
  | .p0 a0 => enter [.v .str a0] 0
def cmp_isNaN_string.step (n : Nat) (K : cmp_isNaN_string.Pt → Option (Tup [.bool])) : cmp_isNaN_string.Pt → Option (Tup [.bool])
  | .p0 a0 => some (!(seq a0 a0))
def cmp_isNaN_string (n : Nat) (a0 : ByteArray) : Option (Tup [.bool]) := goRec cmp_isNaN_string.step n (.p0 a0)
def cmp_isNaN_string.spec : Ctr := ⟨209, [.v .str], [.bool], [], none, fun n x => cmp_isNaN_string n x.1⟩
theorem cmp_isNaN_string.seg_eq : SegEq ty gl cmp_isNaN_string.F cmp_isNaN_string.md cmp_isNaN_string.T cmp_isNaN_string.spec cmp_isNaN_string.lb cmp_isNaN_string.st cmp_isNaN_string.step := by
  intro n goto y; cases y <;> kernel_rfl
theorem cmp_isNaN_string.text : Text Go.Proofs.Try.prog cmp_isNaN_string.F cmp_isNaN_string.spec := textOf Go.Proofs.Try.f209
theorem cmp_isNaN_string.ok : CtrOK Go.Proofs.Try.prog gl cmp_isNaN_string.spec :=
  ctr_okS tabs cmp_isNaN_string.text cmp_isNaN_string.seg_eq (fun n x => ⟨.p0 x.1, rfl, rfl, rfl⟩) (nilC)

/-! cmp.Compare[string] -/
def cmp_Compare_string.T : List Ctr := [cmp_isNaN_string.spec]
def cmp_Compare_string.md : List (Nat × List Md) := []
noncomputable def cmp_Compare_string.F : Fun := ⟨(Go.Proofs.Try.f202.body).getD .skip, [.v .str, .v .str], [(.tmp 4, (.int .i64))], [], 0, []⟩
inductive cmp_Compare_string.Pt where
  | p0 (a0 : ByteArray) (a1 : ByteArray)
def cmp_Compare_string.lb : cmp_Compare_string.Pt → Nat
  | .p0 _ _ => 0
def cmp_Compare_string.st : cmp_Compare_string.Pt → St
  | .p0 a0 a1 => enter [.v .str a0, .v .str a1] 0
def cmp_Compare_string.step (n : Nat) (K : cmp_Compare_string.Pt → Option (Tup [(.int .i64)])) : cmp_Compare_string.Pt → Option (Tup [(.int .i64)])
  | .p0 a0 a1 => (cmp_isNaN_string n a0).bind fun r5 => (cmp_isNaN_string n a1).bind fun r6 => cond r5 (cond r6 (some (0 : Int)) (some (-(1 : Int)))) (cond r6 (some (1 : Int)) (cond (slt a0 a1) (some (-(1 : Int))) (cond (slt a1 a0) (some (1 : Int)) (some (0 : Int)))))
def cmp_Compare_string (n : Nat) (a0 : ByteArray) (a1 : ByteArray) : Option (Tup [(.int .i64)]) := goRec cmp_Compare_string.step n (.p0 a0 a1)
def cmp_Compare_string.spec : Ctr := ⟨202, [.v .str, .v .str], [(.int .i64)], [], none, fun n x => cmp_Compare_string n x.1 x.2.1⟩
theorem cmp_Compare_string.seg_eq : SegEq ty gl cmp_Compare_string.F cmp_Compare_string.md cmp_Compare_string.T cmp_Compare_string.spec cmp_Compare_string.lb cmp_Compare_string.st cmp_Compare_string.step := by
  intro n goto y; cases y <;> kernel_rfl
theorem cmp_Compare_string.text : Text Go.Proofs.Try.prog cmp_Compare_string.F cmp_Compare_string.spec := textOf Go.Proofs.Try.f202
theorem cmp_Compare_string.ok : CtrOK Go.Proofs.Try.prog gl cmp_Compare_string.spec :=
  ctr_okS tabs cmp_Compare_string.text cmp_Compare_string.seg_eq (fun n x => ⟨.p0 x.1 x.2.1, rfl, rfl, rfl⟩) (consC cmp_isNaN_string.ok (nilC))

/-! cmp.Or[int] -/
def cmp_Or_int.T : List Ctr := []
def cmp_Or_int.md : List (Nat × List Md) := []
noncomputable def cmp_Or_int.F : Fun := ⟨(Go.Proofs.Try.f201.body).getD .skip, [.v (.sl false (.int .i64))], [(.tmp 2, (.int .i64))], [], 0, [(9, ⟨[3, 6, 7, 8], [(6, (.int .i64))], [], false⟩)]⟩
inductive cmp_Or_int.Pt where
  | p0 (a0 : List (Int))
  | p9 (y1 : Int) (y2 : List (Int)) (y3 : Int) (y4 : Int)
def cmp_Or_int.lb : cmp_Or_int.Pt → Nat
  | .p0 _ => 0
  | .p9 _ _ _ _ => 9
def cmp_Or_int.st : cmp_Or_int.Pt → St
  | .p0 a0 => enter [.v (.sl false (.int .i64)) a0] 0
  | .p9 y1 y2 y3 y4 => ⟨[(3, .im (.int .i64) y1), (6, .im (.sl false (.int .i64)) y2), (7, .im (.int .i64) y3), (8, .im (.int .i64) y4)], [], 0⟩
def cmp_Or_int.step (n : Nat) (K : cmp_Or_int.Pt → Option (Tup [(.int .i64)])) : cmp_Or_int.Pt → Option (Tup [(.int .i64)])
  | .p0 a0 => K (.p9 (0 : Int) a0 ((List.length a0) : Int) (0 : Int))
  | .p9 y1 y2 y3 y4 => cond (decide (y4 < y3)) (cond (inB y4 (List.length y2)) (cond (!(decide ((List.getD y2 (Int.toNat y4) default) = y1))) (some (List.getD y2 (Int.toNat y4) default)) (K (.p9 y1 y2 y3 (IntKind.wrap .i64 (y4 + (1 : Int)))))) (none)) (some y1)
def cmp_Or_int (n : Nat) (a0 : List (Int)) : Option (Tup [(.int .i64)]) := goRec cmp_Or_int.step n (.p0 a0)
def cmp_Or_int.spec : Ctr := ⟨201, [.v (.sl false (.int .i64))], [(.int .i64)], [], none, fun n x => cmp_Or_int n x.1⟩
theorem cmp_Or_int.seg_eq : SegEq ty gl cmp_Or_int.F cmp_Or_int.md cmp_Or_int.T cmp_Or_int.spec cmp_Or_int.lb cmp_Or_int.st cmp_Or_int.step := by
  intro n goto y; cases y <;> kernel_rfl
theorem cmp_Or_int.text : Text Go.Proofs.Try.prog cmp_Or_int.F cmp_Or_int.spec := textOf Go.Proofs.Try.f201
theorem cmp_Or_int.ok : CtrOK Go.Proofs.Try.prog gl cmp_Or_int.spec :=
  ctr_okS tabs cmp_Or_int.text cmp_Or_int.seg_eq (fun n x => ⟨.p0 x.1, rfl, rfl, rfl⟩) (nilC)

/-! cmp.isNaN[int] -/
def cmp_isNaN_int.T : List Ctr := []
def cmp_isNaN_int.md : List (Nat × List Md) := []
noncomputable def cmp_isNaN_int.F : Fun := ⟨(Go.Proofs.Try.f204.body).getD .skip, [.v (.int .i64)], [(.tmp 2, .bool)], [], 0, []⟩
inductive cmp_isNaN_int.Pt where
  | p0 (a0 : Int)
def cmp_isNaN_int.lb : cmp_isNaN_int.Pt → Nat
  | .p0 _ => 0
def cmp_isNaN_int.st : cmp_isNaN_int.Pt → St
  | .p0 a0 => enter [.v (.int .i64) a0] 0
def cmp_isNaN_int.step (n : Nat) (K : cmp_isNaN_int.Pt → Option (Tup [.bool])) : cmp_isNaN_int.Pt → Option (Tup [.bool])
  | .p0 a0 => some (!(decide (a0 = a0)))
def cmp_isNaN_int (n : Nat) (a0 : Int) : Option (Tup [.bool]) := goRec cmp_isNaN_int.step n (.p0 a0)
def cmp_isNaN_int.spec : Ctr := ⟨204, [.v (.int .i64)], [.bool], [], none, fun n x => cmp_isNaN_int n x.1⟩
theorem cmp_isNaN_int.seg_eq : SegEq ty gl cmp_isNaN_int.F cmp_isNaN_int.md cmp_isNaN_int.T cmp_isNaN_int.spec cmp_isNaN_int.lb cmp_isNaN_int.st cmp_isNaN_int.step := by
  intro n goto y; cases y <;> kernel_rfl
theorem cmp_isNaN_int.text : Text Go.Proofs.Try.prog cmp_isNaN_int.F cmp_isNaN_int.spec := textOf Go.Proofs.Try.f204
theorem cmp_isNaN_int.ok : CtrOK Go.Proofs.Try.prog gl cmp_isNaN_int.spec :=
  ctr_okS tabs cmp_isNaN_int.text cmp_isNaN_int.seg_eq (fun n x => ⟨.p0 x.1, rfl, rfl, rfl⟩) (nilC)

/-! cmp.Compare[int] -/
def cmp_Compare_int.T : List Ctr := [cmp_isNaN_int.spec]
def cmp_Compare_int.md : List (Nat × List Md) := []
noncomputable def cmp_Compare_int.F : Fun := ⟨(Go.Proofs.Try.f191.body).getD .skip, [.v (.int .i64), .v (.int .i64)], [(.tmp 4, (.int .i64))], [], 0, []⟩
inductive cmp_Compare_int.Pt where
  | p0 (a0 : Int) (a1 : Int)
def cmp_Compare_int.lb : cmp_Compare_int.Pt → Nat
  | .p0 _ _ => 0
def cmp_Compare_int.st : cmp_Compare_int.Pt → St
  | .p0 a0 a1 => enter [.v (.int .i64) a0, .v (.int .i64) a1] 0
def cmp_Compare_int.step (n : Nat) (K : cmp_Compare_int.Pt → Option (Tup [(.int .i64)])) : cmp_Compare_int.Pt → Option (Tup [(.int .i64)])
  | .p0 a0 a1 => (cmp_isNaN_int n a0).bind fun r5 => (cmp_isNaN_int n a1).bind fun r6 => cond r5 (cond r6 (some (0 : Int)) (some (-(1 : Int)))) (cond r6 (some (1 : Int)) (cond (decide (a0 < a1)) (some (-(1 : Int))) (cond (decide (a1 < a0)) (some (1 : Int)) (some (0 : Int)))))
def cmp_Compare_int (n : Nat) (a0 : Int) (a1 : Int) : Option (Tup [(.int .i64)]) := goRec cmp_Compare_int.step n (.p0 a0 a1)
def cmp_Compare_int.spec : Ctr := ⟨191, [.v (.int .i64), .v (.int .i64)], [(.int .i64)], [], none, fun n x => cmp_Compare_int n x.1 x.2.1⟩
theorem cmp_Compare_int.seg_eq : SegEq ty gl cmp_Compare_int.F cmp_Compare_int.md cmp_Compare_int.T cmp_Compare_int.spec cmp_Compare_int.lb cmp_Compare_int.st cmp_Compare_int.step := by
  intro n goto y; cases y <;> kernel_rfl
theorem cmp_Compare_int.text : Text Go.Proofs.Try.prog cmp_Compare_int.F cmp_Compare_int.spec := textOf Go.Proofs.Try.f191
theorem cmp_Compare_int.ok : CtrOK Go.Proofs.Try.prog gl cmp_Compare_int.spec :=
  ctr_okS tabs cmp_Compare_int.text cmp_Compare_int.seg_eq (fun n x => ⟨.p0 x.1 x.2.1, rfl, rfl, rfl⟩) (consC cmp_isNaN_int.ok (nilC))

/-! loop.example/g00039/impl.compare -/
def impl_compare.T : List Ctr := [cmp_Compare_string.spec, cmp_Or_int.spec, cmp_Compare_int.spec]
def impl_compare.md : List (Nat × List Md) := []
noncomputable def impl_compare.F : Fun := ⟨(Go.Proofs.Try.f184.body).getD .skip, [.v (.sl false (.pair .str (.pair .str .unit))), .v (.sl false (.pair .str (.pair .str .unit)))], [(.tmp 4, (.int .i64))], [], 0, [(7, ⟨[0, 1, 11, 12], [], [], false⟩)]⟩
inductive impl_compare.Pt where
  | p0 (a0 : List ((ByteArray) × ((ByteArray) × (Unit)))) (a1 : List ((ByteArray) × ((ByteArray) × (Unit))))
  | p7 (y1 : List ((ByteArray) × ((ByteArray) × (Unit)))) (y2 : List ((ByteArray) × ((ByteArray) × (Unit)))) (y3 : Int) (y4 : Int)
def impl_compare.lb : impl_compare.Pt → Nat
  | .p0 _ _ => 0
  | .p7 _ _ _ _ => 7
def impl_compare.st : impl_compare.Pt → St
  | .p0 a0 a1 => enter [.v (.sl false (.pair .str (.pair .str .unit))) a0, .v (.sl false (.pair .str (.pair .str .unit))) a1] 0
  | .p7 y1 y2 y3 y4 => ⟨[(0, .im (.sl false (.pair .str (.pair .str .unit))) y1), (1, .im (.sl false (.pair .str (.pair .str .unit))) y2), (11, .im (.int .i64) y3), (12, .im (.int .i64) y4)], [], 0⟩
def impl_compare.step (n : Nat) (K : impl_compare.Pt → Option (Tup [(.int .i64)])) : impl_compare.Pt → Option (Tup [(.int .i64)])
  | .p0 a0 a1 => K (.p7 a0 a1 (min ((List.length a0) : Int) ((List.length a1) : Int)) (0 : Int))
  | .p7 y1 y2 y3 y4 => cond (decide (y4 < y3)) (cond (inB y4 (List.length y1)) (cond (inB y4 (List.length y2)) ((cmp_Compare_string n (List.getD y1 (Int.toNat y4) default).1 (List.getD y2 (Int.toNat y4) default).1).bind fun (r7 : Int) => cond (inB y4 (List.length y1)) (cond (inB y4 (List.length y2)) ((cmp_Compare_string n (List.getD y1 (Int.toNat y4) default).2.1 (List.getD y2 (Int.toNat y4) default).2.1).bind fun (r8 : Int) => (cmp_Or_int n [r7, r8]).bind fun (r9 : Int) => cond (!(decide (r9 = (0 : Int)))) (some r9) (K (.p7 y1 y2 y3 (IntKind.wrap .i64 (y4 + (1 : Int)))))) (none)) (none)) (none)) (none)) ((cmp_Compare_int n ((List.length y1) : Int) ((List.length y2) : Int)).bind fun (r7 : Int) => some r7)
def impl_compare (n : Nat) (a0 : List ((ByteArray) × ((ByteArray) × (Unit)))) (a1 : List ((ByteArray) × ((ByteArray) × (Unit)))) : Option (Tup [(.int .i64)]) := goRec impl_compare.step n (.p0 a0 a1)
def impl_compare.spec : Ctr := ⟨184, [.v (.sl false (.pair .str (.pair .str .unit))), .v (.sl false (.pair .str (.pair .str .unit)))], [(.int .i64)], [], none, fun n x => impl_compare n x.1 x.2.1⟩
theorem impl_compare.seg_eq : SegEq ty gl impl_compare.F impl_compare.md impl_compare.T impl_compare.spec impl_compare.lb impl_compare.st impl_compare.step := by
  intro n goto y; cases y <;> kernel_rfl
theorem impl_compare.text : Text Go.Proofs.Try.prog impl_compare.F impl_compare.spec := textOf Go.Proofs.Try.f184
theorem impl_compare.ok : CtrOK Go.Proofs.Try.prog gl impl_compare.spec :=
  ctr_okS tabs impl_compare.text impl_compare.seg_eq (fun n x => ⟨.p0 x.1 x.2.1, rfl, rfl, rfl⟩) (consC cmp_Compare_string.ok (consC cmp_Or_int.ok (consC cmp_Compare_int.ok (nilC))))

/-! loop.example/g00039/impl.GoodSeries -/
def impl_GoodSeries.T : List Ctr := [impl_GoodLabels.spec, impl_valueOf.spec, impl_GoodSamples.spec, impl_compare.spec]
def impl_GoodSeries.md : List (Nat × List Md) := []
noncomputable def impl_GoodSeries.F : Fun := ⟨(Go.Proofs.Try.f138.body).getD .skip, [.v (.sl false (.pair (.sl false (.pair .str (.pair .str .unit))) (.pair (.sl false (.pair (.int .i64) (.pair (.int .i64) .unit))) .unit)))], [(.tmp 2, .bool)], [], 0, [(15, ⟨[0, 8, 9, 10], [(8, (.pair (.sl false (.pair .str (.pair .str .unit))) (.pair (.sl false (.pair (.int .i64) (.pair (.int .i64) .unit))) .unit)))], [], false⟩), (26, ⟨[0, 8, 9, 10, 52], [(8, (.pair (.sl false (.pair .str (.pair .str .unit))) (.pair (.sl false (.pair (.int .i64) (.pair (.int .i64) .unit))) .unit)))], [], false⟩)]⟩
inductive impl_GoodSeries.Pt where
  | p0 (a0 : List ((List ((ByteArray) × ((ByteArray) × (Unit)))) × ((List ((Int) × ((Int) × (Unit)))) × (Unit))))
  | p15 (y1 : List ((List ((ByteArray) × ((ByteArray) × (Unit)))) × ((List ((Int) × ((Int) × (Unit)))) × (Unit)))) (y2 : List ((List ((ByteArray) × ((ByteArray) × (Unit)))) × ((List ((Int) × ((Int) × (Unit)))) × (Unit)))) (y3 : Int) (y4 : Int)
  | p26 (y1 : List ((List ((ByteArray) × ((ByteArray) × (Unit)))) × ((List ((Int) × ((Int) × (Unit)))) × (Unit)))) (y2 : List ((List ((ByteArray) × ((ByteArray) × (Unit)))) × ((List ((Int) × ((Int) × (Unit)))) × (Unit)))) (y3 : Int) (y4 : Int) (y5 : Bool)
def impl_GoodSeries.lb : impl_GoodSeries.Pt → Nat
  | .p0 _ => 0
  | .p15 _ _ _ _ => 15
  | .p26 _ _ _ _ _ => 26
def impl_GoodSeries.st : impl_GoodSeries.Pt → St
  | .p0 a0 => enter [.v (.sl false (.pair (.sl false (.pair .str (.pair .str .unit))) (.pair (.sl false (.pair (.int .i64) (.pair (.int .i64) .unit))) .unit))) a0] 0
  | .p15 y1 y2 y3 y4 => ⟨[(0, .im (.sl false (.pair (.sl false (.pair .str (.pair .str .unit))) (.pair (.sl false (.pair (.int .i64) (.pair (.int .i64) .unit))) .unit))) y1), (8, .im (.sl false (.pair (.sl false (.pair .str (.pair .str .unit))) (.pair (.sl false (.pair (.int .i64) (.pair (.int .i64) .unit))) .unit))) y2), (9, .im (.int .i64) y3), (10, .im (.int .i64) y4)], [], 0⟩
  | .p26 y1 y2 y3 y4 y5 => ⟨[(0, .im (.sl false (.pair (.sl false (.pair .str (.pair .str .unit))) (.pair (.sl false (.pair (.int .i64) (.pair (.int .i64) .unit))) .unit))) y1), (8, .im (.sl false (.pair (.sl false (.pair .str (.pair .str .unit))) (.pair (.sl false (.pair (.int .i64) (.pair (.int .i64) .unit))) .unit))) y2), (9, .im (.int .i64) y3), (10, .im (.int .i64) y4), (52, .im .bool y5)], [], 0⟩
def impl_GoodSeries.step (n : Nat) (K : impl_GoodSeries.Pt → Option (Tup [.bool])) : impl_GoodSeries.Pt → Option (Tup [.bool])
  | .p0 a0 => cond (decide ((200 : Int) < ((List.length a0) : Int))) (some false) (K (.p15 a0 a0 ((List.length a0) : Int) (0 : Int)))
  | .p15 y1 y2 y3 y4 => cond (decide (y4 < y3)) (cond (inB y4 (List.length y2)) ((impl_GoodLabels n (List.getD y2 (Int.toNat y4) default).1).bind fun r7 => cond (!r7) (K (.p26 y1 y2 y3 y4 true)) ((impl_valueOf n (List.getD y2 (Int.toNat y4) default).1 (⟨#[95, 110, 97, 109, 101]⟩ : ByteArray)).bind fun r8 => cond (seq r8 (⟨#[]⟩ : ByteArray)) (K (.p26 y1 y2 y3 y4 true)) (cond (decide (((List.length (List.getD y2 (Int.toNat y4) default).2.1) : Int) = (0 : Int))) (K (.p26 y1 y2 y3 y4 true)) ((impl_GoodSamples n (List.getD y2 (Int.toNat y4) default).2.1).bind fun r9 => cond (!r9) (K (.p26 y1 y2 y3 y4 true)) (cond (decide ((0 : Int) < y4)) (cond (inB (IntKind.wrap .i64 (y4 - (1 : Int))) (List.length y1)) ((impl_compare n (List.getD y1 (Int.toNat (IntKind.wrap .i64 (y4 - (1 : Int)))) default).1 (List.getD y2 (Int.toNat y4) default).1).bind fun (r10 : Int) => K (.p26 y1 y2 y3 y4 (decide ((0 : Int) ≤ r10)))) (none)) (K (.p26 y1 y2 y3 y4 false))))))) (none)) (some true)
  | .p26 y1 y2 y3 y4 y5 => cond y5 (some false) (K (.p15 y1 y2 y3 (IntKind.wrap .i64 (y4 + (1 : Int)))))
def impl_GoodSeries (n : Nat) (a0 : List ((List ((ByteArray) × ((ByteArray) × (Unit)))) × ((List ((Int) × ((Int) × (Unit)))) × (Unit)))) : Option (Tup [.bool]) := goRec impl_GoodSeries.step n (.p0 a0)
def impl_GoodSeries.spec : Ctr := ⟨138, [.v (.sl false (.pair (.sl false (.pair .str (.pair .str .unit))) (.pair (.sl false (.pair (.int .i64) (.pair (.int .i64) .unit))) .unit)))], [.bool], [], none, fun n x => impl_GoodSeries n x.1⟩
theorem impl_GoodSeries.seg_eq : SegEq ty gl impl_GoodSeries.F impl_GoodSeries.md impl_GoodSeries.T impl_GoodSeries.spec impl_GoodSeries.lb impl_GoodSeries.st impl_GoodSeries.step := by
  intro n goto y; cases y <;> kernel_rfl
theorem impl_GoodSeries.text : Text Go.Proofs.Try.prog impl_GoodSeries.F impl_GoodSeries.spec := textOf Go.Proofs.Try.f138
theorem impl_GoodSeries.ok : CtrOK Go.Proofs.Try.prog gl impl_GoodSeries.spec :=
  ctr_okS tabs impl_GoodSeries.text impl_GoodSeries.seg_eq (fun n x => ⟨.p0 x.1, rfl, rfl, rfl⟩) (consC impl_GoodLabels.ok (consC impl_valueOf.ok (consC impl_GoodSamples.ok (consC impl_compare.ok (nilC)))))

/-! loop.example/g00039/impl.GoodHead -/
def impl_GoodHead.T : List Ctr := [impl_isTime.spec, impl_goodWindow.spec, impl_GoodSeries.spec]
def impl_GoodHead.md : List (Nat × List Md) := []
noncomputable def impl_GoodHead.F : Fun := ⟨(Go.Proofs.Try.f85.body).getD .skip, [.v (.pair (.int .i64) (.pair (.int .i64) (.pair (.int .i64) (.pair (.sl false (.pair (.sl false (.pair .str (.pair .str .unit))) (.pair (.sl false (.pair (.int .i64) (.pair (.int .i64) .unit))) .unit))) .unit))))], [(.tmp 2, .bool)], [], 0, [(4, ⟨[1, 35], [], [(1, 3, (.pair (.sl false (.pair .str (.pair .str .unit))) (.pair (.sl false (.pair (.int .i64) (.pair (.int .i64) .unit))) .unit)))], false⟩), (15, ⟨[1, 37, 38, 39], [(37, (.pair (.sl false (.pair .str (.pair .str .unit))) (.pair (.sl false (.pair (.int .i64) (.pair (.int .i64) .unit))) .unit)))], [(1, 3, (.pair (.sl false (.pair .str (.pair .str .unit))) (.pair (.sl false (.pair (.int .i64) (.pair (.int .i64) .unit))) .unit)))], false⟩)]⟩
inductive impl_GoodHead.Pt where
  | p0 (a0 : (Int) × ((Int) × ((Int) × ((List ((List ((ByteArray) × ((ByteArray) × (Unit)))) × ((List ((Int) × ((Int) × (Unit)))) × (Unit)))) × (Unit)))))
  | p4 (y1 : Bool) (y2 : Int) (y3 : Int) (y4 : Int) (y5 : List ((List ((ByteArray) × ((ByteArray) × (Unit)))) × ((List ((Int) × ((Int) × (Unit)))) × (Unit))))
  | p15 (y1 : List ((List ((ByteArray) × ((ByteArray) × (Unit)))) × ((List ((Int) × ((Int) × (Unit)))) × (Unit)))) (y2 : Int) (y3 : Int) (y4 : Int) (y5 : Int) (y6 : Int) (y7 : List ((List ((ByteArray) × ((ByteArray) × (Unit)))) × ((List ((Int) × ((Int) × (Unit)))) × (Unit))))
def impl_GoodHead.lb : impl_GoodHead.Pt → Nat
  | .p0 _ => 0
  | .p4 _ _ _ _ _ => 4
  | .p15 _ _ _ _ _ _ _ => 15
def impl_GoodHead.st : impl_GoodHead.Pt → St
  | .p0 a0 => enter [.v (.pair (.int .i64) (.pair (.int .i64) (.pair (.int .i64) (.pair (.sl false (.pair (.sl false (.pair .str (.pair .str .unit))) (.pair (.sl false (.pair (.int .i64) (.pair (.int .i64) .unit))) .unit))) .unit)))) a0] 0
  | .p4 y1 y2 y3 y4 y5 => ⟨[(1, .po 0 0), (35, .im .bool y1)], [(0, .obj [.im (.int .i64) y2, .im (.int .i64) y3, .im (.int .i64) y4, .im (.sl false (.pair (.sl false (.pair .str (.pair .str .unit))) (.pair (.sl false (.pair (.int .i64) (.pair (.int .i64) .unit))) .unit))) y5])], 1⟩
  | .p15 y1 y2 y3 y4 y5 y6 y7 => ⟨[(1, .po 0 0), (37, .im (.sl false (.pair (.sl false (.pair .str (.pair .str .unit))) (.pair (.sl false (.pair (.int .i64) (.pair (.int .i64) .unit))) .unit))) y1), (38, .im (.int .i64) y2), (39, .im (.int .i64) y3)], [(0, .obj [.im (.int .i64) y4, .im (.int .i64) y5, .im (.int .i64) y6, .im (.sl false (.pair (.sl false (.pair .str (.pair .str .unit))) (.pair (.sl false (.pair (.int .i64) (.pair (.int .i64) .unit))) .unit))) y7])], 1⟩
def impl_GoodHead.step (n : Nat) (K : impl_GoodHead.Pt → Option (Tup [.bool])) : impl_GoodHead.Pt → Option (Tup [.bool])
  | .p0 a0 => (impl_goodWindow n a0.1 a0.2.1).bind fun r4 => cond (!r4) (K (.p4 true a0.1 a0.2.1 a0.2.2.1 a0.2.2.2.1)) ((impl_GoodSeries n a0.2.2.2.1).bind fun r5 => cond (!r5) (K (.p4 true a0.1 a0.2.1 a0.2.2.1 a0.2.2.2.1)) (cond (decide (a0.2.1 < ((List.length a0.2.2.2.1) : Int))) (K (.p4 true a0.1 a0.2.1 a0.2.2.1 a0.2.2.2.1)) (cond (!(decide (a0.2.2.1 = (-(1 : Int))))) ((impl_isTime n a0.2.2.1).bind fun r6 => K (.p4 (!r6) a0.1 a0.2.1 a0.2.2.1 a0.2.2.2.1)) (K (.p4 false a0.1 a0.2.1 a0.2.2.1 a0.2.2.2.1)))))
  | .p4 y1 y2 y3 y4 y5 => cond y1 (some false) (K (.p15 y5 ((List.length y5) : Int) (0 : Int) y2 y3 y4 y5))
  | .p15 y1 y2 y3 y4 y5 y6 y7 => cond (decide (y3 < y2)) (cond (inB y3 (List.length y1)) (cond (inB (IntKind.wrap .i64 (((List.length (List.getD y1 (Int.toNat y3) default).2.1) : Int) - (1 : Int))) (List.length (List.getD y1 (Int.toNat y3) default).2.1)) (cond (decide (y6 < (List.getD (List.getD y1 (Int.toNat y3) default).2.1 (Int.toNat (IntKind.wrap .i64 (((List.length (List.getD y1 (Int.toNat y3) default).2.1) : Int) - (1 : Int)))) default).1)) (some false) (K (.p15 y1 y2 (IntKind.wrap .i64 (y3 + (1 : Int))) y4 y5 y6 y7))) (none)) (none)) (some true)
def impl_GoodHead (n : Nat) (a0 : (Int) × ((Int) × ((Int) × ((List ((List ((ByteArray) × ((ByteArray) × (Unit)))) × ((List ((Int) × ((Int) × (Unit)))) × (Unit)))) × (Unit))))) : Option (Tup [.bool]) := goRec impl_GoodHead.step n (.p0 a0)
def impl_GoodHead.spec : Ctr := ⟨85, [.v (.pair (.int .i64) (.pair (.int .i64) (.pair (.int .i64) (.pair (.sl false (.pair (.sl false (.pair .str (.pair .str .unit))) (.pair (.sl false (.pair (.int .i64) (.pair (.int .i64) .unit))) .unit))) .unit))))], [.bool], [], none, fun n x => impl_GoodHead n x.1⟩
theorem impl_GoodHead.seg_eq : SegEq ty gl impl_GoodHead.F impl_GoodHead.md impl_GoodHead.T impl_GoodHead.spec impl_GoodHead.lb impl_GoodHead.st impl_GoodHead.step := by
  intro n goto y; cases y <;> kernel_rfl
theorem impl_GoodHead.text : Text Go.Proofs.Try.prog impl_GoodHead.F impl_GoodHead.spec := textOf Go.Proofs.Try.f85
theorem impl_GoodHead.ok : CtrOK Go.Proofs.Try.prog gl impl_GoodHead.spec :=
  ctr_okS tabs impl_GoodHead.text impl_GoodHead.seg_eq (fun n x => ⟨.p0 x.1, rfl, rfl, rfl⟩) (consC impl_isTime.ok (consC impl_goodWindow.ok (consC impl_GoodSeries.ok (nilC))))

/-! slices.Clone[[]loop.example/g00039/impl.Label,loop.example/g00039/impl.Label] -/
def slices_Clone_Label.T : List Ctr := []
def slices_Clone_Label.md : List (Nat × List Md) := []
noncomputable def slices_Clone_Label.F : Fun := ⟨(Go.Proofs.Try.f139.body).getD .skip, [.v (.sl false (.pair .str (.pair .str .unit)))], [(.tmp 2, (.sl false (.pair .str (.pair .str .unit))))], [], 0, []⟩
inductive slices_Clone_Label.Pt where
  | p0 (a0 : List ((ByteArray) × ((ByteArray) × (Unit))))
def slices_Clone_Label.lb : slices_Clone_Label.Pt → Nat
  | .p0 _ => 0
def slices_Clone_Label.st : slices_Clone_Label.Pt → St
  | .p0 a0 => enter [.v (.sl false (.pair .str (.pair .str .unit))) a0] 0
def slices_Clone_Label.step (n : Nat) (K : slices_Clone_Label.Pt → Option (Tup [(.sl false (.pair .str (.pair .str .unit)))])) : slices_Clone_Label.Pt → Option (Tup [(.sl false (.pair .str (.pair .str .unit)))])
  | .p0 a0 => cond (List.isEmpty a0) (none) (cond (room ((List.length ([] : List ((ByteArray) × ((ByteArray) × (Unit))))) + (List.length a0))) (some (([] : List ((ByteArray) × ((ByteArray) × (Unit)))) ++ a0)) (none))
def slices_Clone_Label (n : Nat) (a0 : List ((ByteArray) × ((ByteArray) × (Unit)))) : Option (Tup [(.sl false (.pair .str (.pair .str .unit)))]) := goRec slices_Clone_Label.step n (.p0 a0)
def slices_Clone_Label.spec : Ctr := ⟨139, [.v (.sl false (.pair .str (.pair .str .unit)))], [(.sl false (.pair .str (.pair .str .unit)))], [], none, fun n x => slices_Clone_Label n x.1⟩
theorem slices_Clone_Label.seg_eq : SegEq ty gl slices_Clone_Label.F slices_Clone_Label.md slices_Clone_Label.T slices_Clone_Label.spec slices_Clone_Label.lb slices_Clone_Label.st slices_Clone_Label.step := by
  intro n goto y; cases y <;> kernel_rfl
theorem slices_Clone_Label.text : Text Go.Proofs.Try.prog slices_Clone_Label.F slices_Clone_Label.spec := textOf Go.Proofs.Try.f139
theorem slices_Clone_Label.ok : CtrOK Go.Proofs.Try.prog gl slices_Clone_Label.spec :=
  ctr_okS tabs slices_Clone_Label.text slices_Clone_Label.seg_eq (fun n x => ⟨.p0 x.1, rfl, rfl, rfl⟩) (nilC)

/-! slices.Clone[[]loop.example/g00039/impl.Sample,loop.example/g00039/impl.Sample] -/
def slices_Clone_Sample.T : List Ctr := []
def slices_Clone_Sample.md : List (Nat × List Md) := []
noncomputable def slices_Clone_Sample.F : Fun := ⟨(Go.Proofs.Try.f140.body).getD .skip, [.v (.sl false (.pair (.int .i64) (.pair (.int .i64) .unit)))], [(.tmp 2, (.sl false (.pair (.int .i64) (.pair (.int .i64) .unit))))], [], 0, []⟩
inductive slices_Clone_Sample.Pt where
  | p0 (a0 : List ((Int) × ((Int) × (Unit))))
def slices_Clone_Sample.lb : slices_Clone_Sample.Pt → Nat
  | .p0 _ => 0
def slices_Clone_Sample.st : slices_Clone_Sample.Pt → St
  | .p0 a0 => enter [.v (.sl false (.pair (.int .i64) (.pair (.int .i64) .unit))) a0] 0
def slices_Clone_Sample.step (n : Nat) (K : slices_Clone_Sample.Pt → Option (Tup [(.sl false (.pair (.int .i64) (.pair (.int .i64) .unit)))])) : slices_Clone_Sample.Pt → Option (Tup [(.sl false (.pair (.int .i64) (.pair (.int .i64) .unit)))])
  | .p0 a0 => cond (List.isEmpty a0) (none) (cond (room ((List.length ([] : List ((Int) × ((Int) × (Unit))))) + (List.length a0))) (some (([] : List ((Int) × ((Int) × (Unit)))) ++ a0)) (none))
def slices_Clone_Sample (n : Nat) (a0 : List ((Int) × ((Int) × (Unit)))) : Option (Tup [(.sl false (.pair (.int .i64) (.pair (.int .i64) .unit)))]) := goRec slices_Clone_Sample.step n (.p0 a0)
def slices_Clone_Sample.spec : Ctr := ⟨140, [.v (.sl false (.pair (.int .i64) (.pair (.int .i64) .unit)))], [(.sl false (.pair (.int .i64) (.pair (.int .i64) .unit)))], [], none, fun n x => slices_Clone_Sample n x.1⟩
theorem slices_Clone_Sample.seg_eq : SegEq ty gl slices_Clone_Sample.F slices_Clone_Sample.md slices_Clone_Sample.T slices_Clone_Sample.spec slices_Clone_Sample.lb slices_Clone_Sample.st slices_Clone_Sample.step := by
  intro n goto y; cases y <;> kernel_rfl
theorem slices_Clone_Sample.text : Text Go.Proofs.Try.prog slices_Clone_Sample.F slices_Clone_Sample.spec := textOf Go.Proofs.Try.f140
theorem slices_Clone_Sample.ok : CtrOK Go.Proofs.Try.prog gl slices_Clone_Sample.spec :=
  ctr_okS tabs slices_Clone_Sample.text slices_Clone_Sample.seg_eq (fun n x => ⟨.p0 x.1, rfl, rfl, rfl⟩) (nilC)

/-! loop.example/g00039/impl.ownSeries -/
def impl_ownSeries.T : List Ctr := [slices_Clone_Label.spec, slices_Clone_Sample.spec]
def impl_ownSeries.md : List (Nat × List Md) := []
noncomputable def impl_ownSeries.F : Fun := ⟨(Go.Proofs.Try.f86.body).getD .skip, [.v (.sl false (.pair (.sl false (.pair .str (.pair .str .unit))) (.pair (.sl false (.pair (.int .i64) (.pair (.int .i64) .unit))) .unit)))], [(.tmp 2, (.sl false (.pair (.sl false (.pair .str (.pair .str .unit))) (.pair (.sl false (.pair (.int .i64) (.pair (.int .i64) .unit))) .unit))))], [], 0, [(9, ⟨[3, 6, 7, 8], [(3, (.pair (.sl false (.pair .str (.pair .str .unit))) (.pair (.sl false (.pair (.int .i64) (.pair (.int .i64) .unit))) .unit))), (6, (.pair (.sl false (.pair .str (.pair .str .unit))) (.pair (.sl false (.pair (.int .i64) (.pair (.int .i64) .unit))) .unit)))], [], false⟩)]⟩
inductive impl_ownSeries.Pt where
  | p0 (a0 : List ((List ((ByteArray) × ((ByteArray) × (Unit)))) × ((List ((Int) × ((Int) × (Unit)))) × (Unit))))
  | p9 (y1 : List ((List ((ByteArray) × ((ByteArray) × (Unit)))) × ((List ((Int) × ((Int) × (Unit)))) × (Unit)))) (y2 : Int) (y3 : Int) (y4 : List ((List ((ByteArray) × ((ByteArray) × (Unit)))) × ((List ((Int) × ((Int) × (Unit)))) × (Unit))))
def impl_ownSeries.lb : impl_ownSeries.Pt → Nat
  | .p0 _ => 0
  | .p9 _ _ _ _ => 9
def impl_ownSeries.st : impl_ownSeries.Pt → St
  | .p0 a0 => enter [.v (.sl false (.pair (.sl false (.pair .str (.pair .str .unit))) (.pair (.sl false (.pair (.int .i64) (.pair (.int .i64) .unit))) .unit))) a0] 0
  | .p9 y1 y2 y3 y4 => ⟨[(3, .hs 0 [] none 0), (6, .im (.sl false (.pair (.sl false (.pair .str (.pair .str .unit))) (.pair (.sl false (.pair (.int .i64) (.pair (.int .i64) .unit))) .unit))) y1), (7, .im (.int .i64) y2), (8, .im (.int .i64) y3)], [(0, .arr true (.pair (.sl false (.pair .str (.pair .str .unit))) (.pair (.sl false (.pair (.int .i64) (.pair (.int .i64) .unit))) .unit)) y4 0)], 1⟩
def impl_ownSeries.step (n : Nat) (K : impl_ownSeries.Pt → Option (Tup [(.sl false (.pair (.sl false (.pair .str (.pair .str .unit))) (.pair (.sl false (.pair (.int .i64) (.pair (.int .i64) .unit))) .unit)))])) : impl_ownSeries.Pt → Option (Tup [(.sl false (.pair (.sl false (.pair .str (.pair .str .unit))) (.pair (.sl false (.pair (.int .i64) (.pair (.int .i64) .unit))) .unit)))])
  | .p0 a0 => K (.p9 a0 ((List.length a0) : Int) (0 : Int) ([] : List ((List ((ByteArray) × ((ByteArray) × (Unit)))) × ((List ((Int) × ((Int) × (Unit)))) × (Unit)))))
  | .p9 y1 y2 y3 y4 => cond (decide (y3 < y2)) (cond (inB y3 (List.length y1)) ((slices_Clone_Label n (List.getD y1 (Int.toNat y3) default).1).bind fun r7 => (slices_Clone_Sample n (List.getD y1 (Int.toNat y3) default).2.1).bind fun r8 => cond (room ((List.length y4) + (List.length [(r7, (r8, ()))]))) (K (.p9 y1 y2 (IntKind.wrap .i64 (y3 + (1 : Int))) (y4 ++ [(r7, (r8, ()))]))) (none)) (none)) (some y4)
def impl_ownSeries (n : Nat) (a0 : List ((List ((ByteArray) × ((ByteArray) × (Unit)))) × ((List ((Int) × ((Int) × (Unit)))) × (Unit)))) : Option (Tup [(.sl false (.pair (.sl false (.pair .str (.pair .str .unit))) (.pair (.sl false (.pair (.int .i64) (.pair (.int .i64) .unit))) .unit)))]) := goRec impl_ownSeries.step n (.p0 a0)
def impl_ownSeries.spec : Ctr := ⟨86, [.v (.sl false (.pair (.sl false (.pair .str (.pair .str .unit))) (.pair (.sl false (.pair (.int .i64) (.pair (.int .i64) .unit))) .unit)))], [(.sl false (.pair (.sl false (.pair .str (.pair .str .unit))) (.pair (.sl false (.pair (.int .i64) (.pair (.int .i64) .unit))) .unit)))], [], none, fun n x => impl_ownSeries n x.1⟩
theorem impl_ownSeries.seg_eq : SegEq ty gl impl_ownSeries.F impl_ownSeries.md impl_ownSeries.T impl_ownSeries.spec impl_ownSeries.lb impl_ownSeries.st impl_ownSeries.step := by
  intro n goto y; cases y <;> kernel_rfl
theorem impl_ownSeries.text : Text Go.Proofs.Try.prog impl_ownSeries.F impl_ownSeries.spec := textOf Go.Proofs.Try.f86
theorem impl_ownSeries.ok : CtrOK Go.Proofs.Try.prog gl impl_ownSeries.spec :=
  ctr_okS tabs impl_ownSeries.text impl_ownSeries.seg_eq (fun n x => ⟨.p0 x.1, rfl, rfl, rfl⟩) (consC slices_Clone_Label.ok (consC slices_Clone_Sample.ok (nilC)))

/-! loop.example/g00039/impl.findSeries$1 -/
def impl_findSeries_1.T : List Ctr := [impl_compare.spec]
def impl_findSeries_1.md : List (Nat × List Md) := []
noncomputable def impl_findSeries_1.F : Fun := ⟨(Go.Proofs.Try.f186.body).getD .skip, [.v (.pair (.sl false (.pair .str (.pair .str .unit))) (.pair (.sl false (.pair (.int .i64) (.pair (.int .i64) .unit))) .unit)), .v (.sl false (.pair .str (.pair .str .unit)))], [(.tmp 4, (.int .i64))], [], 0, []⟩
inductive impl_findSeries_1.Pt where
  | p0 (a0 : (List ((ByteArray) × ((ByteArray) × (Unit)))) × ((List ((Int) × ((Int) × (Unit)))) × (Unit))) (a1 : List ((ByteArray) × ((ByteArray) × (Unit))))
def impl_findSeries_1.lb : impl_findSeries_1.Pt → Nat
  | .p0 _ _ => 0
def impl_findSeries_1.st : impl_findSeries_1.Pt → St
  | .p0 a0 a1 => enter [.v (.pair (.sl false (.pair .str (.pair .str .unit))) (.pair (.sl false (.pair (.int .i64) (.pair (.int .i64) .unit))) .unit)) a0, .v (.sl false (.pair .str (.pair .str .unit))) a1] 0
def impl_findSeries_1.step (n : Nat) (K : impl_findSeries_1.Pt → Option (Tup [(.int .i64)])) : impl_findSeries_1.Pt → Option (Tup [(.int .i64)])
  | .p0 a0 a1 => (impl_compare n a0.1 a1).bind fun (r5 : Int) => some r5
def impl_findSeries_1 (n : Nat) (a0 : (List ((ByteArray) × ((ByteArray) × (Unit)))) × ((List ((Int) × ((Int) × (Unit)))) × (Unit))) (a1 : List ((ByteArray) × ((ByteArray) × (Unit)))) : Option (Tup [(.int .i64)]) := goRec impl_findSeries_1.step n (.p0 a0 a1)
def impl_findSeries_1.spec : Ctr := ⟨186, [.v (.pair (.sl false (.pair .str (.pair .str .unit))) (.pair (.sl false (.pair (.int .i64) (.pair (.int .i64) .unit))) .unit)), .v (.sl false (.pair .str (.pair .str .unit)))], [(.int .i64)], [], none, fun n x => impl_findSeries_1 n x.1 x.2.1⟩
theorem impl_findSeries_1.seg_eq : SegEq ty gl impl_findSeries_1.F impl_findSeries_1.md impl_findSeries_1.T impl_findSeries_1.spec impl_findSeries_1.lb impl_findSeries_1.st impl_findSeries_1.step := by
  intro n goto y; cases y <;> kernel_rfl
theorem impl_findSeries_1.text : Text Go.Proofs.Try.prog impl_findSeries_1.F impl_findSeries_1.spec := textOf Go.Proofs.Try.f186
theorem impl_findSeries_1.ok : CtrOK Go.Proofs.Try.prog gl impl_findSeries_1.spec :=
  ctr_okS tabs impl_findSeries_1.text impl_findSeries_1.seg_eq (fun n x => ⟨.p0 x.1 x.2.1, rfl, rfl, rfl⟩) (consC impl_compare.ok (nilC))

/-! slices.BinarySearchFunc[[]loop.example/g00039/impl.Series,loop.example/g00039/impl.Series,[]loop.example/g00039/impl.Label] -/
def slices_BinarySearchFunc_Label_impl_findSeries_1.T : List Ctr := [impl_findSeries_1.spec]
def slices_BinarySearchFunc_Label_impl_findSeries_1.md : List (Nat × List Md) := []
noncomputable def slices_BinarySearchFunc_Label_impl_findSeries_1.F : Fun := ⟨(Go.Proofs.Try.f185.body).getD .skip, [.v (.sl false (.pair (.sl false (.pair .str (.pair .str .unit))) (.pair (.sl false (.pair (.int .i64) (.pair (.int .i64) .unit))) .unit))), .v (.sl false (.pair .str (.pair .str .unit))), .fn 186 []], [(.tmp 6, (.int .i64)), (.tmp 7, .bool)], [], 0, [(9, ⟨[0, 1, 2, 8, 9, 10], [], [], false⟩)]⟩
inductive slices_BinarySearchFunc_Label_impl_findSeries_1.Pt where
  | p0 (a0 : List ((List ((ByteArray) × ((ByteArray) × (Unit)))) × ((List ((Int) × ((Int) × (Unit)))) × (Unit)))) (a1 : List ((ByteArray) × ((ByteArray) × (Unit))))
  | p9 (y1 : List ((List ((ByteArray) × ((ByteArray) × (Unit)))) × ((List ((Int) × ((Int) × (Unit)))) × (Unit)))) (y2 : List ((ByteArray) × ((ByteArray) × (Unit)))) (y3 : Int) (y4 : Int) (y5 : Int)
def slices_BinarySearchFunc_Label_impl_findSeries_1.lb : slices_BinarySearchFunc_Label_impl_findSeries_1.Pt → Nat
  | .p0 _ _ => 0
  | .p9 _ _ _ _ _ => 9
def slices_BinarySearchFunc_Label_impl_findSeries_1.st : slices_BinarySearchFunc_Label_impl_findSeries_1.Pt → St
  | .p0 a0 a1 => enter [.v (.sl false (.pair (.sl false (.pair .str (.pair .str .unit))) (.pair (.sl false (.pair (.int .i64) (.pair (.int .i64) .unit))) .unit))) a0, .v (.sl false (.pair .str (.pair .str .unit))) a1, .fn 186 []] 0
  | .p9 y1 y2 y3 y4 y5 => ⟨[(0, .im (.sl false (.pair (.sl false (.pair .str (.pair .str .unit))) (.pair (.sl false (.pair (.int .i64) (.pair (.int .i64) .unit))) .unit))) y1), (1, .im (.sl false (.pair .str (.pair .str .unit))) y2), (2, .fn 186 []), (8, .im (.int .i64) y3), (9, .im (.int .i64) y4), (10, .im (.int .i64) y5)], [], 0⟩
def slices_BinarySearchFunc_Label_impl_findSeries_1.step (n : Nat) (K : slices_BinarySearchFunc_Label_impl_findSeries_1.Pt → Option (Tup [(.int .i64), .bool])) : slices_BinarySearchFunc_Label_impl_findSeries_1.Pt → Option (Tup [(.int .i64), .bool])
  | .p0 a0 a1 => K (.p9 a0 a1 ((List.length a0) : Int) (0 : Int) ((List.length a0) : Int))
  | .p9 y1 y2 y3 y4 y5 => cond (decide (y4 < y5)) (cond (inB (IntKind.wrap .i64 (shr .u64 (IntKind.wrap .u64 (IntKind.wrap .i64 (y4 + y5))) (1 : Int))) (List.length y1)) ((impl_findSeries_1 n ((List.getD y1 (Int.toNat (IntKind.wrap .i64 (shr .u64 (IntKind.wrap .u64 (IntKind.wrap .i64 (y4 + y5))) (1 : Int)))) default).1, ((List.getD y1 (Int.toNat (IntKind.wrap .i64 (shr .u64 (IntKind.wrap .u64 (IntKind.wrap .i64 (y4 + y5))) (1 : Int)))) default).2.1, ())) y2).bind fun (r8 : Int) => cond (decide (r8 < (0 : Int))) (K (.p9 y1 y2 y3 (IntKind.wrap .i64 ((IntKind.wrap .i64 (shr .u64 (IntKind.wrap .u64 (IntKind.wrap .i64 (y4 + y5))) (1 : Int))) + (1 : Int))) y5)) (K (.p9 y1 y2 y3 y4 (IntKind.wrap .i64 (shr .u64 (IntKind.wrap .u64 (IntKind.wrap .i64 (y4 + y5))) (1 : Int)))))) (none)) (cond (decide (y4 < y3)) (cond (inB y4 (List.length y1)) ((impl_findSeries_1 n ((List.getD y1 (Int.toNat y4) default).1, ((List.getD y1 (Int.toNat y4) default).2.1, ())) y2).bind fun (r8 : Int) => some (y4, (decide (r8 = (0 : Int))))) (none)) (some (y4, false)))
def slices_BinarySearchFunc_Label_impl_findSeries_1 (n : Nat) (a0 : List ((List ((ByteArray) × ((ByteArray) × (Unit)))) × ((List ((Int) × ((Int) × (Unit)))) × (Unit)))) (a1 : List ((ByteArray) × ((ByteArray) × (Unit)))) : Option (Tup [(.int .i64), .bool]) := goRec slices_BinarySearchFunc_Label_impl_findSeries_1.step n (.p0 a0 a1)
def slices_BinarySearchFunc_Label_impl_findSeries_1.spec : Ctr := ⟨185, [.v (.sl false (.pair (.sl false (.pair .str (.pair .str .unit))) (.pair (.sl false (.pair (.int .i64) (.pair (.int .i64) .unit))) .unit))), .v (.sl false (.pair .str (.pair .str .unit))), .fn 186 []], [(.int .i64), .bool], [], none, fun n x => slices_BinarySearchFunc_Label_impl_findSeries_1 n x.1 x.2.1⟩
theorem slices_BinarySearchFunc_Label_impl_findSeries_1.seg_eq : SegEq ty gl slices_BinarySearchFunc_Label_impl_findSeries_1.F slices_BinarySearchFunc_Label_impl_findSeries_1.md slices_BinarySearchFunc_Label_impl_findSeries_1.T slices_BinarySearchFunc_Label_impl_findSeries_1.spec slices_BinarySearchFunc_Label_impl_findSeries_1.lb slices_BinarySearchFunc_Label_impl_findSeries_1.st slices_BinarySearchFunc_Label_impl_findSeries_1.step := by
  intro n goto y; cases y <;> kernel_rfl
theorem slices_BinarySearchFunc_Label_impl_findSeries_1.text : Text Go.Proofs.Try.prog slices_BinarySearchFunc_Label_impl_findSeries_1.F slices_BinarySearchFunc_Label_impl_findSeries_1.spec := textOf Go.Proofs.Try.f185
theorem slices_BinarySearchFunc_Label_impl_findSeries_1.ok : CtrOK Go.Proofs.Try.prog gl slices_BinarySearchFunc_Label_impl_findSeries_1.spec :=
  ctr_okS tabs slices_BinarySearchFunc_Label_impl_findSeries_1.text slices_BinarySearchFunc_Label_impl_findSeries_1.seg_eq (fun n x => ⟨.p0 x.1 x.2.1, rfl, rfl, rfl⟩) (consC impl_findSeries_1.ok (nilC))

/-! loop.example/g00039/impl.findSeries -/
def impl_findSeries.T : List Ctr := [impl_findSeries_1.spec, slices_BinarySearchFunc_Label_impl_findSeries_1.spec]
def impl_findSeries.md : List (Nat × List Md) := [(185, [.v, .v, .fn])]
noncomputable def impl_findSeries.F : Fun := ⟨(Go.Proofs.Try.f141.body).getD .skip, [.v (.sl false (.pair (.sl false (.pair .str (.pair .str .unit))) (.pair (.sl false (.pair (.int .i64) (.pair (.int .i64) .unit))) .unit))), .v (.sl false (.pair .str (.pair .str .unit)))], [(.tmp 4, (.int .i64)), (.tmp 5, .bool)], [], 0, []⟩
inductive impl_findSeries.Pt where
  | p0 (a0 : List ((List ((ByteArray) × ((ByteArray) × (Unit)))) × ((List ((Int) × ((Int) × (Unit)))) × (Unit)))) (a1 : List ((ByteArray) × ((ByteArray) × (Unit))))
def impl_findSeries.lb : impl_findSeries.Pt → Nat
  | .p0 _ _ => 0
def impl_findSeries.st : impl_findSeries.Pt → St
  | .p0 a0 a1 => enter [.v (.sl false (.pair (.sl false (.pair .str (.pair .str .unit))) (.pair (.sl false (.pair (.int .i64) (.pair (.int .i64) .unit))) .unit))) a0, .v (.sl false (.pair .str (.pair .str .unit))) a1] 0
def impl_findSeries.step (n : Nat) (K : impl_findSeries.Pt → Option (Tup [(.int .i64), .bool])) : impl_findSeries.Pt → Option (Tup [(.int .i64), .bool])
  | .p0 a0 a1 => (slices_BinarySearchFunc_Label_impl_findSeries_1 n a0 a1).bind fun r5 => some (r5.1, r5.2)
def impl_findSeries (n : Nat) (a0 : List ((List ((ByteArray) × ((ByteArray) × (Unit)))) × ((List ((Int) × ((Int) × (Unit)))) × (Unit)))) (a1 : List ((ByteArray) × ((ByteArray) × (Unit)))) : Option (Tup [(.int .i64), .bool]) := goRec impl_findSeries.step n (.p0 a0 a1)
def impl_findSeries.spec : Ctr := ⟨141, [.v (.sl false (.pair (.sl false (.pair .str (.pair .str .unit))) (.pair (.sl false (.pair (.int .i64) (.pair (.int .i64) .unit))) .unit))), .v (.sl false (.pair .str (.pair .str .unit)))], [(.int .i64), .bool], [], none, fun n x => impl_findSeries n x.1 x.2.1⟩
theorem impl_findSeries.seg_eq : SegEq ty gl impl_findSeries.F impl_findSeries.md impl_findSeries.T impl_findSeries.spec impl_findSeries.lb impl_findSeries.st impl_findSeries.step := by
  intro n goto y; cases y <;> kernel_rfl
theorem impl_findSeries.text : Text Go.Proofs.Try.prog impl_findSeries.F impl_findSeries.spec := textOf Go.Proofs.Try.f141
theorem impl_findSeries.ok : CtrOK Go.Proofs.Try.prog gl impl_findSeries.spec :=
  ctr_okS tabs impl_findSeries.text impl_findSeries.seg_eq (fun n x => ⟨.p0 x.1 x.2.1, rfl, rfl, rfl⟩) (consC impl_findSeries_1.ok (consC slices_BinarySearchFunc_Label_impl_findSeries_1.ok (nilC)))

/-! slices.Insert[[]loop.example/g00039/impl.Series,loop.example/g00039/impl.Series] -/
def slices_Insert_Series (n : Nat) (a0 : List (U.El ((.pair (.sl false (.pair .str (.pair .str .unit))) (.pair (.sl false (.pair (.int .i64) (.pair (.int .i64) .unit))) .unit))))) (a1 : Int) (a2 : List (U.El ((.pair (.sl false (.pair .str (.pair .str .unit))) (.pair (.sl false (.pair (.int .i64) (.pair (.int .i64) .unit))) .unit))))) : Option (List (U.El ((.pair (.sl false (.pair .str (.pair .str .unit))) (.pair (.sl false (.pair (.int .i64) (.pair (.int .i64) .unit))) .unit))))) := hold n (cond (decide (0 ≤ a1) && decide (a1 ≤ (a0.length : Int)) && decide (a0.length ≤ 1000000) && Nat.beq a2.length 1) (some (a0.take a1.toNat ++ a2 ++ a0.drop a1.toNat)) none)
def slices_Insert_Series.spec : Ctr := ⟨142, [.g (.sl false ((.pair (.sl false (.pair .str (.pair .str .unit))) (.pair (.sl false (.pair (.int .i64) (.pair (.int .i64) .unit))) .unit)))), .v (.int .i64), .g (.sl false ((.pair (.sl false (.pair .str (.pair .str .unit))) (.pair (.sl false (.pair (.int .i64) (.pair (.int .i64) .unit))) .unit))))], [.sl false ((.pair (.sl false (.pair .str (.pair .str .unit))) (.pair (.sl false (.pair (.int .i64) (.pair (.int .i64) .unit))) .unit)))], [], none, fun n x => slices_Insert_Series n x.1 x.2.1 x.2.2.1⟩
section
open Go.Proofs Go.RowKit Go.Lib
theorem insSeries.ty : TyOK Go.Proofs.Try.prog 60 (.sl false ((.pair (.sl false (.pair .str (.pair .str .unit))) (.pair (.sl false (.pair (.int .i64) (.pair (.int .i64) .unit))) .unit)))) := tyB_ok (by kernel_rfl)
theorem insSeries.el (w : World) : ∃ i z, Go.Proofs.Try.prog.info? 130 = some i ∧ i.size = 2 ∧ i.bytes ≤ 140000 ∧ i.zero = some z ∧ z.cells.size = 2 := by
  obtain ⟨d, hd, hsh⟩ := insSeries.ty.d
  obtain ⟨el, rfl, hel, _⟩ := hsh
  rw [Go.Proofs.Try.underlying60] at hd
  cases hd
  obtain ⟨i, z, h1, h2, h3, h4, h5⟩ := hel.i
  exact ⟨i, z, h1, h2, h3, h4, by have := Rep.length (zero_Rep (w := w) rfl h5); simpa [U.sz] using this⟩
set_option maxHeartbeats 4000000 in
set_option maxRecDepth 100000 in
theorem insSeries.endRoom (w : World) (g n cap vb vc : Nat) (cc : Array Value) (ct : TypeId) (fz : Nat × Nat) (X : List Value) (hh : w.heap[g]? = some (.cells cc ct fz)) (hX : X.length = 2) (hXc : ∀ j v, X[j]? = some v → w.cell? ((⟨vb, 0, none⟩ : Addr).add j) = some v) (h1 : ∀ v ∈ X, v.oneCell' = true)
    (hf : ∀ j, j < cc.size → ¬ (fz.1 ≤ j ∧ j < fz.2)) (hroom : n + 1 ≤ cap) (hcap : cap ≤ 9223372036854775807) (hcs : cc.size = cap * 2) :
    Calls Go.Proofs.Try.prog 142 #[.slice (some ⟨g, 0, none⟩) n cap, .int .i64 n, .slice (some ⟨vb, 0, none⟩) 1 vc] w fun e w' => e = .returned (.slice (some ⟨g, 0, none⟩) (n + 1) cap) ∧ w' = putB w g (.cells (splice cc.toList (n * 2) X).toArray ct fz) := by
  obtain ⟨i0, z0, hi0, hzs, hzb, hzz, hzl⟩ := insSeries.el w
  have hrun : ∀ ty, (Builtin.append_ #[60, 60] ty #[.slice (some ⟨g, 0, none⟩) n cap, .slice (some ⟨vb, 0, none⟩) 1 vc]).run Go.Proofs.Try.prog w = .ok (.slice (some ⟨g, 0, none⟩) (n + 1) cap) (putB w g (.cells (splice cc.toList (n * 2) X).toArray ct fz)) := fun ty => by
    have := run_append_in (P := Go.Proofs.Try.prog) (W := w) (ty := ty) (c := vc) (t := 60) Go.Proofs.Try.underlying60 hi0 (b := ⟨g, 0, none⟩) (n := n) (m := 1) (cap := cap) rfl rfl hh (by rw [hX, hzs]) hXc h1 hf hroom (by rw [hzs, hX, hcs]; omega)
    rw [hzs] at this
    exact this
  go_enter Go.Proofs.Try.func142, Go.Proofs.Try.ntmps142
  go_wp2_with (at_builtin; refine Lib.wpList_append_run _ rfl _ _ _ _ rfl _ _ rfl rfl _ _ (hrun _) ?_)
  go_ret
  exact ⟨rfl, rfl⟩
set_option maxHeartbeats 4000000 in
set_option maxRecDepth 100000 in
theorem insSeries.endGrow (w : World) (g n cap vb vc : Nat) (m X : List Value) (hm : m.length = n * 2) (hmc : ∀ j v, m[j]? = some v → w.cell? ((⟨g, 0, none⟩ : Addr).add j) = some v) (hX : X.length = 2) (hXc : ∀ j v, X[j]? = some v → w.cell? ((⟨vb, 0, none⟩ : Addr).add j) = some v)
    (hroom : cap < n + 1) (hnc : n ≤ cap) (hn : n ≤ 1000000) :
    Calls Go.Proofs.Try.prog 142 #[.slice (some ⟨g, 0, none⟩) n cap, .int .i64 n, .slice (some ⟨vb, 0, none⟩) 1 vc] w fun e w' => ∃ c q, e = .returned (.slice (some ⟨w.heap.size, 0, none⟩) (n + 1) c) ∧ w' = w.drew.alloc (.cells (m ++ X ++ q).toArray 130) ∧ n + 1 ≤ c ∧ c ≤ maxLen ∧ (m ++ X ++ q).length = c * 2 := by
  obtain ⟨i0, z0, hi0, hzs, hzb, hzz, hzl⟩ := insSeries.el w
  have hby : (n + 1) * i0.bytes ≤ 140737488355328 := Nat.le_trans (Nat.mul_le_mul_left _ hzb) (by omega)
  have hrun := fun ty => run_append_grow (P := Go.Proofs.Try.prog) w 60 ty 130 i0 z0 Go.Proofs.Try.underlying60 hi0 hzz ⟨g, 0, none⟩ n cap m (by rw [hm, hzs]) hmc ⟨vb, 0, none⟩ 1 vc X (by rw [hX, hzs]) hXc hroom (by omega) (growslice_fits hroom hby)
  have hge := grownCap_ge w (n + 1) cap 130
  have hle := grownCap_le_maxLen w (n + 1) cap 130 (by simp only [maxLen]; omega)
  generalize grownCap w (n + 1) cap 130 = C at hrun hge hle
  have hrow : (m.toArray ++ X.toArray ++ Builtin.zeroCells z0.cells (C - (n + 1))) = (m ++ X ++ (Builtin.zeroCells z0.cells (C - (n + 1))).toList).toArray := by apply Array.toList_inj.1; simp
  have hql : (Builtin.zeroCells z0.cells (C - (n + 1))).toList.length = (C - (n + 1)) * 2 := by rw [Array.length_toList, size_zeroCells, hzl]
  rw [hrow] at hrun
  generalize (Builtin.zeroCells z0.cells (C - (n + 1))).toList = q at hrun hql
  go_enter Go.Proofs.Try.func142, Go.Proofs.Try.ntmps142
  go_wp2_with (at_builtin; refine Lib.wpList_append_run _ rfl _ _ _ _ rfl _ _ rfl rfl _ _ (hrun _) ?_)
  go_ret
  exact ⟨C, q, rfl, by first | rfl | (rw [List.append_assoc]; rfl), hge, hle, by simp only [List.length_append, hm, hX, hql]; omega⟩
set_option maxHeartbeats 4000000 in
set_option maxRecDepth 100000 in
theorem insSeries.endNil (w : World) (vb vc : Nat) (X : List Value) (hX : X.length = 2) (hXc : ∀ j v, X[j]? = some v → w.cell? ((⟨vb, 0, none⟩ : Addr).add j) = some v) :
    Calls Go.Proofs.Try.prog 142 #[.slice none 0 0, .int .i64 0, .slice (some ⟨vb, 0, none⟩) 1 vc] w fun e w' => ∃ c q, e = .returned (.slice (some ⟨w.heap.size, 0, none⟩) 1 c) ∧ w' = w.drew.alloc (.cells (X ++ q).toArray 130) ∧ 1 ≤ c ∧ c ≤ maxLen ∧ (X ++ q).length = c * 2 := by
  obtain ⟨i0, z0, hi0, hzs, hzb, hzz, hzl⟩ := insSeries.el w
  have hrun := fun ty => run_append_nil (P := Go.Proofs.Try.prog) w 60 ty 130 i0 z0 Go.Proofs.Try.underlying60 hi0 hzz ⟨vb, 0, none⟩ 1 vc X (by rw [hX, hzs]) hXc (by omega) (by omega) (by omega)
  have hge := grownCap_ge w 1 0 130
  have hle := grownCap_le_maxLen w 1 0 130 (by simp only [maxLen]; omega)
  generalize grownCap w 1 0 130 = C at hrun hge hle
  have hrow : (X.toArray ++ Builtin.zeroCells z0.cells (C - 1)) = (X ++ (Builtin.zeroCells z0.cells (C - 1)).toList).toArray := by apply Array.toList_inj.1; simp
  have hql : (Builtin.zeroCells z0.cells (C - 1)).toList.length = (C - 1) * 2 := by rw [Array.length_toList, size_zeroCells, hzl]
  rw [hrow] at hrun
  generalize (Builtin.zeroCells z0.cells (C - 1)).toList = q at hrun hql
  go_enter Go.Proofs.Try.func142, Go.Proofs.Try.ntmps142
  go_wp2_with (at_builtin; refine Lib.wpList_append_run _ rfl _ _ _ _ rfl _ _ rfl rfl _ _ (hrun _) ?_)
  go_ret
  exact ⟨C, q, rfl, rfl, hge, hle, by simp only [List.length_append, hX, hql]; omega⟩
set_option maxHeartbeats 4000000 in
set_option maxRecDepth 100000 in
theorem insSeries.shift (w : World) (g n cap i vb vc : Nat) (cc cv : Array Value) (ct tv : TypeId) (fz fv : Nat × Nat) (m q X : List Value) (hh : w.heap[g]? = some (.cells cc ct fz)) (hc : cc.toList = m ++ q) (hm : m.length = n * 2) (h1m : ∀ v ∈ m, v.oneCell' = true)
    (hX : X.length = 2) (hXc : ∀ j v, X[j]? = some v → w.cell? ((⟨vb, 0, none⟩ : Addr).add j) = some v) (h1 : ∀ v ∈ X, v.oneCell' = true) (hf : ∀ j, j < cc.size → ¬ (fz.1 ≤ j ∧ j < fz.2)) (hi : i < n) (hroom : n + 1 ≤ cap) (hcap : cap ≤ 9223372036854775807) (hcs : cc.size = cap * 2)
    (hvb : vb ≠ g) (hvh : w.heap[vb]? = some (.cells cv tv fv)) (hfv : ∀ j, j < cv.size + 1 → ¬ (fv.1 ≤ j ∧ j < fv.2)) :
    Calls Go.Proofs.Try.prog 142 #[.slice (some ⟨g, 0, none⟩) n cap, .int .i64 i, .slice (some ⟨vb, 0, none⟩) 1 vc] w fun e w' => e = .returned (.slice (some ⟨g, 0, none⟩) (n + 1) cap) ∧ w' = putB w.drew g (.cells (splice (splice cc.toList ((i + 1) * 2) (m.drop (i * 2))) (i * 2) X).toArray ct fz) := by
  obtain ⟨i0, z0, hi0, hzs, hzb, hzz, hzl⟩ := insSeries.el w
  have hz2 : ¬ ((i : Int) = (n : Int)) := by omega
  have mixed : Go.Proofs.Try.prog.follows .mixedOrders = true := by kernel_rfl
  have hgl : g < w.heap.size := lt_of_heap hh
  have hov : ∀ o lb cb, (callFunc 187 #[.slice (some ⟨vb, 0, none⟩) 1 vc, .slice (some ⟨g, o, none⟩) lb cb]).run Go.Proofs.Try.prog w = .ok (.value (.bool false)) w := fun o lb cb => by
    rw [run_callFunc_extern (fn := Go.Proofs.Try.f187) (f := 187) (by kernel_rfl) (by kernel_rfl) (by kernel_rfl) (by kernel_rfl) (e := Extern.SlicesOverlaps.overlaps #[60, 60] #[4]) (by kernel_rfl),
      Lib.run_overlaps_apart w 60 4 130 Go.Proofs.Try.underlying60 2 Go.Proofs.Try.sizeOf130 ⟨vb, 0, none⟩ ⟨g, o, none⟩ 1 vc lb cb hvb tv ct cv.size cc.size (by simp [World.shape?, hvh]) (by simp [World.shape?, hh]) (by omega)
        (by have := hfv 0 (by omega); simp [World.frozen?, hvh]; omega) (by have := hfv cv.size (by omega); simp [World.frozen?, hvh]; omega)]
    rfl
  have hone : ∀ v ∈ m.drop (i * 2), v.oneCell' = true := fun v hv => h1m v (List.mem_of_mem_drop hv)
  have hcell : ∀ j v, (m.drop (i * 2))[j]? = some v → w.cell? ((⟨g, i * 2, none⟩ : Addr).add j) = some v :=
    cells_at (d := ⟨g, i * 2, none⟩) (p := m.take (i * 2)) (q := q) rfl hh (by rw [hc, List.take_append_drop]) (by rw [List.length_take]; show _ = i * 2; omega)
  have hdl : (m.drop (i * 2)).length = (n - i) * 2 := by rw [List.length_drop, hm]; omega
  have hql : m.length + q.length = cc.size := by rw [← Array.length_toList, hc, List.length_append]
  have hcp1 : ∀ ty dc sc, (Builtin.copy_ #[60, 60] ty #[.slice (some ⟨g, (i + 1) * 2, none⟩) (n - i) dc, .slice (some ⟨g, i * 2, none⟩) (n + 1 - i) sc]).run Go.Proofs.Try.prog w.drew = .ok (goInt ((n - i : Nat) : Int)) (putB w.drew g (.cells (splice cc.toList ((i + 1) * 2) (m.drop (i * 2))).toArray ct fz)) := fun ty dc sc =>
    run_copy_put Go.Proofs.Try.underlying60 hi0 (by simp only [Nat.min_def]; split <;> omega) (by rw [hdl, hzs]) (show w.drew.heap[g]? = _ from hh) (fun j v h => hcell j v h) hone hf (by rw [hdl]; omega)
  obtain ⟨W1, hW1⟩ : ∃ W1, W1 = putB w.drew g (.cells (splice cc.toList ((i + 1) * 2) (m.drop (i * 2))).toArray ct fz) := ⟨_, rfl⟩
  have hl1 : (splice cc.toList ((i + 1) * 2) (m.drop (i * 2))).length = cc.size := by rw [splice_len (by rw [hdl, Array.length_toList]; omega), Array.length_toList]
  have hcp2 : ∀ (W : World), W.heap = W1.heap → ∀ ty dc, (Builtin.copy_ #[60, 60] ty #[.slice (some ⟨g, i * 2, none⟩) (n + 1 - i) dc, .slice (some ⟨vb, 0, none⟩) 1 vc]).run Go.Proofs.Try.prog W = .ok (goInt ((1 : Nat) : Int)) (putB W g (.cells (splice (splice cc.toList ((i + 1) * 2) (m.drop (i * 2))) (i * 2) X).toArray ct fz)) := fun W hW ty dc => by
    have hWg : W.heap[g]? = some (.cells (splice cc.toList ((i + 1) * 2) (m.drop (i * 2))).toArray ct fz) := by rw [hW, hW1]; exact putB_same hgl
    exact run_copy_put Go.Proofs.Try.underlying60 hi0 (by simp only [Nat.min_def]; split <;> omega) (by rw [hX, hzs]) hWg (fun j v h => by
      have h2 := hXc j v h
      rw [Addr.add_lit] at h2 ⊢
      rw [← h2]
      have hne : W.heap[vb]? = w.heap[vb]? := by rw [hW, hW1]; exact putB_other hvb
      simp only [World.cell?, hne]) h1 (fun j hj => hf j (Nat.lt_of_lt_of_eq hj hl1)) (Nat.le_trans (show i * 2 + X.length ≤ cc.size by rw [hX]; omega) (Nat.le_of_eq hl1.symm))
  rw [← hW1] at hcp1
  have hw1 : IntKind.i64.wrap ((i : Int) + 1) = (i : Int) + 1 := by rw [IntKind.wrap_i64]; omega
  have hb1 : (0 : Int) ≤ (i : Int) + 1 := by omega
  have hin : i ≤ n := by omega
  have htn : ((i : Int) + 1).toNat = i + 1 := by omega
  have hb2 : ¬ (cap = i + 1) := by omega
  have hb3 : (i : Int) ≤ (n : Int) + 1 := by omega
  have hb4 : ¬ (cap = i) := by omega
  go_enter Go.Proofs.Try.func142, Go.Proofs.Try.ntmps142
  go_wp2_with (simp only [hov])
  go_region_law_o (refine step_copy_runI rfl _ _ 60 60 rfl _ _ (by simp [Act.eval, Act.put]) (by simp [Act.eval, Act.put]) (hcp1 _ _ _) ?_)
  go_wp2_with (at_builtin; refine wpList_copy_runI _ rfl _ _ 60 60 rfl _ _ rfl rfl (hcp2 _ rfl _ _) ?_)
  go_ret
  exact ⟨rfl, by first | (rw [hW1, putB_putB]; done) | rw [hc, putB_putB]⟩
set_option maxHeartbeats 4000000 in
set_option maxRecDepth 100000 in
theorem insSeries.midGrow (w : World) (g n cap i vb vc : Nat) (m X : List Value) (hm : m.length = n * 2) (hmc : ∀ j v, m[j]? = some v → w.cell? ((⟨g, 0, none⟩ : Addr).add j) = some v) (h1m : ∀ v ∈ m, v.oneCell' = true) (hX : X.length = 2) (hXc : ∀ j v, X[j]? = some v → w.cell? ((⟨vb, 0, none⟩ : Addr).add j) = some v) (h1 : ∀ v ∈ X, v.oneCell' = true)
    (hi : i < n) (hroom : cap < n + 1) (hnc : n ≤ cap) (hn : n ≤ 1000000) (hgl : g < w.heap.size) (hvl : vb < w.heap.size) :
    Calls Go.Proofs.Try.prog 142 #[.slice (some ⟨g, 0, none⟩) n cap, .int .i64 i, .slice (some ⟨vb, 0, none⟩) 1 vc] w fun e w' => ∃ c q, e = .returned (.slice (some ⟨w.heap.size, 0, none⟩) (n + 1) c) ∧ n + 1 ≤ c ∧ c ≤ maxLen ∧ ((m.take (i * 2) ++ X ++ m.drop (i * 2)) ++ q).length = c * 2 ∧
      w'.os = w.os ∧ w'.tape = w.tape ∧ w'.output = w.output ∧ w'.heap.size = w.heap.size + 1 ∧ (∀ k, k < w.heap.size → w'.heap[k]? = w.heap[k]?) ∧ w'.heap[w.heap.size]? = some (.cells ((m.take (i * 2) ++ X ++ m.drop (i * 2)) ++ q).toArray 130 (0, 0)) := by
  obtain ⟨i0, z0, hi0, hzs, hzb, hzz, hzl⟩ := insSeries.el w
  have hz2 : ¬ ((i : Int) = (n : Int)) := by omega
  have hz3 : (cap : Int) < (n : Int) + 1 := by omega
  have mixed : Go.Proofs.Try.prog.follows .mixedOrders = true := by kernel_rfl
  have hby : (n + 1) * i0.bytes ≤ 140737488355328 := Nat.le_trans (Nat.mul_le_mul_left _ hzb) (by omega)
  have hby2 : (n + 1 - i) * i0.bytes ≤ 140737488355328 := Nat.le_trans (Nat.mul_le_mul_right _ (by omega)) hby
  have hkk : (n : Int) + 1 - (i : Int) = ((n + 1 - i : Nat) : Int) := by omega
  have hik : i + (n + 1 - i) = n + 1 := by omega
  have hold : (Builtin.firstCells i0.size i (.slice (some ⟨g, 0, none⟩) i cap)).run Go.Proofs.Try.prog w.drew = .ok (m.take (i * 2)).toArray w.drew :=
    run_firstCells_some w.drew i0.size i ⟨g, 0, none⟩ i cap (m.take (i * 2)) (by rw [List.length_take, hm, hzs]; omega) (fun j v hj => by
      rw [List.getElem?_take] at hj
      split at hj
      · exact hmc j v hj
      · cases hj)
  have hrz : ∀ ty, ∃ C, n + 1 ≤ C ∧ C ≤ maxLen ∧ True := fun _ => ⟨n + 1, Nat.le_refl _, by simp only [maxLen]; omega, trivial⟩
  have hge := grownCap_ge w (n + 1) cap 130
  have hle := grownCap_le_maxLen w (n + 1) cap 130 (by simp only [maxLen]; omega)
  have hrun : ∀ ty, (Builtin.append_ #[60, 3] ty #[.slice (some ⟨g, 0, none⟩) i cap, .int .i64 ((n : Int) + 1 - (i : Int))]).run Go.Proofs.Try.prog w =
      .ok (.slice (some ⟨w.heap.size, 0, none⟩) (n + 1) (grownCap w (n + 1) cap 130)) (w.drew.alloc (.cells ((m.take (i * 2)).toArray ++ Builtin.zeroCells z0.cells (n + 1 - i) ++ Builtin.zeroCells z0.cells (grownCap w (n + 1) cap 130 - (n + 1))) 130)) := fun ty => by
    have h := Lib.run_append_grow_zeros w 60 3 ty 130 i0 z0 .i64 .i64 Go.Proofs.Try.underlying60 Go.Proofs.Try.underlying3 hi0 hzz (some ⟨g, 0, none⟩) i cap (m.take (i * 2)) hold (n + 1 - i) (by omega) (by omega) (by omega) (by omega) (by omega) (by rw [hik]; exact growslice_fits hroom hby)
    rw [hik] at h
    rw [hkk]
    exact h
  generalize grownCap w (n + 1) cap 130 = C at hrun hge hle
  have hrow : ((m.take (i * 2)).toArray ++ Builtin.zeroCells z0.cells (n + 1 - i) ++ Builtin.zeroCells z0.cells (C - (n + 1))) = (m.take (i * 2) ++ ((Builtin.zeroCells z0.cells (n + 1 - i)).toList ++ (Builtin.zeroCells z0.cells (C - (n + 1))).toList)).toArray := by apply Array.toList_inj.1; simp
  have hql : ((Builtin.zeroCells z0.cells (n + 1 - i)).toList ++ (Builtin.zeroCells z0.cells (C - (n + 1))).toList).length = (C - i) * 2 := by rw [List.length_append, Array.length_toList, Array.length_toList, size_zeroCells, size_zeroCells, hzl]; omega
  rw [hrow] at hrun
  generalize (Builtin.zeroCells z0.cells (n + 1 - i)).toList ++ (Builtin.zeroCells z0.cells (C - (n + 1))).toList = Z at hrun hql
  clear hrow hrz
  obtain ⟨ROW, hROW⟩ : ∃ ROW, ROW = m.take (i * 2) ++ Z := ⟨_, rfl⟩
  rw [← hROW] at hrun
  have htl : (m.take (i * 2)).length = i * 2 := by rw [List.length_take, hm]; omega
  have hdl : (m.drop (i * 2)).length = (n - i) * 2 := by rw [List.length_drop, hm]; omega
  have hRl : ROW.length = C * 2 := by rw [hROW, List.length_append, htl, hql]; omega
  obtain ⟨W1, hW1⟩ : ∃ W1, W1 = w.drew.alloc (.cells ROW.toArray 130) := ⟨_, rfl⟩
  rw [← hW1] at hrun
  have hN1 : W1.heap[w.heap.size]? = some (.cells ROW.toArray 130 (0, 0)) := by rw [hW1]; exact alloc_new w.drew _
  have hO1 : ∀ k, k < w.heap.size → W1.heap[k]? = w.heap[k]? := fun k hk => by rw [hW1]; exact alloc_old w.drew _ hk
  have hs1 : W1.heap.size = w.heap.size + 1 := by rw [hW1]; exact alloc_sz w.drew _
  have hNl : w.heap.size < W1.heap.size := by omega
  have hcpA : ∀ (W : World), W.heap = W1.heap → ∀ ty dc, (Builtin.copy_ #[60, 60] ty #[.slice (some ⟨w.heap.size, i * 2, none⟩) (n + 1 - i) dc, .slice (some ⟨vb, 0, none⟩) 1 vc]).run Go.Proofs.Try.prog W = .ok (goInt ((1 : Nat) : Int)) (putB W w.heap.size (.cells (splice ROW (i * 2) X).toArray 130 (0, 0))) := fun W hW ty dc =>
    run_copy_put Go.Proofs.Try.underlying60 hi0 (by simp only [Nat.min_def]; split <;> omega) (by rw [hX, hzs]) (by rw [hW]; exact hN1) (fun j v h => by
      have h2 := hXc j v h
      rw [Addr.add_lit] at h2 ⊢
      rw [← h2]
      have hne : W.heap[vb]? = w.heap[vb]? := by rw [hW]; exact hO1 _ hvl
      simp only [World.cell?, hne]) h1 (fun j _ h => by simp at h) (by show i * 2 + X.length ≤ ROW.length; omega)
  have hl1 : (splice ROW (i * 2) X).length = C * 2 := by rw [splice_len (by omega), hRl]
  obtain ⟨W2, hW2⟩ : ∃ W2, W2 = putB W1 w.heap.size (.cells (splice ROW (i * 2) X).toArray 130 (0, 0)) := ⟨_, rfl⟩
  have hN2 : W2.heap[w.heap.size]? = some (.cells (splice ROW (i * 2) X).toArray 130 (0, 0)) := by rw [hW2]; exact putB_same hNl
  have hO2 : ∀ k, k < w.heap.size → W2.heap[k]? = w.heap[k]? := fun k hk => by rw [hW2, putB_other (by omega)]; exact hO1 k hk
  have hcpB : ∀ (W : World), W.heap = W2.heap → ∀ ty dc sc, (Builtin.copy_ #[60, 60] ty #[.slice (some ⟨w.heap.size, (i + 1) * 2, none⟩) (n - i) dc, .slice (some ⟨g, i * 2, none⟩) (n - i) sc]).run Go.Proofs.Try.prog W = .ok (goInt ((n - i : Nat) : Int)) (putB W w.heap.size (.cells (splice (splice ROW (i * 2) X) ((i + 1) * 2) (m.drop (i * 2))).toArray 130 (0, 0))) := fun W hW ty dc sc =>
    run_copy_put Go.Proofs.Try.underlying60 hi0 (by simp only [Nat.min_def]; split <;> omega) (by rw [hdl, hzs]) (by rw [hW]; exact hN2) (fun j v h => by
      rw [List.getElem?_drop] at h
      have h2 := hmc (i * 2 + j) v h
      rw [Addr.add_lit] at h2 ⊢
      rw [← h2]
      have hne : W.heap[g]? = w.heap[g]? := by rw [hW]; exact hO2 _ hgl
      simp only [World.cell?, hne, Nat.zero_add]) (fun v hv => h1m v (List.mem_of_mem_drop hv)) (fun j _ h => by simp at h) (Nat.le_trans (show (i + 1) * 2 + (m.drop (i * 2)).length ≤ C * 2 by rw [hdl]; omega) (Nat.le_of_eq hl1.symm))
  have hfin : splice (splice ROW (i * 2) X) ((i + 1) * 2) (m.drop (i * 2)) = (m.take (i * 2) ++ X ++ m.drop (i * 2)) ++ Z.drop (X.length + (m.drop (i * 2)).length) := by
    rw [hROW, show (i + 1) * 2 = i * 2 + X.length by rw [hX]; omega]
    exact splice_fill htl.symm (by rw [hX, hdl, hql]; omega)
  have hw1 : IntKind.i64.wrap ((i : Int) + 1) = (i : Int) + 1 := by rw [IntKind.wrap_i64]; omega
  have hb1 : (0 : Int) ≤ (i : Int) + 1 := by omega
  have hin : i ≤ n := by omega
  have htn : ((i : Int) + 1).toNat = i + 1 := by omega
  have hb3 : (i : Int) ≤ (n : Int) := by omega
  have hC63 : C ≤ 9223372036854775807 := by simp only [maxLen] at hle; omega
  have hb2 : ¬ (C = i + 1) := by omega
  have hb4 : ¬ (cap = i) := by omega
  have hb5 : ¬ (C = i) := by omega
  have hW2' : W2.heap = (putB (w.alloc (.cells ROW.toArray 130)).drew w.heap.size (.cells (splice ROW (i * 2) X).toArray 130 (0, 0))).drew.heap := by rw [hW2, hW1]; rfl
  have hW1' : (w.alloc (.cells ROW.toArray 130)).drew.heap = W1.heap := by rw [hW1]; rfl
  have hres' : ∀ W : World, W.heap = (putB W2 w.heap.size (.cells (splice (splice ROW (i * 2) X) ((i + 1) * 2) (m.drop (i * 2))).toArray 130 (0, 0))).heap → W.os = w.os → W.tape = w.tape → W.output = w.output → True := fun _ _ _ _ _ => trivial
  rw [hW1] at hrun
  have hP : ∀ (W : World) (o : Obj), W.heap = W2.heap → (putB W w.heap.size o).heap = (putB W2 w.heap.size o).heap := fun W o h => by simp only [putB, h]
  have hres : ∀ W : World, W.heap = (putB W2 w.heap.size (.cells (splice (splice ROW (i * 2) X) ((i + 1) * 2) (m.drop (i * 2))).toArray 130 (0, 0))).heap → W.os = w.os → W.tape = w.tape → W.output = w.output → ∃ q, ((m.take (i * 2) ++ X ++ m.drop (i * 2)) ++ q).length = C * 2 ∧
      W.os = w.os ∧ W.tape = w.tape ∧ W.output = w.output ∧ W.heap.size = w.heap.size + 1 ∧ (∀ k, k < w.heap.size → W.heap[k]? = w.heap[k]?) ∧ W.heap[w.heap.size]? = some (.cells ((m.take (i * 2) ++ X ++ m.drop (i * 2)) ++ q).toArray 130 (0, 0)) := fun W hW a1 a2 a3 => by
    refine ⟨Z.drop (X.length + (m.drop (i * 2)).length), ?_, a1, a2, a3, ?_, fun k hk => ?_, ?_⟩
    · rw [← hfin, splice_len (by rw [hl1, hdl]; omega), hl1]
    · rw [hW, putB_sz, hW2, putB_sz, hs1]
    · rw [hW, putB_other (by omega)]; exact hO2 k hk
    · rw [hW, putB_same (by rw [hW2, putB_sz]; exact hNl), hfin]
  have hos1 : W1.os = w.os ∧ W1.tape = w.tape ∧ W1.output = w.output := by rw [hW1]; exact ⟨rfl, rfl, rfl⟩
  clear hW1 hW2 hROW hres' hfin hold hmc hXc hik hkk hby hby2
  go_enter Go.Proofs.Try.func142, Go.Proofs.Try.ntmps142
  go_wp2_with (first
    | (at_builtin; refine Lib.wpList_append_run _ rfl _ _ _ _ rfl _ _ rfl rfl _ _ (hrun _) ?_)
    | (at_builtin; refine wpList_copy_runI _ rfl _ _ 60 60 rfl _ _ rfl rfl (hcpA _ hW1' _ _) ?_))
  go_region_law_o (refine step_copy_runI rfl _ _ 60 60 rfl _ _ (by simp [Act.eval, Act.put]) (by simp [Act.eval, Act.put]) (hcpB _ hW2'.symm _ _ _) ?_)
  go_wp2
  go_ret
  obtain ⟨q, r1, r2⟩ := hres _ (hP _ _ hW2'.symm) rfl rfl rfl
  refine ⟨C, q, rfl, hge, hle, ?_⟩
  have r := And.intro r1 r2
  simpa only [List.append_assoc] using r
end
theorem slices_Insert_Series.ok : CtrOK Go.Proofs.Try.prog gl slices_Insert_Series.spec := by
  refine fun n => ⟨⟨Go.Proofs.Try.f142, by kernel_rfl, by kernel_rfl, by decide +kernel⟩, ?_⟩
  intro inst
  rintro ⟨a0, a1, a2, ⟨⟩⟩ y hy
  have hy := hold_some hy
  cases hb : (decide (0 ≤ a1) && decide (a1 ≤ (a0.length : Int)) && decide (a0.length ≤ 1000000) && Nat.beq a2.length 1) with
  | false => rw [hb] at hy; cases hy
  | true =>
    rw [hb] at hy
    obtain rfl := Option.some.inj hy
    simp only [Bool.and_eq_true, decide_eq_true_eq, Nat.beq_eq] at hb
    obtain ⟨⟨⟨b0, b1⟩, b2⟩, b3⟩ := hb
    obtain ⟨i, rfl⟩ : ∃ i : Nat, a1 = (i : Int) := ⟨a1.toNat, (Int.toNat_of_nonneg b0).symm⟩
    have b1 : i ≤ a0.length := Int.ofNat_le.1 b1
    obtain ⟨x, rfl⟩ : ∃ x, a2 = [x] := List.length_eq_one_iff.1 b3
    have hz : U.sz ((.pair (.sl false (.pair .str (.pair .str .unit))) (.pair (.sl false (.pair (.int .i64) (.pair (.int .i64) .unit))) .unit))) = 2 := rfl
    intro w vs S L harg _ hL hSL hG
    change ArgsRep w [Arg.g (.sl false ((.pair (.sl false (.pair .str (.pair .str .unit))) (.pair (.sl false (.pair (.int .i64) (.pair (.int .i64) .unit))) .unit)))) a0, Arg.v (.int .i64) (i : Int), Arg.g (.sl false ((.pair (.sl false (.pair .str (.pair .str .unit))) (.pair (.sl false (.pair (.int .i64) (.pair (.int .i64) .unit))) .unit)))) [x]] vs S L at harg
    unfold ArgsRep at harg
    obtain ⟨v0, vr, S1, S2, L1, L2, rfl, rfl, rfl, h1, harg⟩ := harg
    unfold ArgsRep at harg
    obtain ⟨v1, vr, S3, S4, L3, L4, rfl, rfl, rfl, h2, harg⟩ := harg
    unfold ArgsRep at harg
    obtain ⟨v2, vr, S5, S6, L5, L6, rfl, rfl, rfl, h3, harg⟩ := harg
    unfold ArgsRep at harg
    obtain ⟨rfl, rfl, rfl⟩ := harg
    unfold ArgRep at h1 h2 h3
    obtain ⟨_, rfl, cs1, rfl, c1, rfl, h1⟩ := h1
    obtain ⟨_, ⟨cs2, rfl, rfl, rfl⟩, rfl⟩ := h2
    obtain ⟨_, rfl, cs3, rfl, c3, rfl, h3⟩ := h3
    have h1 := h1.resolve_right (fun h => bare_no h)
    have h3 := h3.resolve_right (fun h => bare_no h)
    rw [hz] at h1 h3
    have key : Calls Go.Proofs.Try.prog 142 #[c1, .int .i64 i, c3] w fun e w' => ∃ v', e = .returned v' ∧ InsFin w w' ((.pair (.sl false (.pair .str (.pair .str .unit))) (.pair (.sl false (.pair (.int .i64) (.pair (.int .i64) .unit))) .unit))) (insL a0 i x) v' (L1 ++ ([] ++ (L5 ++ []))) := by
      rcases h3 with ⟨_, h, _⟩ | ⟨⟨vb, vo, vsp⟩, vc, cv, tv, fv, pv, mv, qv, Gv, rfl, hsp3, _, hl3, hh3, hc3, hp3, hr3, rfl, how3⟩
      · cases h
      obtain ⟨hof3, hfz3, hcs3, hcm3⟩ := how3 rfl
      dsimp only at hsp3 hof3 hh3 hp3
      subst hsp3 hof3
      obtain rfl : pv = [] := List.eq_nil_of_length_eq_zero hp3
      obtain ⟨X, d3, GX, G3, rfl, rfl, hx, rfl, rfl⟩ := hr3
      have hX : X.length = 2 := by rw [Rep.length hx]; exact hz
      have hXc : ∀ j v, X[j]? = some v → w.cell? ((⟨vb, 0, none⟩ : Addr).add j) = some v := cells_at (d := ⟨vb, 0, none⟩) (p := []) (q := qv) rfl hh3 (by rw [hc3]; simp) rfl
      have hX1 := Rep.one hx
      have hvl : vb < w.heap.size := lt_of_heap hh3
      simp only [List.append_nil, List.nil_append] at hL ⊢
      obtain ⟨nA, nB, nC⟩ := List.nodup_append.1 hL
      obtain ⟨nB1, nB2⟩ := List.nodup_cons.1 nB
      have hGXl : ∀ b ∈ GX, b < w.heap.size := Rep.block_lt hx
      rcases h1 with ⟨rfl, rfl, rfl⟩ | ⟨⟨g, go, gsp⟩, cap, cc, ct, fz, pp, m, q, G, rfl, hsp, _, hlc, hh, hc, hp, hr, rfl, how⟩
      · obtain rfl : i = 0 := by simpa using b1
        refine (insSeries.endNil w vb vc X hX hXc).mono ?_
        rintro e w' ⟨C, q, rfl, rfl, k1, k2, k3⟩
        refine ⟨_, rfl, ins_row (l := []) (x := x) (i := 0) (g := w.heap.size) (cap := C) (cc' := (X ++ q).toArray) (fz := (0, 0)) (m := []) (q' := q) (X := X) (G := []) (GX := GX) (Nat.zero_le _) k1 (alloc_new w.drew _) (by simp) ⟨rfl, rfl⟩ hx (fun j _ h => by simp at h) (by rw [hz]; simpa using k3) k2 (fun h => absurd h (Nat.lt_irrefl _)) (fun b hb => by simp at hb; simp [hb]) (fun hb => by simp at hb; exact absurd (hGXl _ hb) (Nat.lt_irrefl _)) (by simpa using nB2) (fun k hk _ => alloc_old w.drew _ hk) (by rw [alloc_sz]; exact Nat.le_succ _) rfl rfl rfl⟩
      · obtain ⟨hof, hfz, hcs, hcm⟩ := how rfl
        dsimp only at hsp hof hh hp
        subst hsp hof
        obtain rfl : pp = [] := List.eq_nil_of_length_eq_zero hp
        rw [List.nil_append] at hc
        have hm : m.length = a0.length * 2 := by rw [RepL.length (fun _ _ _ => Rep.length) hr, hz]
        have hmc : ∀ j v, m[j]? = some v → w.cell? ((⟨g, 0, none⟩ : Addr).add j) = some v := cells_at (d := ⟨g, 0, none⟩) (p := []) (q := q) rfl hh (by rw [hc]; simp) rfl
        have hm1 := RepL.one hr
        have hgl : g < w.heap.size := lt_of_heap hh
        obtain ⟨nA1, nA2⟩ := List.nodup_cons.1 nA
        have hGl : ∀ b ∈ G, b < w.heap.size := RepL.block_lt (fun h => Rep.block_lt h) hr
        have hvg : vb ≠ g := fun e => nC g (List.mem_cons_self ..) vb (List.mem_cons_self ..) e.symm
        have hnd : (G ++ GX).Nodup := by
          rw [List.nodup_append]
          exact ⟨nA2, nB2, fun a ha b hb => nC a (List.mem_cons_of_mem _ ha) b (List.mem_cons_of_mem _ hb)⟩
        have hGL : ∀ b ∈ G ++ GX, b ∈ g :: G ++ vb :: GX := fun b hb => by
          simp only [List.mem_append, List.mem_cons] at hb ⊢
          rcases hb with hb | hb <;> simp [hb]
        have hng : g ∉ G ++ GX := fun hb => by
          rcases List.mem_append.1 hb with hb | hb
          · exact nA1 hb
          · exact nC g (List.mem_cons_self ..) g (List.mem_cons_of_mem _ hb) rfl
        have hnN : w.heap.size ∉ G ++ GX := fun hb => by
          rcases List.mem_append.1 hb with hb | hb
          · exact Nat.lt_irrefl _ (hGl _ hb)
          · exact Nat.lt_irrefl _ (hGXl _ hb)
        have hf : ∀ j, j < cc.size → ¬ (fz.1 ≤ j ∧ j < fz.2) := fun j hj => hfz j (by omega)
        have hc63 : cap ≤ 9223372036854775807 := by simp only [maxLen] at hcm; omega
        have hccl : cc.toList.length = cc.size := Array.length_toList
        have hcl : m.length + q.length = cap * 2 := by rw [← hcs, ← Array.length_toList, hc, List.length_append]
        rcases Nat.eq_or_lt_of_le b1 with rfl | hi
        · rcases Nat.lt_or_ge cap (a0.length + 1) with hg | hg
          · refine (insSeries.endGrow w g a0.length cap vb vc m X hm hmc hX hXc hg hlc b2).mono ?_
            rintro e w' ⟨C, q', rfl, rfl, k1, k2, k3⟩
            refine ⟨_, rfl, ins_row (l := a0) (x := x) (i := a0.length) (g := w.heap.size) (cap := C) (cc' := (m ++ X ++ q').toArray) (fz := (0, 0)) (m := m) (q' := q') (X := X) (G := G) (GX := GX) (Nat.le_refl _) k1 (alloc_new w.drew _) (by rw [hz, ← hm, List.take_of_length_le (Nat.le_refl _), List.drop_eq_nil_of_le (Nat.le_refl _), List.append_nil]) hr hx (fun j _ h => by simp at h) (by rw [hz]; simpa using k3) k2 (fun h => absurd h (Nat.lt_irrefl _)) hGL hnN hnd (fun k hk _ => alloc_old w.drew _ hk) (by rw [alloc_sz]; exact Nat.le_succ _) rfl rfl rfl⟩
          · refine (insSeries.endRoom w g a0.length cap vb vc cc ct fz X hh hX hXc hX1 hf hg hc63 hcs).mono ?_
            rintro e w' ⟨rfl, rfl⟩
            have hsl : (splice cc.toList (a0.length * 2) X).length = cc.size := by rw [splice_len (by omega)]; exact hccl
            refine ⟨_, rfl, ins_row (l := a0) (x := x) (i := a0.length) (g := g) (cap := cap) (cc' := (splice cc.toList (a0.length * 2) X).toArray) (fz := fz) (m := m) (q' := q.drop X.length) (X := X) (G := G) (GX := GX) (Nat.le_refl _) hg (putB_same hgl) (by rw [hz, hc]; exact splice_end hm.symm (by omega)) hr hx (fun j hj => hfz j (by rw [List.size_toArray, hsl] at hj; exact hj)) (by rw [hz, List.size_toArray, hsl]; exact hcs) hcm (fun _ => List.mem_append_left _ (List.mem_cons_self ..)) hGL hng hnd (fun k _ hk => putB_other hk) (by rw [putB_sz]; exact Nat.le_refl _) rfl rfl rfl⟩
        · rcases Nat.lt_or_ge cap (a0.length + 1) with hg | hg
          · refine (insSeries.midGrow w g a0.length cap i vb vc m X hm hmc hm1 hX hXc hX1 hi hg hlc b2 hgl hvl).mono ?_
            rintro e w' ⟨C, q', rfl, k1, k2, k3, k4, k5, k6, k7, k8, k9⟩
            refine ⟨_, rfl, ins_row (l := a0) (x := x) (i := i) (g := w.heap.size) (cap := C) (fz := (0, 0)) (m := m) (q' := q') (X := X) (G := G) (GX := GX) b1 k1 k9 (by rw [hz]) hr hx (fun j _ h => by simp at h) (by rw [hz]; simpa using k3) k2 (fun h => absurd h (Nat.lt_irrefl _)) hGL hnN hnd (fun k hk _ => k8 k hk) (by omega) k4 k5 k6⟩
          · refine (insSeries.shift w g a0.length cap i vb vc cc cv ct tv fz fv m q X hh hc hm hm1 hX hXc hX1 hf hi hg hc63 hcs hvg hh3 (fun j hj => hfz3 j (by omega))).mono ?_
            rintro e w' ⟨rfl, rfl⟩
            have hdl : (m.drop (i * 2)).length = (a0.length - i) * 2 := by rw [List.length_drop, hm]; omega
            have hs1 : (splice cc.toList ((i + 1) * 2) (m.drop (i * 2))).length = cc.size := by rw [splice_len (by omega)]; exact hccl
            have hsl : (splice (splice cc.toList ((i + 1) * 2) (m.drop (i * 2))) (i * 2) X).length = cc.size := by rw [splice_len (by omega)]; exact hs1
            refine ⟨_, rfl, ins_row (l := a0) (x := x) (i := i) (g := g) (cap := cap) (cc' := (splice (splice cc.toList ((i + 1) * 2) (m.drop (i * 2))) (i * 2) X).toArray) (fz := fz) (m := m) (q' := q.drop 2) (X := X) (G := G) (GX := GX) b1 hg (putB_same hgl) (by rw [hz, hc, show (i + 1) * 2 = i * 2 + 2 by omega]; exact splice_shift (by omega) hX (by omega)) hr hx (fun j hj => hfz j (by rw [List.size_toArray, hsl] at hj; exact hj)) (by rw [hz, List.size_toArray, hsl]; exact hcs) hcm (fun _ => List.mem_append_left _ (List.mem_cons_self ..)) hGL hng hnd (fun k _ hk => putB_other hk) (by rw [putB_sz]; exact Nat.le_refl _) rfl rfl rfl⟩
    refine key.mono ?_
    rintro e w' ⟨v', rfl, F, hs, hnd, hblk, hos, htp, hot, hsz, hfr⟩
    have hval : (a0.take (i : Int).toNat ++ [x] ++ a0.drop (i : Int).toNat) = insL a0 i x := by simp [insL]
    refine ⟨[v'], F, [], rfl, ⟨[v'], [], F, [], rfl, by simp, rfl, ⟨v', rfl, .inl ?_⟩, rfl, rfl⟩, ?_, by simpa using hnd, by simpa using hblk, hos, htp, hot, hsz, hfr⟩
    · show SlRep w' true false (U.sz ((.pair (.sl false (.pair .str (.pair .str .unit))) (.pair (.sl false (.pair (.int .i64) (.pair (.int .i64) .unit))) .unit)))) (Rep w' true ((.pair (.sl false (.pair .str (.pair .str .unit))) (.pair (.sl false (.pair (.int .i64) (.pair (.int .i64) .unit))) .unit)))) (a0.take (i : Int).toNat ++ [x] ++ a0.drop (i : Int).toNat) v' F
      rw [hval]; exact hs
    · change OutsRep _ w' [Arg.g (.sl false ((.pair (.sl false (.pair .str (.pair .str .unit))) (.pair (.sl false (.pair (.int .i64) (.pair (.int .i64) .unit))) .unit)))) a0, Arg.v (.int .i64) (i : Int), Arg.g (.sl false ((.pair (.sl false (.pair .str (.pair .str .unit))) (.pair (.sl false (.pair (.int .i64) (.pair (.int .i64) .unit))) .unit)))) [x]] _ _ _
      simp only [OutsRep, OutRep]
      exact ⟨_, _, [], [], [], [], rfl, rfl, rfl, ⟨rfl, rfl⟩, _, _, [], [], [], [], rfl, rfl, rfl, ⟨rfl, rfl⟩, _, _, [], [], [], [], rfl, rfl, rfl, ⟨rfl, rfl⟩, rfl, rfl⟩


/-! loop.example/g00039/impl.findSample$1 -/
def impl_findSample_1.T : List Ctr := [cmp_Compare_int.spec]
def impl_findSample_1.md : List (Nat × List Md) := []
noncomputable def impl_findSample_1.F : Fun := ⟨(Go.Proofs.Try.f190.body).getD .skip, [.v (.pair (.int .i64) (.pair (.int .i64) .unit)), .v (.int .i64)], [(.tmp 4, (.int .i64))], [], 0, []⟩
inductive impl_findSample_1.Pt where
  | p0 (a0 : (Int) × ((Int) × (Unit))) (a1 : Int)
def impl_findSample_1.lb : impl_findSample_1.Pt → Nat
  | .p0 _ _ => 0
def impl_findSample_1.st : impl_findSample_1.Pt → St
  | .p0 a0 a1 => enter [.v (.pair (.int .i64) (.pair (.int .i64) .unit)) a0, .v (.int .i64) a1] 0
def impl_findSample_1.step (n : Nat) (K : impl_findSample_1.Pt → Option (Tup [(.int .i64)])) : impl_findSample_1.Pt → Option (Tup [(.int .i64)])
  | .p0 a0 a1 => (cmp_Compare_int n a0.1 a1).bind fun (r5 : Int) => some r5
def impl_findSample_1 (n : Nat) (a0 : (Int) × ((Int) × (Unit))) (a1 : Int) : Option (Tup [(.int .i64)]) := goRec impl_findSample_1.step n (.p0 a0 a1)
def impl_findSample_1.spec : Ctr := ⟨190, [.v (.pair (.int .i64) (.pair (.int .i64) .unit)), .v (.int .i64)], [(.int .i64)], [], none, fun n x => impl_findSample_1 n x.1 x.2.1⟩
theorem impl_findSample_1.seg_eq : SegEq ty gl impl_findSample_1.F impl_findSample_1.md impl_findSample_1.T impl_findSample_1.spec impl_findSample_1.lb impl_findSample_1.st impl_findSample_1.step := by
  intro n goto y; cases y <;> kernel_rfl
theorem impl_findSample_1.text : Text Go.Proofs.Try.prog impl_findSample_1.F impl_findSample_1.spec := textOf Go.Proofs.Try.f190
theorem impl_findSample_1.ok : CtrOK Go.Proofs.Try.prog gl impl_findSample_1.spec :=
  ctr_okS tabs impl_findSample_1.text impl_findSample_1.seg_eq (fun n x => ⟨.p0 x.1 x.2.1, rfl, rfl, rfl⟩) (consC cmp_Compare_int.ok (nilC))

/-! slices.BinarySearchFunc[[]loop.example/g00039/impl.Sample,loop.example/g00039/impl.Sample,int] -/
def slices_BinarySearchFunc_int_impl_findSample_1.T : List Ctr := [impl_findSample_1.spec]
def slices_BinarySearchFunc_int_impl_findSample_1.md : List (Nat × List Md) := []
noncomputable def slices_BinarySearchFunc_int_impl_findSample_1.F : Fun := ⟨(Go.Proofs.Try.f189.body).getD .skip, [.v (.sl false (.pair (.int .i64) (.pair (.int .i64) .unit))), .v (.int .i64), .fn 190 []], [(.tmp 6, (.int .i64)), (.tmp 7, .bool)], [], 0, [(9, ⟨[0, 1, 2, 8, 9, 10], [], [], false⟩)]⟩
inductive slices_BinarySearchFunc_int_impl_findSample_1.Pt where
  | p0 (a0 : List ((Int) × ((Int) × (Unit)))) (a1 : Int)
  | p9 (y1 : List ((Int) × ((Int) × (Unit)))) (y2 : Int) (y3 : Int) (y4 : Int) (y5 : Int)
def slices_BinarySearchFunc_int_impl_findSample_1.lb : slices_BinarySearchFunc_int_impl_findSample_1.Pt → Nat
  | .p0 _ _ => 0
  | .p9 _ _ _ _ _ => 9
def slices_BinarySearchFunc_int_impl_findSample_1.st : slices_BinarySearchFunc_int_impl_findSample_1.Pt → St
  | .p0 a0 a1 => enter [.v (.sl false (.pair (.int .i64) (.pair (.int .i64) .unit))) a0, .v (.int .i64) a1, .fn 190 []] 0
  | .p9 y1 y2 y3 y4 y5 => ⟨[(0, .im (.sl false (.pair (.int .i64) (.pair (.int .i64) .unit))) y1), (1, .im (.int .i64) y2), (2, .fn 190 []), (8, .im (.int .i64) y3), (9, .im (.int .i64) y4), (10, .im (.int .i64) y5)], [], 0⟩
def slices_BinarySearchFunc_int_impl_findSample_1.step (n : Nat) (K : slices_BinarySearchFunc_int_impl_findSample_1.Pt → Option (Tup [(.int .i64), .bool])) : slices_BinarySearchFunc_int_impl_findSample_1.Pt → Option (Tup [(.int .i64), .bool])
  | .p0 a0 a1 => K (.p9 a0 a1 ((List.length a0) : Int) (0 : Int) ((List.length a0) : Int))
  | .p9 y1 y2 y3 y4 y5 => cond (decide (y4 < y5)) (cond (inB (IntKind.wrap .i64 (shr .u64 (IntKind.wrap .u64 (IntKind.wrap .i64 (y4 + y5))) (1 : Int))) (List.length y1)) ((impl_findSample_1 n (List.getD y1 (Int.toNat (IntKind.wrap .i64 (shr .u64 (IntKind.wrap .u64 (IntKind.wrap .i64 (y4 + y5))) (1 : Int)))) default) y2).bind fun (r8 : Int) => cond (decide (r8 < (0 : Int))) (K (.p9 y1 y2 y3 (IntKind.wrap .i64 ((IntKind.wrap .i64 (shr .u64 (IntKind.wrap .u64 (IntKind.wrap .i64 (y4 + y5))) (1 : Int))) + (1 : Int))) y5)) (K (.p9 y1 y2 y3 y4 (IntKind.wrap .i64 (shr .u64 (IntKind.wrap .u64 (IntKind.wrap .i64 (y4 + y5))) (1 : Int)))))) (none)) (cond (decide (y4 < y3)) (cond (inB y4 (List.length y1)) ((impl_findSample_1 n (List.getD y1 (Int.toNat y4) default) y2).bind fun (r8 : Int) => some (y4, (decide (r8 = (0 : Int))))) (none)) (some (y4, false)))
def slices_BinarySearchFunc_int_impl_findSample_1 (n : Nat) (a0 : List ((Int) × ((Int) × (Unit)))) (a1 : Int) : Option (Tup [(.int .i64), .bool]) := goRec slices_BinarySearchFunc_int_impl_findSample_1.step n (.p0 a0 a1)
def slices_BinarySearchFunc_int_impl_findSample_1.spec : Ctr := ⟨189, [.v (.sl false (.pair (.int .i64) (.pair (.int .i64) .unit))), .v (.int .i64), .fn 190 []], [(.int .i64), .bool], [], none, fun n x => slices_BinarySearchFunc_int_impl_findSample_1 n x.1 x.2.1⟩
theorem slices_BinarySearchFunc_int_impl_findSample_1.seg_eq : SegEq ty gl slices_BinarySearchFunc_int_impl_findSample_1.F slices_BinarySearchFunc_int_impl_findSample_1.md slices_BinarySearchFunc_int_impl_findSample_1.T slices_BinarySearchFunc_int_impl_findSample_1.spec slices_BinarySearchFunc_int_impl_findSample_1.lb slices_BinarySearchFunc_int_impl_findSample_1.st slices_BinarySearchFunc_int_impl_findSample_1.step := by
  intro n goto y; cases y <;> kernel_rfl
theorem slices_BinarySearchFunc_int_impl_findSample_1.text : Text Go.Proofs.Try.prog slices_BinarySearchFunc_int_impl_findSample_1.F slices_BinarySearchFunc_int_impl_findSample_1.spec := textOf Go.Proofs.Try.f189
theorem slices_BinarySearchFunc_int_impl_findSample_1.ok : CtrOK Go.Proofs.Try.prog gl slices_BinarySearchFunc_int_impl_findSample_1.spec :=
  ctr_okS tabs slices_BinarySearchFunc_int_impl_findSample_1.text slices_BinarySearchFunc_int_impl_findSample_1.seg_eq (fun n x => ⟨.p0 x.1 x.2.1, rfl, rfl, rfl⟩) (consC impl_findSample_1.ok (nilC))

/-! loop.example/g00039/impl.findSample -/
def impl_findSample.T : List Ctr := [impl_findSample_1.spec, slices_BinarySearchFunc_int_impl_findSample_1.spec]
def impl_findSample.md : List (Nat × List Md) := [(189, [.v, .v, .fn])]
noncomputable def impl_findSample.F : Fun := ⟨(Go.Proofs.Try.f143.body).getD .skip, [.v (.sl false (.pair (.int .i64) (.pair (.int .i64) .unit))), .v (.int .i64)], [(.tmp 4, (.int .i64)), (.tmp 5, .bool)], [], 0, []⟩
inductive impl_findSample.Pt where
  | p0 (a0 : List ((Int) × ((Int) × (Unit)))) (a1 : Int)
def impl_findSample.lb : impl_findSample.Pt → Nat
  | .p0 _ _ => 0
def impl_findSample.st : impl_findSample.Pt → St
  | .p0 a0 a1 => enter [.v (.sl false (.pair (.int .i64) (.pair (.int .i64) .unit))) a0, .v (.int .i64) a1] 0
def impl_findSample.step (n : Nat) (K : impl_findSample.Pt → Option (Tup [(.int .i64), .bool])) : impl_findSample.Pt → Option (Tup [(.int .i64), .bool])
  | .p0 a0 a1 => (slices_BinarySearchFunc_int_impl_findSample_1 n a0 a1).bind fun r5 => some (r5.1, r5.2)
def impl_findSample (n : Nat) (a0 : List ((Int) × ((Int) × (Unit)))) (a1 : Int) : Option (Tup [(.int .i64), .bool]) := goRec impl_findSample.step n (.p0 a0 a1)
def impl_findSample.spec : Ctr := ⟨143, [.v (.sl false (.pair (.int .i64) (.pair (.int .i64) .unit))), .v (.int .i64)], [(.int .i64), .bool], [], none, fun n x => impl_findSample n x.1 x.2.1⟩
theorem impl_findSample.seg_eq : SegEq ty gl impl_findSample.F impl_findSample.md impl_findSample.T impl_findSample.spec impl_findSample.lb impl_findSample.st impl_findSample.step := by
  intro n goto y; cases y <;> kernel_rfl
theorem impl_findSample.text : Text Go.Proofs.Try.prog impl_findSample.F impl_findSample.spec := textOf Go.Proofs.Try.f143
theorem impl_findSample.ok : CtrOK Go.Proofs.Try.prog gl impl_findSample.spec :=
  ctr_okS tabs impl_findSample.text impl_findSample.seg_eq (fun n x => ⟨.p0 x.1 x.2.1, rfl, rfl, rfl⟩) (consC impl_findSample_1.ok (consC slices_BinarySearchFunc_int_impl_findSample_1.ok (nilC)))

end Go.FP
