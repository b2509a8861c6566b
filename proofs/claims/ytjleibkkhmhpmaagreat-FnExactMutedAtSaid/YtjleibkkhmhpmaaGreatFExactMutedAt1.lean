/- The functions that the law reaches, each as a Lean function and with its contract, part 1. -/
import Derived.Test.YtjleibkkhmhpmaaGreatV1
import Derived.Test.YtjleibkkhmhpmaaGreatV2
import Derived.Test.YtjleibkkhmhpmaaGreatV3
import Derived.Lib.Bytealg
import Derived.Shelf.Lays
import Derived.Shelf.Small.Strs
import Derived.Test.YtjleibkkhmhpmaaGreatProg
open Go Go.VM
namespace Go.NU
set_option maxRecDepth 100000
set_option linter.unusedVariables false
set_option linter.unusedSimpArgs false
def ty : List (Nat × U) := [(1, .oth), (2, (.int .i64)), (3, (.int .i64)), (4, .bool), (5, (.int .u8)), (6, (.int .u8)), (7, (.pair (.int .i64) (.pair (.int .i64) (.pair .bool (.pair (.int .u8) .unit))))), (8, (.pair (.int .i64) (.pair (.int .i64) (.pair .bool (.pair (.int .u8) .unit))))), (9, .str), (10, .str), (11, .str), (12, (.int .u64)), (13, (.pair .str (.pair (.int .u64) .unit))), (14, (.pair .str (.pair (.int .u64) .unit))), (15, .oth), (16, .oth), (17, .oth), (18, (.pair .oth .unit)), (19, (.pair .oth .unit)), (20, .oth), (21, (.int .i32)), (22, (.sl false (.pair .str (.pair (.sl false (.pair .str (.pair (.int .i64) (.pair .str .unit)))) (.pair (.sl false .str) (.pair (.int .i64) (.pair (.int .i64) (.pair (.int .i64) (.pair (.sl false (.int .i64)) (.pair .bool (.pair (.int .i64) .unit))))))))))), (23, (.sl false (.pair (.int .i64) (.pair (.sl false (.pair (.int .i64) (.pair (.int .i64) .unit))) (.pair (.sl false (.pair (.int .i64) (.pair (.int .i64) .unit))) (.pair (.sl false (.pair (.int .i64) (.pair (.int .i64) .unit))) (.pair (.sl false (.pair (.int .i64) (.pair (.int .i64) .unit))) (.pair (.sl false (.pair (.int .i64) (.pair (.int .i64) .unit))) (.pair (.sl false (.int .i64)) .unit))))))))), (24, (.sl false (.pair .str (.pair (.sl false (.pair .str (.pair (.int .i64) (.pair .str .unit)))) (.pair (.int .i64) (.pair (.int .i64) .unit)))))), (25, (.sl false (.pair (.sl false (.pair .str (.pair (.int .i64) (.pair .str .unit)))) (.pair (.sl false (.pair .str (.pair (.int .i64) (.pair .str .unit)))) (.pair (.sl false .str) .unit))))), (26, (.pair (.sl false (.pair .str (.pair (.sl false (.pair .str (.pair (.int .i64) (.pair .str .unit)))) (.pair (.sl false .str) (.pair (.int .i64) (.pair (.int .i64) (.pair (.int .i64) (.pair (.sl false (.int .i64)) (.pair .bool (.pair (.int .i64) .unit)))))))))) (.pair (.sl false (.pair (.int .i64) (.pair (.sl false (.pair (.int .i64) (.pair (.int .i64) .unit))) (.pair (.sl false (.pair (.int .i64) (.pair (.int .i64) .unit))) (.pair (.sl false (.pair (.int .i64) (.pair (.int .i64) .unit))) (.pair (.sl false (.pair (.int .i64) (.pair (.int .i64) .unit))) (.pair (.sl false (.pair (.int .i64) (.pair (.int .i64) .unit))) (.pair (.sl false (.int .i64)) .unit)))))))) (.pair (.sl false (.pair .str (.pair (.sl false (.pair .str (.pair (.int .i64) (.pair .str .unit)))) (.pair (.int .i64) (.pair (.int .i64) .unit))))) (.pair (.sl false (.pair (.sl false (.pair .str (.pair (.int .i64) (.pair .str .unit)))) (.pair (.sl false (.pair .str (.pair (.int .i64) (.pair .str .unit)))) (.pair (.sl false .str) .unit)))) .unit))))), (27, (.pair (.sl false (.pair .str (.pair (.sl false (.pair .str (.pair (.int .i64) (.pair .str .unit)))) (.pair (.sl false .str) (.pair (.int .i64) (.pair (.int .i64) (.pair (.int .i64) (.pair (.sl false (.int .i64)) (.pair .bool (.pair (.int .i64) .unit)))))))))) (.pair (.sl false (.pair (.int .i64) (.pair (.sl false (.pair (.int .i64) (.pair (.int .i64) .unit))) (.pair (.sl false (.pair (.int .i64) (.pair (.int .i64) .unit))) (.pair (.sl false (.pair (.int .i64) (.pair (.int .i64) .unit))) (.pair (.sl false (.pair (.int .i64) (.pair (.int .i64) .unit))) (.pair (.sl false (.pair (.int .i64) (.pair (.int .i64) .unit))) (.pair (.sl false (.int .i64)) .unit)))))))) (.pair (.sl false (.pair .str (.pair (.sl false (.pair .str (.pair (.int .i64) (.pair .str .unit)))) (.pair (.int .i64) (.pair (.int .i64) .unit))))) (.pair (.sl false (.pair (.sl false (.pair .str (.pair (.int .i64) (.pair .str .unit)))) (.pair (.sl false (.pair .str (.pair (.int .i64) (.pair .str .unit)))) (.pair (.sl false .str) .unit)))) .unit))))), (28, .oth), (29, .oth), (30, (.sl false (.pair .str (.pair (.sl false (.pair .str (.pair (.int .i64) (.pair .str .unit)))) (.pair (.sl false .str) (.pair (.int .i64) (.pair (.int .i64) (.pair (.int .i64) (.pair (.sl false (.int .i64)) (.pair .bool (.pair (.int .i64) .unit))))))))))), (31, (.sl false (.pair (.int .i64) (.pair (.sl false (.pair (.int .i64) (.pair (.int .i64) .unit))) (.pair (.sl false (.pair (.int .i64) (.pair (.int .i64) .unit))) (.pair (.sl false (.pair (.int .i64) (.pair (.int .i64) .unit))) (.pair (.sl false (.pair (.int .i64) (.pair (.int .i64) .unit))) (.pair (.sl false (.pair (.int .i64) (.pair (.int .i64) .unit))) (.pair (.sl false (.int .i64)) .unit))))))))), (32, (.sl false (.pair .str (.pair (.sl false (.pair .str (.pair (.int .i64) (.pair .str .unit)))) (.pair (.int .i64) (.pair (.int .i64) .unit)))))), (33, (.sl false (.pair (.sl false (.pair .str (.pair (.int .i64) (.pair .str .unit)))) (.pair (.sl false (.pair .str (.pair (.int .i64) (.pair .str .unit)))) (.pair (.sl false .str) .unit))))), (34, (.pair (.sl false (.pair .str (.pair (.sl false (.pair .str (.pair (.int .i64) (.pair .str .unit)))) (.pair (.sl false .str) (.pair (.int .i64) (.pair (.int .i64) (.pair (.int .i64) (.pair (.sl false (.int .i64)) (.pair .bool (.pair (.int .i64) .unit)))))))))) (.pair (.sl false (.pair (.int .i64) (.pair (.sl false (.pair (.int .i64) (.pair (.int .i64) .unit))) (.pair (.sl false (.pair (.int .i64) (.pair (.int .i64) .unit))) (.pair (.sl false (.pair (.int .i64) (.pair (.int .i64) .unit))) (.pair (.sl false (.pair (.int .i64) (.pair (.int .i64) .unit))) (.pair (.sl false (.pair (.int .i64) (.pair (.int .i64) .unit))) (.pair (.sl false (.int .i64)) .unit)))))))) (.pair (.sl false (.pair .str (.pair (.sl false (.pair .str (.pair (.int .i64) (.pair .str .unit)))) (.pair (.int .i64) (.pair (.int .i64) .unit))))) (.pair (.sl false (.pair (.sl false (.pair .str (.pair (.int .i64) (.pair .str .unit)))) (.pair (.sl false (.pair .str (.pair (.int .i64) (.pair .str .unit)))) (.pair (.sl false .str) .unit)))) .unit))))), (35, (.pair (.sl false (.pair .str (.pair (.sl false (.pair .str (.pair (.int .i64) (.pair .str .unit)))) (.pair (.sl false .str) (.pair (.int .i64) (.pair (.int .i64) (.pair (.int .i64) (.pair (.sl false (.int .i64)) (.pair .bool (.pair (.int .i64) .unit)))))))))) (.pair (.sl false (.pair (.int .i64) (.pair (.sl false (.pair (.int .i64) (.pair (.int .i64) .unit))) (.pair (.sl false (.pair (.int .i64) (.pair (.int .i64) .unit))) (.pair (.sl false (.pair (.int .i64) (.pair (.int .i64) .unit))) (.pair (.sl false (.pair (.int .i64) (.pair (.int .i64) .unit))) (.pair (.sl false (.pair (.int .i64) (.pair (.int .i64) .unit))) (.pair (.sl false (.int .i64)) .unit)))))))) (.pair (.sl false (.pair .str (.pair (.sl false (.pair .str (.pair (.int .i64) (.pair .str .unit)))) (.pair (.int .i64) (.pair (.int .i64) .unit))))) (.pair (.sl false (.pair (.sl false (.pair .str (.pair (.int .i64) (.pair .str .unit)))) (.pair (.sl false (.pair .str (.pair (.int .i64) (.pair .str .unit)))) (.pair (.sl false .str) .unit)))) .unit))))), (36, .oth), (37, .oth), (38, .oth), (39, (.sl false (.pair (.int .i64) (.pair (.int .i64) (.pair (.int .i64) (.pair (.int .i64) .unit)))))), (40, (.pair (.int .i64) (.pair (.int .i64) (.pair (.sl false (.pair (.int .i64) (.pair (.int .i64) (.pair (.int .i64) (.pair (.int .i64) .unit))))) (.pair (.sl false (.pair (.int .i64) (.pair (.int .i64) (.pair (.int .i64) (.pair (.int .i64) .unit))))) .unit))))), (41, (.pair (.int .i64) (.pair (.int .i64) (.pair (.sl false (.pair (.int .i64) (.pair (.int .i64) (.pair (.int .i64) (.pair (.int .i64) .unit))))) (.pair (.sl false (.pair (.int .i64) (.pair (.int .i64) (.pair (.int .i64) (.pair (.int .i64) .unit))))) .unit))))), (42, .oth), (43, .oth), (44, (.sl false (.pair (.int .i64) (.pair (.int .i64) (.pair (.int .i64) (.pair (.int .i64) .unit)))))), (45, (.pair (.int .i64) (.pair (.int .i64) (.pair (.sl false (.pair (.int .i64) (.pair (.int .i64) (.pair (.int .i64) (.pair (.int .i64) .unit))))) (.pair (.sl false (.pair (.int .i64) (.pair (.int .i64) (.pair (.int .i64) (.pair (.int .i64) .unit))))) .unit))))), (46, (.pair (.int .i64) (.pair (.int .i64) (.pair (.sl false (.pair (.int .i64) (.pair (.int .i64) (.pair (.int .i64) (.pair (.int .i64) .unit))))) (.pair (.sl false (.pair (.int .i64) (.pair (.int .i64) (.pair (.int .i64) (.pair (.int .i64) .unit))))) .unit))))), (47, .oth), (48, .oth), (49, .oth), (50, .oth), (51, .oth), (52, (.sl false (.pair .str (.pair .str .unit)))), (53, .oth), (54, .oth), (55, (.sl false (.int .i64))), (56, .oth), (57, .oth), (58, (.sl false (.pair .str (.pair .str .unit)))), (59, .oth), (60, .oth), (61, .oth), (62, .oth), (63, .oth), (64, .oth), (65, .oth), (66, .oth), (67, .oth), (68, .oth), (69, .oth), (70, .oth), (71, .oth), (72, .oth), (73, (.sl false (.pair (.int .i64) (.pair (.int .i64) .unit)))), (74, (.pair (.int .i64) (.pair (.sl false (.pair (.int .i64) (.pair (.int .i64) .unit))) (.pair (.sl false (.pair (.int .i64) (.pair (.int .i64) .unit))) (.pair (.sl false (.pair (.int .i64) (.pair (.int .i64) .unit))) (.pair (.sl false (.pair (.int .i64) (.pair (.int .i64) .unit))) (.pair (.sl false (.pair (.int .i64) (.pair (.int .i64) .unit))) (.pair (.sl false (.int .i64)) .unit)))))))), (75, (.pair (.int .i64) (.pair (.sl false (.pair (.int .i64) (.pair (.int .i64) .unit))) (.pair (.sl false (.pair (.int .i64) (.pair (.int .i64) .unit))) (.pair (.sl false (.pair (.int .i64) (.pair (.int .i64) .unit))) (.pair (.sl false (.pair (.int .i64) (.pair (.int .i64) .unit))) (.pair (.sl false (.pair (.int .i64) (.pair (.int .i64) .unit))) (.pair (.sl false (.int .i64)) .unit)))))))), (76, .oth), (77, (.sl false (.pair .str (.pair (.int .i64) (.pair .str .unit))))), (78, (.sl false .str)), (79, (.pair .str (.pair (.sl false (.pair .str (.pair (.int .i64) (.pair .str .unit)))) (.pair (.sl false .str) (.pair (.int .i64) (.pair (.int .i64) (.pair (.int .i64) (.pair (.sl false (.int .i64)) (.pair .bool (.pair (.int .i64) .unit)))))))))), (80, (.pair .str (.pair (.sl false (.pair .str (.pair (.int .i64) (.pair .str .unit)))) (.pair (.sl false .str) (.pair (.int .i64) (.pair (.int .i64) (.pair (.int .i64) (.pair (.sl false (.int .i64)) (.pair .bool (.pair (.int .i64) .unit)))))))))), (81, .oth), (82, .oth), (83, .oth), (84, .oth), (85, .oth), (86, .oth), (87, .oth), (88, .oth), (89, .oth), (90, .oth), (91, .oth), (92, .oth), (93, .oth), (94, .oth), (95, .oth), (96, (.sl false (.pair .str (.pair (.int .i64) (.pair .str .unit))))), (97, (.pair .str (.pair (.sl false (.pair .str (.pair (.int .i64) (.pair .str .unit)))) (.pair (.sl false .str) (.pair (.int .i64) (.pair (.int .i64) (.pair (.int .i64) (.pair (.sl false (.int .i64)) (.pair .bool (.pair (.int .i64) .unit)))))))))), (98, (.pair .str (.pair (.sl false (.pair .str (.pair (.int .i64) (.pair .str .unit)))) (.pair (.sl false .str) (.pair (.int .i64) (.pair (.int .i64) (.pair (.int .i64) (.pair (.sl false (.int .i64)) (.pair .bool (.pair (.int .i64) .unit)))))))))), (99, .oth), (100, (.pair .str (.pair .str .unit))), (101, (.pair .str (.pair .str .unit))), (102, .oth), (103, .oth), (104, .oth), (105, (.pair .str (.pair .str .unit))), (106, .oth), (107, .oth), (108, .oth), (109, .oth), (110, .oth), (111, .oth), (112, .oth), (113, .oth), (114, (.sl false (.pair (.int .i64) (.pair (.int .i64) .unit)))), (115, (.pair (.int .i64) (.pair (.sl false (.pair (.int .i64) (.pair (.int .i64) .unit))) (.pair (.sl false (.pair (.int .i64) (.pair (.int .i64) .unit))) (.pair (.sl false (.pair (.int .i64) (.pair (.int .i64) .unit))) (.pair (.sl false (.pair (.int .i64) (.pair (.int .i64) .unit))) (.pair (.sl false (.pair (.int .i64) (.pair (.int .i64) .unit))) (.pair (.sl false (.int .i64)) .unit)))))))), (116, (.pair (.int .i64) (.pair (.sl false (.pair (.int .i64) (.pair (.int .i64) .unit))) (.pair (.sl false (.pair (.int .i64) (.pair (.int .i64) .unit))) (.pair (.sl false (.pair (.int .i64) (.pair (.int .i64) .unit))) (.pair (.sl false (.pair (.int .i64) (.pair (.int .i64) .unit))) (.pair (.sl false (.pair (.int .i64) (.pair (.int .i64) .unit))) (.pair (.sl false (.int .i64)) .unit)))))))), (117, .oth), (118, (.pair .str (.pair (.sl false (.pair .str (.pair (.int .i64) (.pair .str .unit)))) (.pair (.int .i64) (.pair (.int .i64) .unit))))), (119, (.pair .str (.pair (.sl false (.pair .str (.pair (.int .i64) (.pair .str .unit)))) (.pair (.int .i64) (.pair (.int .i64) .unit))))), (120, .oth), (121, (.pair (.sl false (.pair .str (.pair (.int .i64) (.pair .str .unit)))) (.pair (.sl false (.pair .str (.pair (.int .i64) (.pair .str .unit)))) (.pair (.sl false .str) .unit)))), (122, (.pair (.sl false (.pair .str (.pair (.int .i64) (.pair .str .unit)))) (.pair (.sl false (.pair .str (.pair (.int .i64) (.pair .str .unit)))) (.pair (.sl false .str) .unit)))), (123, .oth), (124, (.pair .str (.pair (.sl false (.pair .str (.pair (.int .i64) (.pair .str .unit)))) (.pair (.int .i64) (.pair (.int .i64) .unit))))), (125, (.pair .str (.pair (.sl false (.pair .str (.pair (.int .i64) (.pair .str .unit)))) (.pair (.int .i64) (.pair (.int .i64) .unit))))), (126, .oth), (127, .oth), (128, .oth), (129, (.pair (.sl false (.pair .str (.pair (.int .i64) (.pair .str .unit)))) (.pair (.sl false (.pair .str (.pair (.int .i64) (.pair .str .unit)))) (.pair (.sl false .str) .unit)))), (130, (.pair (.sl false (.pair .str (.pair (.int .i64) (.pair .str .unit)))) (.pair (.sl false (.pair .str (.pair (.int .i64) (.pair .str .unit)))) (.pair (.sl false .str) .unit)))), (131, .oth), (132, (.pair (.int .i64) (.pair (.int .i64) .unit))), (133, (.pair (.int .i64) (.pair (.int .i64) .unit))), (134, .oth), (135, .oth), (136, .oth), (137, .oth), (138, .oth), (139, .oth), (140, .oth), (141, .oth), (142, .oth), (143, .oth), (144, .oth), (145, .oth), (146, (.pair (.int .i64) (.pair (.int .i64) (.pair (.int .i64) (.pair (.int .i64) .unit))))), (147, (.pair (.int .i64) (.pair (.int .i64) (.pair (.int .i64) (.pair (.int .i64) .unit))))), (148, .oth), (149, (.pair (.int .i64) (.pair (.int .i64) (.pair (.int .i64) (.pair (.int .i64) .unit))))), (150, .oth), (151, .oth), (152, .oth), (153, .oth), (154, .oth), (155, .oth), (156, .oth), (157, .oth), (158, .oth), (159, .oth), (160, .oth), (161, .oth), (162, .oth), (163, .oth), (164, (.int .u64)), (165, .oth), (166, .oth), (167, (.sl false (.int .u8))), (168, (.pair .str (.pair (.int .i64) (.pair .str .unit)))), (169, (.pair .str (.pair (.int .i64) (.pair .str .unit)))), (170, .oth), (171, .oth), (172, .oth), (173, .oth), (174, .oth), (175, .oth), (176, .oth), (177, .oth), (178, .oth), (179, .oth), (180, .oth), (181, .oth), (182, (.pair (.int .i64) (.pair (.int .i64) (.pair (.int .i64) (.pair (.int .i64) (.pair (.int .i64) (.pair (.int .i64) .unit))))))), (183, (.pair (.int .i64) (.pair (.int .i64) (.pair (.int .i64) (.pair (.int .i64) (.pair (.int .i64) (.pair (.int .i64) .unit))))))), (184, .oth), (185, .oth), (186, .oth), (187, .oth), (188, .oth), (189, .oth), (190, .oth), (191, (.pair .str (.pair (.int .i64) (.pair .str .unit)))), (192, .oth), (193, .oth), (194, .oth), (195, .oth), (196, .oth), (197, .oth), (198, (.int .i64)), (200, .oth), (201, .oth), (202, .oth), (203, .oth), (205, .oth), (206, .oth), (207, (.int .u32)), (208, .oth), (209, (.int .u64)), (210, .oth), (211, (.sl false (.sl false (.int .i64)))), (213, .oth), (214, .oth), (215, (.pair (.int .i64) (.pair (.int .i64) .unit))), (216, .oth), (217, .oth), (218, .oth), (219, .oth), (220, .oth), (221, .oth), (222, (.int .u64)), (223, .oth), (224, .oth), (225, .oth), (226, .oth), (227, .oth), (228, (.sl false (.sl false (.pair (.int .u8) (.pair .bool (.pair .bool .unit)))))), (230, .oth), (231, (.ar 13 (.int .i64))), (232, (.sl false .bool)), (233, .oth), (235, .oth), (236, .oth), (238, .oth), (239, (.pair (.int .u8) (.pair .bool (.pair .bool .unit)))), (240, (.pair (.int .u8) (.pair .bool (.pair .bool .unit)))), (241, (.sl false (.pair (.int .u8) (.pair .bool (.pair .bool .unit))))), (242, .oth), (243, .oth), (244, .oth), (245, (.sl false (.sl false .bool))), (246, .oth), (247, (.pair .oth (.pair .oth (.pair .oth (.pair .str .unit))))), (248, (.pair .oth (.pair .oth (.pair .oth (.pair .str .unit))))), (249, (.ar 0 .oth)), (252, .oth), (253, (.int .u8)), (254, (.int .u8)), (255, .oth), (256, .oth), (257, (.int .i32)), (258, (.int .i32)), (259, (.pair (.int .u64) (.pair (.int .u64) (.pair (.int .u32) (.pair (.int .u8) (.pair (.int .u8) (.pair (.int .u8) (.pair (.int .u8) (.pair .oth (.pair .oth (.pair (.int .i32) (.pair (.int .i32) .unit)))))))))))), (260, (.pair (.int .u64) (.pair (.int .u64) (.pair (.int .u32) (.pair (.int .u8) (.pair (.int .u8) (.pair (.int .u8) (.pair (.int .u8) (.pair .oth (.pair .oth (.pair (.int .i32) (.pair (.int .i32) .unit)))))))))))), (261, .oth)]
def gl : List (Nat × TV) := []
theorem tabs : Tabs Go.Proofs.Tryz.prog ty gl := tabs_of (by kernel_rfl) (by kernel_rfl)
/-! loop.example/g00039/laws.szMatcher -/
def laws_szMatcher.T : List Ctr := []
def laws_szMatcher.md : List (Nat × List Md) := []
noncomputable def laws_szMatcher.F : Fun := ⟨(Go.Proofs.Tryz.f160.body).getD .skip, [.v (.pair .str (.pair (.int .i64) (.pair .str .unit))), .v (.int .i64)], [(.tmp 4, (.int .i64))], [], 0, []⟩
inductive laws_szMatcher.Pt where
  | p0 (a0 : (ByteArray) × ((Int) × ((ByteArray) × (Unit)))) (a1 : Int)
def laws_szMatcher.lb : laws_szMatcher.Pt → Nat
  | .p0 _ _ => 0
def laws_szMatcher.st : laws_szMatcher.Pt → St
  | .p0 a0 a1 => enter [.v (.pair .str (.pair (.int .i64) (.pair .str .unit))) a0, .v (.int .i64) a1] 0
def laws_szMatcher.step (n : Nat) (K : laws_szMatcher.Pt → Option (Tup [(.int .i64)])) : laws_szMatcher.Pt → Option (Tup [(.int .i64)])
  | .p0 a0 a1 => cond (decide ((IntKind.wrap .i64 (a1 - ((ByteArray.size a0.1) : Int))) < (0 : Int))) (some (-(1 : Int))) (cond (decide ((IntKind.wrap .i64 ((IntKind.wrap .i64 (a1 - ((ByteArray.size a0.1) : Int))) - ((ByteArray.size a0.2.2.1) : Int))) < (0 : Int))) (some (-(1 : Int))) (some (IntKind.wrap .i64 ((IntKind.wrap .i64 (a1 - ((ByteArray.size a0.1) : Int))) - ((ByteArray.size a0.2.2.1) : Int)))))
def laws_szMatcher (n : Nat) (a0 : (ByteArray) × ((Int) × ((ByteArray) × (Unit)))) (a1 : Int) : Option (Tup [(.int .i64)]) := goRec laws_szMatcher.step n (.p0 a0 a1)
def laws_szMatcher.spec : Ctr := ⟨160, [.v (.pair .str (.pair (.int .i64) (.pair .str .unit))), .v (.int .i64)], [(.int .i64)], [], fun n x => laws_szMatcher n x.1 x.2.1⟩
theorem laws_szMatcher.seg_eq : SegEq ty gl laws_szMatcher.F laws_szMatcher.md laws_szMatcher.T laws_szMatcher.spec laws_szMatcher.lb laws_szMatcher.st laws_szMatcher.step := by
  intro n goto y; cases y <;> kernel_rfl
theorem laws_szMatcher.text : Text Go.Proofs.Tryz.prog laws_szMatcher.F laws_szMatcher.spec := textOf Go.Proofs.Tryz.f160
theorem laws_szMatcher.ok : CtrOK Go.Proofs.Tryz.prog gl laws_szMatcher.spec :=
  ctr_okS tabs laws_szMatcher.text laws_szMatcher.seg_eq (fun n x => ⟨.p0 x.1 x.2.1, rfl, rfl, rfl⟩) (nilC)

/-! loop.example/g00039/laws.szMatcherS -/
def laws_szMatcherS.T : List Ctr := [laws_szMatcher.spec]
def laws_szMatcherS.md : List (Nat × List Md) := []
noncomputable def laws_szMatcherS.F : Fun := ⟨(Go.Proofs.Tryz.f112.body).getD .skip, [.v (.sl false (.pair .str (.pair (.int .i64) (.pair .str .unit)))), .v (.int .i64)], [(.tmp 4, (.int .i64))], [], 0, [(17, ⟨[0, 1, 5], [], [], false⟩)]⟩
inductive laws_szMatcherS.Pt where
  | p0 (a0 : List ((ByteArray) × ((Int) × ((ByteArray) × (Unit))))) (a1 : Int)
  | p17 (y1 : List ((ByteArray) × ((Int) × ((ByteArray) × (Unit))))) (y2 : Int) (y3 : Int)
def laws_szMatcherS.lb : laws_szMatcherS.Pt → Nat
  | .p0 _ _ => 0
  | .p17 _ _ _ => 17
def laws_szMatcherS.st : laws_szMatcherS.Pt → St
  | .p0 a0 a1 => enter [.v (.sl false (.pair .str (.pair (.int .i64) (.pair .str .unit)))) a0, .v (.int .i64) a1] 0
  | .p17 y1 y2 y3 => ⟨[(0, .im (.sl false (.pair .str (.pair (.int .i64) (.pair .str .unit)))) y1), (1, .im (.int .i64) y2), (5, .im (.int .i64) y3)], [], 0⟩
def laws_szMatcherS.step (n : Nat) (K : laws_szMatcherS.Pt → Option (Tup [(.int .i64)])) : laws_szMatcherS.Pt → Option (Tup [(.int .i64)])
  | .p0 a0 a1 => cond (decide ((IntKind.wrap .i64 (a1 - ((List.length a0) : Int))) < (0 : Int))) (some (-(1 : Int))) (K (.p17 a0 (IntKind.wrap .i64 (a1 - ((List.length a0) : Int))) (0 : Int)))
  | .p17 y1 y2 y3 => cond (decide (y3 < ((List.length y1) : Int))) (cond (inB y3 (List.length y1)) ((laws_szMatcher n (List.getD y1 (Int.toNat y3) default) y2).bind fun (r6 : Int) => cond (decide (r6 < (0 : Int))) (some (-(1 : Int))) (K (.p17 y1 r6 (IntKind.wrap .i64 (y3 + (1 : Int)))))) (none)) (some y2)
def laws_szMatcherS (n : Nat) (a0 : List ((ByteArray) × ((Int) × ((ByteArray) × (Unit))))) (a1 : Int) : Option (Tup [(.int .i64)]) := goRec laws_szMatcherS.step n (.p0 a0 a1)
def laws_szMatcherS.spec : Ctr := ⟨112, [.v (.sl false (.pair .str (.pair (.int .i64) (.pair .str .unit)))), .v (.int .i64)], [(.int .i64)], [], fun n x => laws_szMatcherS n x.1 x.2.1⟩
theorem laws_szMatcherS.seg_eq : SegEq ty gl laws_szMatcherS.F laws_szMatcherS.md laws_szMatcherS.T laws_szMatcherS.spec laws_szMatcherS.lb laws_szMatcherS.st laws_szMatcherS.step := by
  intro n goto y; cases y <;> kernel_rfl
theorem laws_szMatcherS.text : Text Go.Proofs.Tryz.prog laws_szMatcherS.F laws_szMatcherS.spec := textOf Go.Proofs.Tryz.f112
theorem laws_szMatcherS.ok : CtrOK Go.Proofs.Tryz.prog gl laws_szMatcherS.spec :=
  ctr_okS tabs laws_szMatcherS.text laws_szMatcherS.seg_eq (fun n x => ⟨.p0 x.1 x.2.1, rfl, rfl, rfl⟩) (consC laws_szMatcher.ok (nilC))

/-! loop.example/g00039/laws.szStringS -/
def laws_szStringS.T : List Ctr := []
def laws_szStringS.md : List (Nat × List Md) := []
noncomputable def laws_szStringS.F : Fun := ⟨(Go.Proofs.Tryz.f113.body).getD .skip, [.v (.sl false .str), .v (.int .i64)], [(.tmp 4, (.int .i64))], [], 0, [(17, ⟨[0, 1, 5], [], [], false⟩)]⟩
inductive laws_szStringS.Pt where
  | p0 (a0 : List (ByteArray)) (a1 : Int)
  | p17 (y1 : List (ByteArray)) (y2 : Int) (y3 : Int)
def laws_szStringS.lb : laws_szStringS.Pt → Nat
  | .p0 _ _ => 0
  | .p17 _ _ _ => 17
def laws_szStringS.st : laws_szStringS.Pt → St
  | .p0 a0 a1 => enter [.v (.sl false .str) a0, .v (.int .i64) a1] 0
  | .p17 y1 y2 y3 => ⟨[(0, .im (.sl false .str) y1), (1, .im (.int .i64) y2), (5, .im (.int .i64) y3)], [], 0⟩
def laws_szStringS.step (n : Nat) (K : laws_szStringS.Pt → Option (Tup [(.int .i64)])) : laws_szStringS.Pt → Option (Tup [(.int .i64)])
  | .p0 a0 a1 => cond (decide ((IntKind.wrap .i64 (a1 - ((List.length a0) : Int))) < (0 : Int))) (some (-(1 : Int))) (K (.p17 a0 (IntKind.wrap .i64 (a1 - ((List.length a0) : Int))) (0 : Int)))
  | .p17 y1 y2 y3 => cond (decide (y3 < ((List.length y1) : Int))) (cond (inB y3 (List.length y1)) (cond (decide ((IntKind.wrap .i64 (y2 - ((ByteArray.size (List.getD y1 (Int.toNat y3) default)) : Int))) < (0 : Int))) (some (-(1 : Int))) (K (.p17 y1 (IntKind.wrap .i64 (y2 - ((ByteArray.size (List.getD y1 (Int.toNat y3) default)) : Int))) (IntKind.wrap .i64 (y3 + (1 : Int)))))) (none)) (some y2)
def laws_szStringS (n : Nat) (a0 : List (ByteArray)) (a1 : Int) : Option (Tup [(.int .i64)]) := goRec laws_szStringS.step n (.p0 a0 a1)
def laws_szStringS.spec : Ctr := ⟨113, [.v (.sl false .str), .v (.int .i64)], [(.int .i64)], [], fun n x => laws_szStringS n x.1 x.2.1⟩
theorem laws_szStringS.seg_eq : SegEq ty gl laws_szStringS.F laws_szStringS.md laws_szStringS.T laws_szStringS.spec laws_szStringS.lb laws_szStringS.st laws_szStringS.step := by
  intro n goto y; cases y <;> kernel_rfl
theorem laws_szStringS.text : Text Go.Proofs.Tryz.prog laws_szStringS.F laws_szStringS.spec := textOf Go.Proofs.Tryz.f113
theorem laws_szStringS.ok : CtrOK Go.Proofs.Tryz.prog gl laws_szStringS.spec :=
  ctr_okS tabs laws_szStringS.text laws_szStringS.seg_eq (fun n x => ⟨.p0 x.1 x.2.1, rfl, rfl, rfl⟩) (nilC)

/-! loop.example/g00039/laws.szIntS -/
def laws_szIntS.T : List Ctr := []
def laws_szIntS.md : List (Nat × List Md) := []
noncomputable def laws_szIntS.F : Fun := ⟨(Go.Proofs.Tryz.f114.body).getD .skip, [.v (.sl false (.int .i64)), .v (.int .i64)], [(.tmp 4, (.int .i64))], [], 0, []⟩
inductive laws_szIntS.Pt where
  | p0 (a0 : List (Int)) (a1 : Int)
def laws_szIntS.lb : laws_szIntS.Pt → Nat
  | .p0 _ _ => 0
def laws_szIntS.st : laws_szIntS.Pt → St
  | .p0 a0 a1 => enter [.v (.sl false (.int .i64)) a0, .v (.int .i64) a1] 0
def laws_szIntS.step (n : Nat) (K : laws_szIntS.Pt → Option (Tup [(.int .i64)])) : laws_szIntS.Pt → Option (Tup [(.int .i64)])
  | .p0 a0 a1 => cond (decide ((IntKind.wrap .i64 (a1 - ((List.length a0) : Int))) < (0 : Int))) (some (-(1 : Int))) (some (IntKind.wrap .i64 (a1 - ((List.length a0) : Int))))
def laws_szIntS (n : Nat) (a0 : List (Int)) (a1 : Int) : Option (Tup [(.int .i64)]) := goRec laws_szIntS.step n (.p0 a0 a1)
def laws_szIntS.spec : Ctr := ⟨114, [.v (.sl false (.int .i64)), .v (.int .i64)], [(.int .i64)], [], fun n x => laws_szIntS n x.1 x.2.1⟩
theorem laws_szIntS.seg_eq : SegEq ty gl laws_szIntS.F laws_szIntS.md laws_szIntS.T laws_szIntS.spec laws_szIntS.lb laws_szIntS.st laws_szIntS.step := by
  intro n goto y; cases y <;> kernel_rfl
theorem laws_szIntS.text : Text Go.Proofs.Tryz.prog laws_szIntS.F laws_szIntS.spec := textOf Go.Proofs.Tryz.f114
theorem laws_szIntS.ok : CtrOK Go.Proofs.Tryz.prog gl laws_szIntS.spec :=
  ctr_okS tabs laws_szIntS.text laws_szIntS.seg_eq (fun n x => ⟨.p0 x.1 x.2.1, rfl, rfl, rfl⟩) (nilC)

/-! loop.example/g00039/laws.szRoute -/
def laws_szRoute.T : List Ctr := [laws_szMatcherS.spec, laws_szStringS.spec, laws_szIntS.spec]
def laws_szRoute.md : List (Nat × List Md) := []
noncomputable def laws_szRoute.F : Fun := ⟨(Go.Proofs.Tryz.f62.body).getD .skip, [.v (.pair .str (.pair (.sl false (.pair .str (.pair (.int .i64) (.pair .str .unit)))) (.pair (.sl false .str) (.pair (.int .i64) (.pair (.int .i64) (.pair (.int .i64) (.pair (.sl false (.int .i64)) (.pair .bool (.pair (.int .i64) .unit))))))))), .v (.int .i64)], [(.tmp 4, (.int .i64))], [], 0, []⟩
inductive laws_szRoute.Pt where
  | p0 (a0 : (ByteArray) × ((List ((ByteArray) × ((Int) × ((ByteArray) × (Unit))))) × ((List (ByteArray)) × ((Int) × ((Int) × ((Int) × ((List (Int)) × ((Bool) × ((Int) × (Unit)))))))))) (a1 : Int)
def laws_szRoute.lb : laws_szRoute.Pt → Nat
  | .p0 _ _ => 0
def laws_szRoute.st : laws_szRoute.Pt → St
  | .p0 a0 a1 => enter [.v (.pair .str (.pair (.sl false (.pair .str (.pair (.int .i64) (.pair .str .unit)))) (.pair (.sl false .str) (.pair (.int .i64) (.pair (.int .i64) (.pair (.int .i64) (.pair (.sl false (.int .i64)) (.pair .bool (.pair (.int .i64) .unit))))))))) a0, .v (.int .i64) a1] 0
def laws_szRoute.step (n : Nat) (K : laws_szRoute.Pt → Option (Tup [(.int .i64)])) : laws_szRoute.Pt → Option (Tup [(.int .i64)])
  | .p0 a0 a1 => cond (decide ((IntKind.wrap .i64 (a1 - ((ByteArray.size a0.1) : Int))) < (0 : Int))) (some (-(1 : Int))) ((laws_szMatcherS n a0.2.1 (IntKind.wrap .i64 (a1 - ((ByteArray.size a0.1) : Int)))).bind fun (r5 : Int) => cond (decide (r5 < (0 : Int))) (some (-(1 : Int))) ((laws_szStringS n a0.2.2.1 r5).bind fun (r6 : Int) => cond (decide (r6 < (0 : Int))) (some (-(1 : Int))) ((laws_szIntS n a0.2.2.2.2.2.2.1 r6).bind fun (r7 : Int) => cond (decide (r7 < (0 : Int))) (some (-(1 : Int))) (some r7))))
def laws_szRoute (n : Nat) (a0 : (ByteArray) × ((List ((ByteArray) × ((Int) × ((ByteArray) × (Unit))))) × ((List (ByteArray)) × ((Int) × ((Int) × ((Int) × ((List (Int)) × ((Bool) × ((Int) × (Unit)))))))))) (a1 : Int) : Option (Tup [(.int .i64)]) := goRec laws_szRoute.step n (.p0 a0 a1)
def laws_szRoute.spec : Ctr := ⟨62, [.v (.pair .str (.pair (.sl false (.pair .str (.pair (.int .i64) (.pair .str .unit)))) (.pair (.sl false .str) (.pair (.int .i64) (.pair (.int .i64) (.pair (.int .i64) (.pair (.sl false (.int .i64)) (.pair .bool (.pair (.int .i64) .unit))))))))), .v (.int .i64)], [(.int .i64)], [], fun n x => laws_szRoute n x.1 x.2.1⟩
theorem laws_szRoute.seg_eq : SegEq ty gl laws_szRoute.F laws_szRoute.md laws_szRoute.T laws_szRoute.spec laws_szRoute.lb laws_szRoute.st laws_szRoute.step := by
  intro n goto y; cases y <;> kernel_rfl
theorem laws_szRoute.text : Text Go.Proofs.Tryz.prog laws_szRoute.F laws_szRoute.spec := textOf Go.Proofs.Tryz.f62
theorem laws_szRoute.ok : CtrOK Go.Proofs.Tryz.prog gl laws_szRoute.spec :=
  ctr_okS tabs laws_szRoute.text laws_szRoute.seg_eq (fun n x => ⟨.p0 x.1 x.2.1, rfl, rfl, rfl⟩) (consC laws_szMatcherS.ok (consC laws_szStringS.ok (consC laws_szIntS.ok (nilC))))

/-! loop.example/g00039/laws.szRouteS -/
def laws_szRouteS.T : List Ctr := [laws_szRoute.spec]
def laws_szRouteS.md : List (Nat × List Md) := []
noncomputable def laws_szRouteS.F : Fun := ⟨(Go.Proofs.Tryz.f19.body).getD .skip, [.v (.sl false (.pair .str (.pair (.sl false (.pair .str (.pair (.int .i64) (.pair .str .unit)))) (.pair (.sl false .str) (.pair (.int .i64) (.pair (.int .i64) (.pair (.int .i64) (.pair (.sl false (.int .i64)) (.pair .bool (.pair (.int .i64) .unit)))))))))), .v (.int .i64)], [(.tmp 4, (.int .i64))], [], 0, [(17, ⟨[0, 1, 5], [], [], false⟩)]⟩
inductive laws_szRouteS.Pt where
  | p0 (a0 : List ((ByteArray) × ((List ((ByteArray) × ((Int) × ((ByteArray) × (Unit))))) × ((List (ByteArray)) × ((Int) × ((Int) × ((Int) × ((List (Int)) × ((Bool) × ((Int) × (Unit))))))))))) (a1 : Int)
  | p17 (y1 : List ((ByteArray) × ((List ((ByteArray) × ((Int) × ((ByteArray) × (Unit))))) × ((List (ByteArray)) × ((Int) × ((Int) × ((Int) × ((List (Int)) × ((Bool) × ((Int) × (Unit))))))))))) (y2 : Int) (y3 : Int)
def laws_szRouteS.lb : laws_szRouteS.Pt → Nat
  | .p0 _ _ => 0
  | .p17 _ _ _ => 17
def laws_szRouteS.st : laws_szRouteS.Pt → St
  | .p0 a0 a1 => enter [.v (.sl false (.pair .str (.pair (.sl false (.pair .str (.pair (.int .i64) (.pair .str .unit)))) (.pair (.sl false .str) (.pair (.int .i64) (.pair (.int .i64) (.pair (.int .i64) (.pair (.sl false (.int .i64)) (.pair .bool (.pair (.int .i64) .unit)))))))))) a0, .v (.int .i64) a1] 0
  | .p17 y1 y2 y3 => ⟨[(0, .im (.sl false (.pair .str (.pair (.sl false (.pair .str (.pair (.int .i64) (.pair .str .unit)))) (.pair (.sl false .str) (.pair (.int .i64) (.pair (.int .i64) (.pair (.int .i64) (.pair (.sl false (.int .i64)) (.pair .bool (.pair (.int .i64) .unit)))))))))) y1), (1, .im (.int .i64) y2), (5, .im (.int .i64) y3)], [], 0⟩
def laws_szRouteS.step (n : Nat) (K : laws_szRouteS.Pt → Option (Tup [(.int .i64)])) : laws_szRouteS.Pt → Option (Tup [(.int .i64)])
  | .p0 a0 a1 => cond (decide ((IntKind.wrap .i64 (a1 - ((List.length a0) : Int))) < (0 : Int))) (some (-(1 : Int))) (K (.p17 a0 (IntKind.wrap .i64 (a1 - ((List.length a0) : Int))) (0 : Int)))
  | .p17 y1 y2 y3 => cond (decide (y3 < ((List.length y1) : Int))) (cond (inB y3 (List.length y1)) ((laws_szRoute n (List.getD y1 (Int.toNat y3) default) y2).bind fun (r6 : Int) => cond (decide (r6 < (0 : Int))) (some (-(1 : Int))) (K (.p17 y1 r6 (IntKind.wrap .i64 (y3 + (1 : Int)))))) (none)) (some y2)
def laws_szRouteS (n : Nat) (a0 : List ((ByteArray) × ((List ((ByteArray) × ((Int) × ((ByteArray) × (Unit))))) × ((List (ByteArray)) × ((Int) × ((Int) × ((Int) × ((List (Int)) × ((Bool) × ((Int) × (Unit))))))))))) (a1 : Int) : Option (Tup [(.int .i64)]) := goRec laws_szRouteS.step n (.p0 a0 a1)
def laws_szRouteS.spec : Ctr := ⟨19, [.v (.sl false (.pair .str (.pair (.sl false (.pair .str (.pair (.int .i64) (.pair .str .unit)))) (.pair (.sl false .str) (.pair (.int .i64) (.pair (.int .i64) (.pair (.int .i64) (.pair (.sl false (.int .i64)) (.pair .bool (.pair (.int .i64) .unit)))))))))), .v (.int .i64)], [(.int .i64)], [], fun n x => laws_szRouteS n x.1 x.2.1⟩
theorem laws_szRouteS.seg_eq : SegEq ty gl laws_szRouteS.F laws_szRouteS.md laws_szRouteS.T laws_szRouteS.spec laws_szRouteS.lb laws_szRouteS.st laws_szRouteS.step := by
  intro n goto y; cases y <;> kernel_rfl
theorem laws_szRouteS.text : Text Go.Proofs.Tryz.prog laws_szRouteS.F laws_szRouteS.spec := textOf Go.Proofs.Tryz.f19
theorem laws_szRouteS.ok : CtrOK Go.Proofs.Tryz.prog gl laws_szRouteS.spec :=
  ctr_okS tabs laws_szRouteS.text laws_szRouteS.seg_eq (fun n x => ⟨.p0 x.1 x.2.1, rfl, rfl, rfl⟩) (consC laws_szRoute.ok (nilC))

/-! loop.example/g00039/laws.szRangeS -/
def laws_szRangeS.T : List Ctr := []
def laws_szRangeS.md : List (Nat × List Md) := []
noncomputable def laws_szRangeS.F : Fun := ⟨(Go.Proofs.Tryz.f128.body).getD .skip, [.v (.sl false (.pair (.int .i64) (.pair (.int .i64) .unit))), .v (.int .i64)], [(.tmp 4, (.int .i64))], [], 0, []⟩
inductive laws_szRangeS.Pt where
  | p0 (a0 : List ((Int) × ((Int) × (Unit)))) (a1 : Int)
def laws_szRangeS.lb : laws_szRangeS.Pt → Nat
  | .p0 _ _ => 0
def laws_szRangeS.st : laws_szRangeS.Pt → St
  | .p0 a0 a1 => enter [.v (.sl false (.pair (.int .i64) (.pair (.int .i64) .unit))) a0, .v (.int .i64) a1] 0
def laws_szRangeS.step (n : Nat) (K : laws_szRangeS.Pt → Option (Tup [(.int .i64)])) : laws_szRangeS.Pt → Option (Tup [(.int .i64)])
  | .p0 a0 a1 => cond (decide ((IntKind.wrap .i64 (a1 - ((List.length a0) : Int))) < (0 : Int))) (some (-(1 : Int))) (some (IntKind.wrap .i64 (a1 - ((List.length a0) : Int))))
def laws_szRangeS (n : Nat) (a0 : List ((Int) × ((Int) × (Unit)))) (a1 : Int) : Option (Tup [(.int .i64)]) := goRec laws_szRangeS.step n (.p0 a0 a1)
def laws_szRangeS.spec : Ctr := ⟨128, [.v (.sl false (.pair (.int .i64) (.pair (.int .i64) .unit))), .v (.int .i64)], [(.int .i64)], [], fun n x => laws_szRangeS n x.1 x.2.1⟩
theorem laws_szRangeS.seg_eq : SegEq ty gl laws_szRangeS.F laws_szRangeS.md laws_szRangeS.T laws_szRangeS.spec laws_szRangeS.lb laws_szRangeS.st laws_szRangeS.step := by
  intro n goto y; cases y <;> kernel_rfl
theorem laws_szRangeS.text : Text Go.Proofs.Tryz.prog laws_szRangeS.F laws_szRangeS.spec := textOf Go.Proofs.Tryz.f128
theorem laws_szRangeS.ok : CtrOK Go.Proofs.Tryz.prog gl laws_szRangeS.spec :=
  ctr_okS tabs laws_szRangeS.text laws_szRangeS.seg_eq (fun n x => ⟨.p0 x.1 x.2.1, rfl, rfl, rfl⟩) (nilC)

/-! loop.example/g00039/laws.szInterval -/
def laws_szInterval.T : List Ctr := [laws_szIntS.spec, laws_szRangeS.spec]
def laws_szInterval.md : List (Nat × List Md) := []
noncomputable def laws_szInterval.F : Fun := ⟨(Go.Proofs.Tryz.f76.body).getD .skip, [.v (.pair (.int .i64) (.pair (.sl false (.pair (.int .i64) (.pair (.int .i64) .unit))) (.pair (.sl false (.pair (.int .i64) (.pair (.int .i64) .unit))) (.pair (.sl false (.pair (.int .i64) (.pair (.int .i64) .unit))) (.pair (.sl false (.pair (.int .i64) (.pair (.int .i64) .unit))) (.pair (.sl false (.pair (.int .i64) (.pair (.int .i64) .unit))) (.pair (.sl false (.int .i64)) .unit))))))), .v (.int .i64)], [(.tmp 4, (.int .i64))], [], 0, []⟩
inductive laws_szInterval.Pt where
  | p0 (a0 : (Int) × ((List ((Int) × ((Int) × (Unit)))) × ((List ((Int) × ((Int) × (Unit)))) × ((List ((Int) × ((Int) × (Unit)))) × ((List ((Int) × ((Int) × (Unit)))) × ((List ((Int) × ((Int) × (Unit)))) × ((List (Int)) × (Unit)))))))) (a1 : Int)
def laws_szInterval.lb : laws_szInterval.Pt → Nat
  | .p0 _ _ => 0
def laws_szInterval.st : laws_szInterval.Pt → St
  | .p0 a0 a1 => enter [.v (.pair (.int .i64) (.pair (.sl false (.pair (.int .i64) (.pair (.int .i64) .unit))) (.pair (.sl false (.pair (.int .i64) (.pair (.int .i64) .unit))) (.pair (.sl false (.pair (.int .i64) (.pair (.int .i64) .unit))) (.pair (.sl false (.pair (.int .i64) (.pair (.int .i64) .unit))) (.pair (.sl false (.pair (.int .i64) (.pair (.int .i64) .unit))) (.pair (.sl false (.int .i64)) .unit))))))) a0, .v (.int .i64) a1] 0
def laws_szInterval.step (n : Nat) (K : laws_szInterval.Pt → Option (Tup [(.int .i64)])) : laws_szInterval.Pt → Option (Tup [(.int .i64)])
  | .p0 a0 a1 => (laws_szRangeS n a0.2.1 a1).bind fun (r5 : Int) => cond (decide (r5 < (0 : Int))) (some (-(1 : Int))) ((laws_szRangeS n a0.2.2.1 r5).bind fun (r6 : Int) => cond (decide (r6 < (0 : Int))) (some (-(1 : Int))) ((laws_szRangeS n a0.2.2.2.1 r6).bind fun (r7 : Int) => cond (decide (r7 < (0 : Int))) (some (-(1 : Int))) ((laws_szRangeS n a0.2.2.2.2.1 r7).bind fun (r8 : Int) => cond (decide (r8 < (0 : Int))) (some (-(1 : Int))) ((laws_szRangeS n a0.2.2.2.2.2.1 r8).bind fun (r9 : Int) => cond (decide (r9 < (0 : Int))) (some (-(1 : Int))) ((laws_szIntS n a0.2.2.2.2.2.2.1 r9).bind fun (r10 : Int) => cond (decide (r10 < (0 : Int))) (some (-(1 : Int))) (some r10))))))
def laws_szInterval (n : Nat) (a0 : (Int) × ((List ((Int) × ((Int) × (Unit)))) × ((List ((Int) × ((Int) × (Unit)))) × ((List ((Int) × ((Int) × (Unit)))) × ((List ((Int) × ((Int) × (Unit)))) × ((List ((Int) × ((Int) × (Unit)))) × ((List (Int)) × (Unit)))))))) (a1 : Int) : Option (Tup [(.int .i64)]) := goRec laws_szInterval.step n (.p0 a0 a1)
def laws_szInterval.spec : Ctr := ⟨76, [.v (.pair (.int .i64) (.pair (.sl false (.pair (.int .i64) (.pair (.int .i64) .unit))) (.pair (.sl false (.pair (.int .i64) (.pair (.int .i64) .unit))) (.pair (.sl false (.pair (.int .i64) (.pair (.int .i64) .unit))) (.pair (.sl false (.pair (.int .i64) (.pair (.int .i64) .unit))) (.pair (.sl false (.pair (.int .i64) (.pair (.int .i64) .unit))) (.pair (.sl false (.int .i64)) .unit))))))), .v (.int .i64)], [(.int .i64)], [], fun n x => laws_szInterval n x.1 x.2.1⟩
theorem laws_szInterval.seg_eq : SegEq ty gl laws_szInterval.F laws_szInterval.md laws_szInterval.T laws_szInterval.spec laws_szInterval.lb laws_szInterval.st laws_szInterval.step := by
  intro n goto y; cases y <;> kernel_rfl
theorem laws_szInterval.text : Text Go.Proofs.Tryz.prog laws_szInterval.F laws_szInterval.spec := textOf Go.Proofs.Tryz.f76
theorem laws_szInterval.ok : CtrOK Go.Proofs.Tryz.prog gl laws_szInterval.spec :=
  ctr_okS tabs laws_szInterval.text laws_szInterval.seg_eq (fun n x => ⟨.p0 x.1 x.2.1, rfl, rfl, rfl⟩) (consC laws_szIntS.ok (consC laws_szRangeS.ok (nilC)))

/-! loop.example/g00039/laws.szIntervalS -/
def laws_szIntervalS.T : List Ctr := [laws_szInterval.spec]
def laws_szIntervalS.md : List (Nat × List Md) := []
noncomputable def laws_szIntervalS.F : Fun := ⟨(Go.Proofs.Tryz.f32.body).getD .skip, [.v (.sl false (.pair (.int .i64) (.pair (.sl false (.pair (.int .i64) (.pair (.int .i64) .unit))) (.pair (.sl false (.pair (.int .i64) (.pair (.int .i64) .unit))) (.pair (.sl false (.pair (.int .i64) (.pair (.int .i64) .unit))) (.pair (.sl false (.pair (.int .i64) (.pair (.int .i64) .unit))) (.pair (.sl false (.pair (.int .i64) (.pair (.int .i64) .unit))) (.pair (.sl false (.int .i64)) .unit)))))))), .v (.int .i64)], [(.tmp 4, (.int .i64))], [], 0, [(17, ⟨[0, 1, 5], [], [], false⟩)]⟩
inductive laws_szIntervalS.Pt where
  | p0 (a0 : List ((Int) × ((List ((Int) × ((Int) × (Unit)))) × ((List ((Int) × ((Int) × (Unit)))) × ((List ((Int) × ((Int) × (Unit)))) × ((List ((Int) × ((Int) × (Unit)))) × ((List ((Int) × ((Int) × (Unit)))) × ((List (Int)) × (Unit))))))))) (a1 : Int)
  | p17 (y1 : List ((Int) × ((List ((Int) × ((Int) × (Unit)))) × ((List ((Int) × ((Int) × (Unit)))) × ((List ((Int) × ((Int) × (Unit)))) × ((List ((Int) × ((Int) × (Unit)))) × ((List ((Int) × ((Int) × (Unit)))) × ((List (Int)) × (Unit))))))))) (y2 : Int) (y3 : Int)
def laws_szIntervalS.lb : laws_szIntervalS.Pt → Nat
  | .p0 _ _ => 0
  | .p17 _ _ _ => 17
def laws_szIntervalS.st : laws_szIntervalS.Pt → St
  | .p0 a0 a1 => enter [.v (.sl false (.pair (.int .i64) (.pair (.sl false (.pair (.int .i64) (.pair (.int .i64) .unit))) (.pair (.sl false (.pair (.int .i64) (.pair (.int .i64) .unit))) (.pair (.sl false (.pair (.int .i64) (.pair (.int .i64) .unit))) (.pair (.sl false (.pair (.int .i64) (.pair (.int .i64) .unit))) (.pair (.sl false (.pair (.int .i64) (.pair (.int .i64) .unit))) (.pair (.sl false (.int .i64)) .unit)))))))) a0, .v (.int .i64) a1] 0
  | .p17 y1 y2 y3 => ⟨[(0, .im (.sl false (.pair (.int .i64) (.pair (.sl false (.pair (.int .i64) (.pair (.int .i64) .unit))) (.pair (.sl false (.pair (.int .i64) (.pair (.int .i64) .unit))) (.pair (.sl false (.pair (.int .i64) (.pair (.int .i64) .unit))) (.pair (.sl false (.pair (.int .i64) (.pair (.int .i64) .unit))) (.pair (.sl false (.pair (.int .i64) (.pair (.int .i64) .unit))) (.pair (.sl false (.int .i64)) .unit)))))))) y1), (1, .im (.int .i64) y2), (5, .im (.int .i64) y3)], [], 0⟩
def laws_szIntervalS.step (n : Nat) (K : laws_szIntervalS.Pt → Option (Tup [(.int .i64)])) : laws_szIntervalS.Pt → Option (Tup [(.int .i64)])
  | .p0 a0 a1 => cond (decide ((IntKind.wrap .i64 (a1 - ((List.length a0) : Int))) < (0 : Int))) (some (-(1 : Int))) (K (.p17 a0 (IntKind.wrap .i64 (a1 - ((List.length a0) : Int))) (0 : Int)))
  | .p17 y1 y2 y3 => cond (decide (y3 < ((List.length y1) : Int))) (cond (inB y3 (List.length y1)) ((laws_szInterval n (List.getD y1 (Int.toNat y3) default) y2).bind fun (r6 : Int) => cond (decide (r6 < (0 : Int))) (some (-(1 : Int))) (K (.p17 y1 r6 (IntKind.wrap .i64 (y3 + (1 : Int)))))) (none)) (some y2)
def laws_szIntervalS (n : Nat) (a0 : List ((Int) × ((List ((Int) × ((Int) × (Unit)))) × ((List ((Int) × ((Int) × (Unit)))) × ((List ((Int) × ((Int) × (Unit)))) × ((List ((Int) × ((Int) × (Unit)))) × ((List ((Int) × ((Int) × (Unit)))) × ((List (Int)) × (Unit))))))))) (a1 : Int) : Option (Tup [(.int .i64)]) := goRec laws_szIntervalS.step n (.p0 a0 a1)
def laws_szIntervalS.spec : Ctr := ⟨32, [.v (.sl false (.pair (.int .i64) (.pair (.sl false (.pair (.int .i64) (.pair (.int .i64) .unit))) (.pair (.sl false (.pair (.int .i64) (.pair (.int .i64) .unit))) (.pair (.sl false (.pair (.int .i64) (.pair (.int .i64) .unit))) (.pair (.sl false (.pair (.int .i64) (.pair (.int .i64) .unit))) (.pair (.sl false (.pair (.int .i64) (.pair (.int .i64) .unit))) (.pair (.sl false (.int .i64)) .unit)))))))), .v (.int .i64)], [(.int .i64)], [], fun n x => laws_szIntervalS n x.1 x.2.1⟩
theorem laws_szIntervalS.seg_eq : SegEq ty gl laws_szIntervalS.F laws_szIntervalS.md laws_szIntervalS.T laws_szIntervalS.spec laws_szIntervalS.lb laws_szIntervalS.st laws_szIntervalS.step := by
  intro n goto y; cases y <;> kernel_rfl
theorem laws_szIntervalS.text : Text Go.Proofs.Tryz.prog laws_szIntervalS.F laws_szIntervalS.spec := textOf Go.Proofs.Tryz.f32
theorem laws_szIntervalS.ok : CtrOK Go.Proofs.Tryz.prog gl laws_szIntervalS.spec :=
  ctr_okS tabs laws_szIntervalS.text laws_szIntervalS.seg_eq (fun n x => ⟨.p0 x.1 x.2.1, rfl, rfl, rfl⟩) (consC laws_szInterval.ok (nilC))

/-! loop.example/g00039/laws.szSilence -/
def laws_szSilence.T : List Ctr := [laws_szMatcherS.spec]
def laws_szSilence.md : List (Nat × List Md) := []
noncomputable def laws_szSilence.F : Fun := ⟨(Go.Proofs.Tryz.f77.body).getD .skip, [.v (.pair .str (.pair (.sl false (.pair .str (.pair (.int .i64) (.pair .str .unit)))) (.pair (.int .i64) (.pair (.int .i64) .unit)))), .v (.int .i64)], [(.tmp 4, (.int .i64))], [], 0, []⟩
inductive laws_szSilence.Pt where
  | p0 (a0 : (ByteArray) × ((List ((ByteArray) × ((Int) × ((ByteArray) × (Unit))))) × ((Int) × ((Int) × (Unit))))) (a1 : Int)
def laws_szSilence.lb : laws_szSilence.Pt → Nat
  | .p0 _ _ => 0
def laws_szSilence.st : laws_szSilence.Pt → St
  | .p0 a0 a1 => enter [.v (.pair .str (.pair (.sl false (.pair .str (.pair (.int .i64) (.pair .str .unit)))) (.pair (.int .i64) (.pair (.int .i64) .unit)))) a0, .v (.int .i64) a1] 0
def laws_szSilence.step (n : Nat) (K : laws_szSilence.Pt → Option (Tup [(.int .i64)])) : laws_szSilence.Pt → Option (Tup [(.int .i64)])
  | .p0 a0 a1 => cond (decide ((IntKind.wrap .i64 (a1 - ((ByteArray.size a0.1) : Int))) < (0 : Int))) (some (-(1 : Int))) ((laws_szMatcherS n a0.2.1 (IntKind.wrap .i64 (a1 - ((ByteArray.size a0.1) : Int)))).bind fun (r5 : Int) => cond (decide (r5 < (0 : Int))) (some (-(1 : Int))) (some r5))
def laws_szSilence (n : Nat) (a0 : (ByteArray) × ((List ((ByteArray) × ((Int) × ((ByteArray) × (Unit))))) × ((Int) × ((Int) × (Unit))))) (a1 : Int) : Option (Tup [(.int .i64)]) := goRec laws_szSilence.step n (.p0 a0 a1)
def laws_szSilence.spec : Ctr := ⟨77, [.v (.pair .str (.pair (.sl false (.pair .str (.pair (.int .i64) (.pair .str .unit)))) (.pair (.int .i64) (.pair (.int .i64) .unit)))), .v (.int .i64)], [(.int .i64)], [], fun n x => laws_szSilence n x.1 x.2.1⟩
theorem laws_szSilence.seg_eq : SegEq ty gl laws_szSilence.F laws_szSilence.md laws_szSilence.T laws_szSilence.spec laws_szSilence.lb laws_szSilence.st laws_szSilence.step := by
  intro n goto y; cases y <;> kernel_rfl
theorem laws_szSilence.text : Text Go.Proofs.Tryz.prog laws_szSilence.F laws_szSilence.spec := textOf Go.Proofs.Tryz.f77
theorem laws_szSilence.ok : CtrOK Go.Proofs.Tryz.prog gl laws_szSilence.spec :=
  ctr_okS tabs laws_szSilence.text laws_szSilence.seg_eq (fun n x => ⟨.p0 x.1 x.2.1, rfl, rfl, rfl⟩) (consC laws_szMatcherS.ok (nilC))

/-! loop.example/g00039/laws.szSilenceS -/
def laws_szSilenceS.T : List Ctr := [laws_szSilence.spec]
def laws_szSilenceS.md : List (Nat × List Md) := []
noncomputable def laws_szSilenceS.F : Fun := ⟨(Go.Proofs.Tryz.f33.body).getD .skip, [.v (.sl false (.pair .str (.pair (.sl false (.pair .str (.pair (.int .i64) (.pair .str .unit)))) (.pair (.int .i64) (.pair (.int .i64) .unit))))), .v (.int .i64)], [(.tmp 4, (.int .i64))], [], 0, [(17, ⟨[0, 1, 5], [], [], false⟩)]⟩
inductive laws_szSilenceS.Pt where
  | p0 (a0 : List ((ByteArray) × ((List ((ByteArray) × ((Int) × ((ByteArray) × (Unit))))) × ((Int) × ((Int) × (Unit)))))) (a1 : Int)
  | p17 (y1 : List ((ByteArray) × ((List ((ByteArray) × ((Int) × ((ByteArray) × (Unit))))) × ((Int) × ((Int) × (Unit)))))) (y2 : Int) (y3 : Int)
def laws_szSilenceS.lb : laws_szSilenceS.Pt → Nat
  | .p0 _ _ => 0
  | .p17 _ _ _ => 17
def laws_szSilenceS.st : laws_szSilenceS.Pt → St
  | .p0 a0 a1 => enter [.v (.sl false (.pair .str (.pair (.sl false (.pair .str (.pair (.int .i64) (.pair .str .unit)))) (.pair (.int .i64) (.pair (.int .i64) .unit))))) a0, .v (.int .i64) a1] 0
  | .p17 y1 y2 y3 => ⟨[(0, .im (.sl false (.pair .str (.pair (.sl false (.pair .str (.pair (.int .i64) (.pair .str .unit)))) (.pair (.int .i64) (.pair (.int .i64) .unit))))) y1), (1, .im (.int .i64) y2), (5, .im (.int .i64) y3)], [], 0⟩
def laws_szSilenceS.step (n : Nat) (K : laws_szSilenceS.Pt → Option (Tup [(.int .i64)])) : laws_szSilenceS.Pt → Option (Tup [(.int .i64)])
  | .p0 a0 a1 => cond (decide ((IntKind.wrap .i64 (a1 - ((List.length a0) : Int))) < (0 : Int))) (some (-(1 : Int))) (K (.p17 a0 (IntKind.wrap .i64 (a1 - ((List.length a0) : Int))) (0 : Int)))
  | .p17 y1 y2 y3 => cond (decide (y3 < ((List.length y1) : Int))) (cond (inB y3 (List.length y1)) ((laws_szSilence n (List.getD y1 (Int.toNat y3) default) y2).bind fun (r6 : Int) => cond (decide (r6 < (0 : Int))) (some (-(1 : Int))) (K (.p17 y1 r6 (IntKind.wrap .i64 (y3 + (1 : Int)))))) (none)) (some y2)
def laws_szSilenceS (n : Nat) (a0 : List ((ByteArray) × ((List ((ByteArray) × ((Int) × ((ByteArray) × (Unit))))) × ((Int) × ((Int) × (Unit)))))) (a1 : Int) : Option (Tup [(.int .i64)]) := goRec laws_szSilenceS.step n (.p0 a0 a1)
def laws_szSilenceS.spec : Ctr := ⟨33, [.v (.sl false (.pair .str (.pair (.sl false (.pair .str (.pair (.int .i64) (.pair .str .unit)))) (.pair (.int .i64) (.pair (.int .i64) .unit))))), .v (.int .i64)], [(.int .i64)], [], fun n x => laws_szSilenceS n x.1 x.2.1⟩
theorem laws_szSilenceS.seg_eq : SegEq ty gl laws_szSilenceS.F laws_szSilenceS.md laws_szSilenceS.T laws_szSilenceS.spec laws_szSilenceS.lb laws_szSilenceS.st laws_szSilenceS.step := by
  intro n goto y; cases y <;> kernel_rfl
theorem laws_szSilenceS.text : Text Go.Proofs.Tryz.prog laws_szSilenceS.F laws_szSilenceS.spec := textOf Go.Proofs.Tryz.f33
theorem laws_szSilenceS.ok : CtrOK Go.Proofs.Tryz.prog gl laws_szSilenceS.spec :=
  ctr_okS tabs laws_szSilenceS.text laws_szSilenceS.seg_eq (fun n x => ⟨.p0 x.1 x.2.1, rfl, rfl, rfl⟩) (consC laws_szSilence.ok (nilC))

/-! loop.example/g00039/laws.szInhibit -/
def laws_szInhibit.T : List Ctr := [laws_szMatcherS.spec, laws_szStringS.spec]
def laws_szInhibit.md : List (Nat × List Md) := []
noncomputable def laws_szInhibit.F : Fun := ⟨(Go.Proofs.Tryz.f78.body).getD .skip, [.v (.pair (.sl false (.pair .str (.pair (.int .i64) (.pair .str .unit)))) (.pair (.sl false (.pair .str (.pair (.int .i64) (.pair .str .unit)))) (.pair (.sl false .str) .unit))), .v (.int .i64)], [(.tmp 4, (.int .i64))], [], 0, []⟩
inductive laws_szInhibit.Pt where
  | p0 (a0 : (List ((ByteArray) × ((Int) × ((ByteArray) × (Unit))))) × ((List ((ByteArray) × ((Int) × ((ByteArray) × (Unit))))) × ((List (ByteArray)) × (Unit)))) (a1 : Int)
def laws_szInhibit.lb : laws_szInhibit.Pt → Nat
  | .p0 _ _ => 0
def laws_szInhibit.st : laws_szInhibit.Pt → St
  | .p0 a0 a1 => enter [.v (.pair (.sl false (.pair .str (.pair (.int .i64) (.pair .str .unit)))) (.pair (.sl false (.pair .str (.pair (.int .i64) (.pair .str .unit)))) (.pair (.sl false .str) .unit))) a0, .v (.int .i64) a1] 0
def laws_szInhibit.step (n : Nat) (K : laws_szInhibit.Pt → Option (Tup [(.int .i64)])) : laws_szInhibit.Pt → Option (Tup [(.int .i64)])
  | .p0 a0 a1 => (laws_szMatcherS n a0.1 a1).bind fun (r5 : Int) => cond (decide (r5 < (0 : Int))) (some (-(1 : Int))) ((laws_szMatcherS n a0.2.1 r5).bind fun (r6 : Int) => cond (decide (r6 < (0 : Int))) (some (-(1 : Int))) ((laws_szStringS n a0.2.2.1 r6).bind fun (r7 : Int) => cond (decide (r7 < (0 : Int))) (some (-(1 : Int))) (some r7)))
def laws_szInhibit (n : Nat) (a0 : (List ((ByteArray) × ((Int) × ((ByteArray) × (Unit))))) × ((List ((ByteArray) × ((Int) × ((ByteArray) × (Unit))))) × ((List (ByteArray)) × (Unit)))) (a1 : Int) : Option (Tup [(.int .i64)]) := goRec laws_szInhibit.step n (.p0 a0 a1)
def laws_szInhibit.spec : Ctr := ⟨78, [.v (.pair (.sl false (.pair .str (.pair (.int .i64) (.pair .str .unit)))) (.pair (.sl false (.pair .str (.pair (.int .i64) (.pair .str .unit)))) (.pair (.sl false .str) .unit))), .v (.int .i64)], [(.int .i64)], [], fun n x => laws_szInhibit n x.1 x.2.1⟩
theorem laws_szInhibit.seg_eq : SegEq ty gl laws_szInhibit.F laws_szInhibit.md laws_szInhibit.T laws_szInhibit.spec laws_szInhibit.lb laws_szInhibit.st laws_szInhibit.step := by
  intro n goto y; cases y <;> kernel_rfl
theorem laws_szInhibit.text : Text Go.Proofs.Tryz.prog laws_szInhibit.F laws_szInhibit.spec := textOf Go.Proofs.Tryz.f78
theorem laws_szInhibit.ok : CtrOK Go.Proofs.Tryz.prog gl laws_szInhibit.spec :=
  ctr_okS tabs laws_szInhibit.text laws_szInhibit.seg_eq (fun n x => ⟨.p0 x.1 x.2.1, rfl, rfl, rfl⟩) (consC laws_szMatcherS.ok (consC laws_szStringS.ok (nilC)))

/-! loop.example/g00039/laws.szInhibitS -/
def laws_szInhibitS.T : List Ctr := [laws_szInhibit.spec]
def laws_szInhibitS.md : List (Nat × List Md) := []
noncomputable def laws_szInhibitS.F : Fun := ⟨(Go.Proofs.Tryz.f34.body).getD .skip, [.v (.sl false (.pair (.sl false (.pair .str (.pair (.int .i64) (.pair .str .unit)))) (.pair (.sl false (.pair .str (.pair (.int .i64) (.pair .str .unit)))) (.pair (.sl false .str) .unit)))), .v (.int .i64)], [(.tmp 4, (.int .i64))], [], 0, [(17, ⟨[0, 1, 5], [], [], false⟩)]⟩
inductive laws_szInhibitS.Pt where
  | p0 (a0 : List ((List ((ByteArray) × ((Int) × ((ByteArray) × (Unit))))) × ((List ((ByteArray) × ((Int) × ((ByteArray) × (Unit))))) × ((List (ByteArray)) × (Unit))))) (a1 : Int)
  | p17 (y1 : List ((List ((ByteArray) × ((Int) × ((ByteArray) × (Unit))))) × ((List ((ByteArray) × ((Int) × ((ByteArray) × (Unit))))) × ((List (ByteArray)) × (Unit))))) (y2 : Int) (y3 : Int)
def laws_szInhibitS.lb : laws_szInhibitS.Pt → Nat
  | .p0 _ _ => 0
  | .p17 _ _ _ => 17
def laws_szInhibitS.st : laws_szInhibitS.Pt → St
  | .p0 a0 a1 => enter [.v (.sl false (.pair (.sl false (.pair .str (.pair (.int .i64) (.pair .str .unit)))) (.pair (.sl false (.pair .str (.pair (.int .i64) (.pair .str .unit)))) (.pair (.sl false .str) .unit)))) a0, .v (.int .i64) a1] 0
  | .p17 y1 y2 y3 => ⟨[(0, .im (.sl false (.pair (.sl false (.pair .str (.pair (.int .i64) (.pair .str .unit)))) (.pair (.sl false (.pair .str (.pair (.int .i64) (.pair .str .unit)))) (.pair (.sl false .str) .unit)))) y1), (1, .im (.int .i64) y2), (5, .im (.int .i64) y3)], [], 0⟩
def laws_szInhibitS.step (n : Nat) (K : laws_szInhibitS.Pt → Option (Tup [(.int .i64)])) : laws_szInhibitS.Pt → Option (Tup [(.int .i64)])
  | .p0 a0 a1 => cond (decide ((IntKind.wrap .i64 (a1 - ((List.length a0) : Int))) < (0 : Int))) (some (-(1 : Int))) (K (.p17 a0 (IntKind.wrap .i64 (a1 - ((List.length a0) : Int))) (0 : Int)))
  | .p17 y1 y2 y3 => cond (decide (y3 < ((List.length y1) : Int))) (cond (inB y3 (List.length y1)) ((laws_szInhibit n ((List.getD y1 (Int.toNat y3) default).1, ((List.getD y1 (Int.toNat y3) default).2.1, ((List.getD y1 (Int.toNat y3) default).2.2.1, ()))) y2).bind fun (r6 : Int) => cond (decide (r6 < (0 : Int))) (some (-(1 : Int))) (K (.p17 y1 r6 (IntKind.wrap .i64 (y3 + (1 : Int)))))) (none)) (some y2)
def laws_szInhibitS (n : Nat) (a0 : List ((List ((ByteArray) × ((Int) × ((ByteArray) × (Unit))))) × ((List ((ByteArray) × ((Int) × ((ByteArray) × (Unit))))) × ((List (ByteArray)) × (Unit))))) (a1 : Int) : Option (Tup [(.int .i64)]) := goRec laws_szInhibitS.step n (.p0 a0 a1)
def laws_szInhibitS.spec : Ctr := ⟨34, [.v (.sl false (.pair (.sl false (.pair .str (.pair (.int .i64) (.pair .str .unit)))) (.pair (.sl false (.pair .str (.pair (.int .i64) (.pair .str .unit)))) (.pair (.sl false .str) .unit)))), .v (.int .i64)], [(.int .i64)], [], fun n x => laws_szInhibitS n x.1 x.2.1⟩
theorem laws_szInhibitS.seg_eq : SegEq ty gl laws_szInhibitS.F laws_szInhibitS.md laws_szInhibitS.T laws_szInhibitS.spec laws_szInhibitS.lb laws_szInhibitS.st laws_szInhibitS.step := by
  intro n goto y; cases y <;> kernel_rfl
theorem laws_szInhibitS.text : Text Go.Proofs.Tryz.prog laws_szInhibitS.F laws_szInhibitS.spec := textOf Go.Proofs.Tryz.f34
theorem laws_szInhibitS.ok : CtrOK Go.Proofs.Tryz.prog gl laws_szInhibitS.spec :=
  ctr_okS tabs laws_szInhibitS.text laws_szInhibitS.seg_eq (fun n x => ⟨.p0 x.1 x.2.1, rfl, rfl, rfl⟩) (consC laws_szInhibit.ok (nilC))

/-! loop.example/g00039/laws.szNotifyConf -/
def laws_szNotifyConf.T : List Ctr := [laws_szRouteS.spec, laws_szIntervalS.spec, laws_szSilenceS.spec, laws_szInhibitS.spec]
def laws_szNotifyConf.md : List (Nat × List Md) := []
noncomputable def laws_szNotifyConf.F : Fun := ⟨(Go.Proofs.Tryz.f7.body).getD .skip, [.v (.pair (.sl false (.pair .str (.pair (.sl false (.pair .str (.pair (.int .i64) (.pair .str .unit)))) (.pair (.sl false .str) (.pair (.int .i64) (.pair (.int .i64) (.pair (.int .i64) (.pair (.sl false (.int .i64)) (.pair .bool (.pair (.int .i64) .unit)))))))))) (.pair (.sl false (.pair (.int .i64) (.pair (.sl false (.pair (.int .i64) (.pair (.int .i64) .unit))) (.pair (.sl false (.pair (.int .i64) (.pair (.int .i64) .unit))) (.pair (.sl false (.pair (.int .i64) (.pair (.int .i64) .unit))) (.pair (.sl false (.pair (.int .i64) (.pair (.int .i64) .unit))) (.pair (.sl false (.pair (.int .i64) (.pair (.int .i64) .unit))) (.pair (.sl false (.int .i64)) .unit)))))))) (.pair (.sl false (.pair .str (.pair (.sl false (.pair .str (.pair (.int .i64) (.pair .str .unit)))) (.pair (.int .i64) (.pair (.int .i64) .unit))))) (.pair (.sl false (.pair (.sl false (.pair .str (.pair (.int .i64) (.pair .str .unit)))) (.pair (.sl false (.pair .str (.pair (.int .i64) (.pair .str .unit)))) (.pair (.sl false .str) .unit)))) .unit)))), .v (.int .i64)], [(.tmp 4, (.int .i64))], [], 0, []⟩
inductive laws_szNotifyConf.Pt where
  | p0 (a0 : (List ((ByteArray) × ((List ((ByteArray) × ((Int) × ((ByteArray) × (Unit))))) × ((List (ByteArray)) × ((Int) × ((Int) × ((Int) × ((List (Int)) × ((Bool) × ((Int) × (Unit))))))))))) × ((List ((Int) × ((List ((Int) × ((Int) × (Unit)))) × ((List ((Int) × ((Int) × (Unit)))) × ((List ((Int) × ((Int) × (Unit)))) × ((List ((Int) × ((Int) × (Unit)))) × ((List ((Int) × ((Int) × (Unit)))) × ((List (Int)) × (Unit))))))))) × ((List ((ByteArray) × ((List ((ByteArray) × ((Int) × ((ByteArray) × (Unit))))) × ((Int) × ((Int) × (Unit)))))) × ((List ((List ((ByteArray) × ((Int) × ((ByteArray) × (Unit))))) × ((List ((ByteArray) × ((Int) × ((ByteArray) × (Unit))))) × ((List (ByteArray)) × (Unit))))) × (Unit))))) (a1 : Int)
def laws_szNotifyConf.lb : laws_szNotifyConf.Pt → Nat
  | .p0 _ _ => 0
def laws_szNotifyConf.st : laws_szNotifyConf.Pt → St
  | .p0 a0 a1 => enter [.v (.pair (.sl false (.pair .str (.pair (.sl false (.pair .str (.pair (.int .i64) (.pair .str .unit)))) (.pair (.sl false .str) (.pair (.int .i64) (.pair (.int .i64) (.pair (.int .i64) (.pair (.sl false (.int .i64)) (.pair .bool (.pair (.int .i64) .unit)))))))))) (.pair (.sl false (.pair (.int .i64) (.pair (.sl false (.pair (.int .i64) (.pair (.int .i64) .unit))) (.pair (.sl false (.pair (.int .i64) (.pair (.int .i64) .unit))) (.pair (.sl false (.pair (.int .i64) (.pair (.int .i64) .unit))) (.pair (.sl false (.pair (.int .i64) (.pair (.int .i64) .unit))) (.pair (.sl false (.pair (.int .i64) (.pair (.int .i64) .unit))) (.pair (.sl false (.int .i64)) .unit)))))))) (.pair (.sl false (.pair .str (.pair (.sl false (.pair .str (.pair (.int .i64) (.pair .str .unit)))) (.pair (.int .i64) (.pair (.int .i64) .unit))))) (.pair (.sl false (.pair (.sl false (.pair .str (.pair (.int .i64) (.pair .str .unit)))) (.pair (.sl false (.pair .str (.pair (.int .i64) (.pair .str .unit)))) (.pair (.sl false .str) .unit)))) .unit)))) a0, .v (.int .i64) a1] 0
def laws_szNotifyConf.step (n : Nat) (K : laws_szNotifyConf.Pt → Option (Tup [(.int .i64)])) : laws_szNotifyConf.Pt → Option (Tup [(.int .i64)])
  | .p0 a0 a1 => (laws_szRouteS n a0.1 a1).bind fun (r5 : Int) => cond (decide (r5 < (0 : Int))) (some (-(1 : Int))) ((laws_szIntervalS n a0.2.1 r5).bind fun (r6 : Int) => cond (decide (r6 < (0 : Int))) (some (-(1 : Int))) ((laws_szSilenceS n a0.2.2.1 r6).bind fun (r7 : Int) => cond (decide (r7 < (0 : Int))) (some (-(1 : Int))) ((laws_szInhibitS n a0.2.2.2.1 r7).bind fun (r8 : Int) => cond (decide (r8 < (0 : Int))) (some (-(1 : Int))) (some r8))))
def laws_szNotifyConf (n : Nat) (a0 : (List ((ByteArray) × ((List ((ByteArray) × ((Int) × ((ByteArray) × (Unit))))) × ((List (ByteArray)) × ((Int) × ((Int) × ((Int) × ((List (Int)) × ((Bool) × ((Int) × (Unit))))))))))) × ((List ((Int) × ((List ((Int) × ((Int) × (Unit)))) × ((List ((Int) × ((Int) × (Unit)))) × ((List ((Int) × ((Int) × (Unit)))) × ((List ((Int) × ((Int) × (Unit)))) × ((List ((Int) × ((Int) × (Unit)))) × ((List (Int)) × (Unit))))))))) × ((List ((ByteArray) × ((List ((ByteArray) × ((Int) × ((ByteArray) × (Unit))))) × ((Int) × ((Int) × (Unit)))))) × ((List ((List ((ByteArray) × ((Int) × ((ByteArray) × (Unit))))) × ((List ((ByteArray) × ((Int) × ((ByteArray) × (Unit))))) × ((List (ByteArray)) × (Unit))))) × (Unit))))) (a1 : Int) : Option (Tup [(.int .i64)]) := goRec laws_szNotifyConf.step n (.p0 a0 a1)
def laws_szNotifyConf.spec : Ctr := ⟨7, [.v (.pair (.sl false (.pair .str (.pair (.sl false (.pair .str (.pair (.int .i64) (.pair .str .unit)))) (.pair (.sl false .str) (.pair (.int .i64) (.pair (.int .i64) (.pair (.int .i64) (.pair (.sl false (.int .i64)) (.pair .bool (.pair (.int .i64) .unit)))))))))) (.pair (.sl false (.pair (.int .i64) (.pair (.sl false (.pair (.int .i64) (.pair (.int .i64) .unit))) (.pair (.sl false (.pair (.int .i64) (.pair (.int .i64) .unit))) (.pair (.sl false (.pair (.int .i64) (.pair (.int .i64) .unit))) (.pair (.sl false (.pair (.int .i64) (.pair (.int .i64) .unit))) (.pair (.sl false (.pair (.int .i64) (.pair (.int .i64) .unit))) (.pair (.sl false (.int .i64)) .unit)))))))) (.pair (.sl false (.pair .str (.pair (.sl false (.pair .str (.pair (.int .i64) (.pair .str .unit)))) (.pair (.int .i64) (.pair (.int .i64) .unit))))) (.pair (.sl false (.pair (.sl false (.pair .str (.pair (.int .i64) (.pair .str .unit)))) (.pair (.sl false (.pair .str (.pair (.int .i64) (.pair .str .unit)))) (.pair (.sl false .str) .unit)))) .unit)))), .v (.int .i64)], [(.int .i64)], [], fun n x => laws_szNotifyConf n x.1 x.2.1⟩
theorem laws_szNotifyConf.seg_eq : SegEq ty gl laws_szNotifyConf.F laws_szNotifyConf.md laws_szNotifyConf.T laws_szNotifyConf.spec laws_szNotifyConf.lb laws_szNotifyConf.st laws_szNotifyConf.step := by
  intro n goto y; cases y <;> kernel_rfl
theorem laws_szNotifyConf.text : Text Go.Proofs.Tryz.prog laws_szNotifyConf.F laws_szNotifyConf.spec := textOf Go.Proofs.Tryz.f7
theorem laws_szNotifyConf.ok : CtrOK Go.Proofs.Tryz.prog gl laws_szNotifyConf.spec :=
  ctr_okS tabs laws_szNotifyConf.text laws_szNotifyConf.seg_eq (fun n x => ⟨.p0 x.1 x.2.1, rfl, rfl, rfl⟩) (consC laws_szRouteS.ok (consC laws_szIntervalS.ok (consC laws_szSilenceS.ok (consC laws_szInhibitS.ok (nilC)))))

/-! loop.example/g00039/laws.toMatcher -/
def laws_toMatcher.T : List Ctr := []
def laws_toMatcher.md : List (Nat × List Md) := []
noncomputable def laws_toMatcher.F : Fun := ⟨(Go.Proofs.Tryz.f163.body).getD .skip, [.v (.pair .str (.pair (.int .i64) (.pair .str .unit)))], [(.cell 2 169, (.pair .str (.pair (.int .i64) (.pair .str .unit))))], [], 0, []⟩
inductive laws_toMatcher.Pt where
  | p0 (a0 : (ByteArray) × ((Int) × ((ByteArray) × (Unit))))
def laws_toMatcher.lb : laws_toMatcher.Pt → Nat
  | .p0 _ => 0
def laws_toMatcher.st : laws_toMatcher.Pt → St
  | .p0 a0 => enter [.v (.pair .str (.pair (.int .i64) (.pair .str .unit))) a0] 0
def laws_toMatcher.step (n : Nat) (K : laws_toMatcher.Pt → Option (Tup [(.pair .str (.pair (.int .i64) (.pair .str .unit)))])) : laws_toMatcher.Pt → Option (Tup [(.pair .str (.pair (.int .i64) (.pair .str .unit)))])
  | .p0 a0 => some a0
def laws_toMatcher (n : Nat) (a0 : (ByteArray) × ((Int) × ((ByteArray) × (Unit)))) : Option (Tup [(.pair .str (.pair (.int .i64) (.pair .str .unit)))]) := goRec laws_toMatcher.step n (.p0 a0)
def laws_toMatcher.spec : Ctr := ⟨163, [.v (.pair .str (.pair (.int .i64) (.pair .str .unit)))], [(.pair .str (.pair (.int .i64) (.pair .str .unit)))], [], fun n x => laws_toMatcher n x.1⟩
theorem laws_toMatcher.seg_eq : SegEq ty gl laws_toMatcher.F laws_toMatcher.md laws_toMatcher.T laws_toMatcher.spec laws_toMatcher.lb laws_toMatcher.st laws_toMatcher.step := by
  intro n goto y; cases y <;> kernel_rfl
theorem laws_toMatcher.text : Text Go.Proofs.Tryz.prog laws_toMatcher.F laws_toMatcher.spec := textOf Go.Proofs.Tryz.f163
theorem laws_toMatcher.ok : CtrOK Go.Proofs.Tryz.prog gl laws_toMatcher.spec :=
  ctr_okS tabs laws_toMatcher.text laws_toMatcher.seg_eq (fun n x => ⟨.p0 x.1, rfl, rfl, rfl⟩) (nilC)

/-! loop.example/g00039/laws.toMatcherS -/
def laws_toMatcherS.T : List Ctr := [laws_toMatcher.spec]
def laws_toMatcherS.md : List (Nat × List Md) := []
noncomputable def laws_toMatcherS.F : Fun := ⟨(Go.Proofs.Tryz.f117.body).getD .skip, [.v (.sl false (.pair .str (.pair (.int .i64) (.pair .str .unit))))], [(.tmp 2, (.sl false (.pair .str (.pair (.int .i64) (.pair .str .unit)))))], [], 0, [(9, ⟨[0, 3, 4], [(3, (.pair .str (.pair (.int .i64) (.pair .str .unit))))], [], false⟩)]⟩
inductive laws_toMatcherS.Pt where
  | p0 (a0 : List ((ByteArray) × ((Int) × ((ByteArray) × (Unit)))))
  | p9 (y1 : List ((ByteArray) × ((Int) × ((ByteArray) × (Unit))))) (y2 : Int) (y3 : List ((ByteArray) × ((Int) × ((ByteArray) × (Unit)))))
def laws_toMatcherS.lb : laws_toMatcherS.Pt → Nat
  | .p0 _ => 0
  | .p9 _ _ _ => 9
def laws_toMatcherS.st : laws_toMatcherS.Pt → St
  | .p0 a0 => enter [.v (.sl false (.pair .str (.pair (.int .i64) (.pair .str .unit)))) a0] 0
  | .p9 y1 y2 y3 => ⟨[(0, .im (.sl false (.pair .str (.pair (.int .i64) (.pair .str .unit)))) y1), (3, .hs 0 [] none 0), (4, .im (.int .i64) y2)], [(0, .arr false (.pair .str (.pair (.int .i64) (.pair .str .unit))) y3 0)], 1⟩
def laws_toMatcherS.step (n : Nat) (K : laws_toMatcherS.Pt → Option (Tup [(.sl false (.pair .str (.pair (.int .i64) (.pair .str .unit))))])) : laws_toMatcherS.Pt → Option (Tup [(.sl false (.pair .str (.pair (.int .i64) (.pair .str .unit))))])
  | .p0 a0 => cond (inC ((List.length a0) : Int) ((List.length a0) : Int) 1000000000) (K (.p9 a0 (0 : Int) (List.replicate (Int.toNat ((List.length a0) : Int)) (default : (ByteArray) × ((Int) × ((ByteArray) × (Unit))))))) (none)
  | .p9 y1 y2 y3 => cond (decide (y2 < ((List.length y1) : Int))) (cond (inB y2 (List.length y1)) ((laws_toMatcher n (List.getD y1 (Int.toNat y2) default)).bind fun r6 => cond (inB y2 (List.length y3)) (K (.p9 y1 (IntKind.wrap .i64 (y2 + (1 : Int))) (List.set y3 (0 + (Int.toNat y2)) r6))) (none)) (none)) (some y3)
def laws_toMatcherS (n : Nat) (a0 : List ((ByteArray) × ((Int) × ((ByteArray) × (Unit))))) : Option (Tup [(.sl false (.pair .str (.pair (.int .i64) (.pair .str .unit))))]) := goRec laws_toMatcherS.step n (.p0 a0)
def laws_toMatcherS.spec : Ctr := ⟨117, [.v (.sl false (.pair .str (.pair (.int .i64) (.pair .str .unit))))], [(.sl false (.pair .str (.pair (.int .i64) (.pair .str .unit))))], [], fun n x => laws_toMatcherS n x.1⟩
theorem laws_toMatcherS.seg_eq : SegEq ty gl laws_toMatcherS.F laws_toMatcherS.md laws_toMatcherS.T laws_toMatcherS.spec laws_toMatcherS.lb laws_toMatcherS.st laws_toMatcherS.step := by
  intro n goto y; cases y <;> kernel_rfl
theorem laws_toMatcherS.text : Text Go.Proofs.Tryz.prog laws_toMatcherS.F laws_toMatcherS.spec := textOf Go.Proofs.Tryz.f117
theorem laws_toMatcherS.ok : CtrOK Go.Proofs.Tryz.prog gl laws_toMatcherS.spec :=
  ctr_okS tabs laws_toMatcherS.text laws_toMatcherS.seg_eq (fun n x => ⟨.p0 x.1, rfl, rfl, rfl⟩) (consC laws_toMatcher.ok (nilC))

/-! loop.example/g00039/laws.toStringS -/
def laws_toStringS.T : List Ctr := []
def laws_toStringS.md : List (Nat × List Md) := []
noncomputable def laws_toStringS.F : Fun := ⟨(Go.Proofs.Tryz.f118.body).getD .skip, [.v (.sl false .str)], [(.tmp 2, (.sl false .str))], [], 0, [(9, ⟨[0, 3, 4], [(3, .str)], [], false⟩)]⟩
inductive laws_toStringS.Pt where
  | p0 (a0 : List (ByteArray))
  | p9 (y1 : List (ByteArray)) (y2 : Int) (y3 : List (ByteArray))
def laws_toStringS.lb : laws_toStringS.Pt → Nat
  | .p0 _ => 0
  | .p9 _ _ _ => 9
def laws_toStringS.st : laws_toStringS.Pt → St
  | .p0 a0 => enter [.v (.sl false .str) a0] 0
  | .p9 y1 y2 y3 => ⟨[(0, .im (.sl false .str) y1), (3, .hs 0 [] none 0), (4, .im (.int .i64) y2)], [(0, .arr false .str y3 0)], 1⟩
def laws_toStringS.step (n : Nat) (K : laws_toStringS.Pt → Option (Tup [(.sl false .str)])) : laws_toStringS.Pt → Option (Tup [(.sl false .str)])
  | .p0 a0 => cond (inC ((List.length a0) : Int) ((List.length a0) : Int) 1000000000) (K (.p9 a0 (0 : Int) (List.replicate (Int.toNat ((List.length a0) : Int)) (default : ByteArray)))) (none)
  | .p9 y1 y2 y3 => cond (decide (y2 < ((List.length y1) : Int))) (cond (inB y2 (List.length y1)) (cond (inB y2 (List.length y3)) (K (.p9 y1 (IntKind.wrap .i64 (y2 + (1 : Int))) (List.set y3 (0 + (Int.toNat y2)) (List.getD y1 (Int.toNat y2) default)))) (none)) (none)) (some y3)
def laws_toStringS (n : Nat) (a0 : List (ByteArray)) : Option (Tup [(.sl false .str)]) := goRec laws_toStringS.step n (.p0 a0)
def laws_toStringS.spec : Ctr := ⟨118, [.v (.sl false .str)], [(.sl false .str)], [], fun n x => laws_toStringS n x.1⟩
theorem laws_toStringS.seg_eq : SegEq ty gl laws_toStringS.F laws_toStringS.md laws_toStringS.T laws_toStringS.spec laws_toStringS.lb laws_toStringS.st laws_toStringS.step := by
  intro n goto y; cases y <;> kernel_rfl
theorem laws_toStringS.text : Text Go.Proofs.Tryz.prog laws_toStringS.F laws_toStringS.spec := textOf Go.Proofs.Tryz.f118
theorem laws_toStringS.ok : CtrOK Go.Proofs.Tryz.prog gl laws_toStringS.spec :=
  ctr_okS tabs laws_toStringS.text laws_toStringS.seg_eq (fun n x => ⟨.p0 x.1, rfl, rfl, rfl⟩) (nilC)

/-! loop.example/g00039/laws.toIntS -/
def laws_toIntS.T : List Ctr := []
def laws_toIntS.md : List (Nat × List Md) := []
noncomputable def laws_toIntS.F : Fun := ⟨(Go.Proofs.Tryz.f119.body).getD .skip, [.v (.sl false (.int .i64))], [(.tmp 2, (.sl false (.int .i64)))], [], 0, [(9, ⟨[0, 3, 4], [(3, (.int .i64))], [], false⟩)]⟩
inductive laws_toIntS.Pt where
  | p0 (a0 : List (Int))
  | p9 (y1 : List (Int)) (y2 : Int) (y3 : List (Int))
def laws_toIntS.lb : laws_toIntS.Pt → Nat
  | .p0 _ => 0
  | .p9 _ _ _ => 9
def laws_toIntS.st : laws_toIntS.Pt → St
  | .p0 a0 => enter [.v (.sl false (.int .i64)) a0] 0
  | .p9 y1 y2 y3 => ⟨[(0, .im (.sl false (.int .i64)) y1), (3, .hs 0 [] none 0), (4, .im (.int .i64) y2)], [(0, .arr false (.int .i64) y3 0)], 1⟩
def laws_toIntS.step (n : Nat) (K : laws_toIntS.Pt → Option (Tup [(.sl false (.int .i64))])) : laws_toIntS.Pt → Option (Tup [(.sl false (.int .i64))])
  | .p0 a0 => cond (inC ((List.length a0) : Int) ((List.length a0) : Int) 1000000000) (K (.p9 a0 (0 : Int) (List.replicate (Int.toNat ((List.length a0) : Int)) (default : Int)))) (none)
  | .p9 y1 y2 y3 => cond (decide (y2 < ((List.length y1) : Int))) (cond (inB y2 (List.length y1)) (cond (inB y2 (List.length y3)) (K (.p9 y1 (IntKind.wrap .i64 (y2 + (1 : Int))) (List.set y3 (0 + (Int.toNat y2)) (List.getD y1 (Int.toNat y2) default)))) (none)) (none)) (some y3)
def laws_toIntS (n : Nat) (a0 : List (Int)) : Option (Tup [(.sl false (.int .i64))]) := goRec laws_toIntS.step n (.p0 a0)
def laws_toIntS.spec : Ctr := ⟨119, [.v (.sl false (.int .i64))], [(.sl false (.int .i64))], [], fun n x => laws_toIntS n x.1⟩
theorem laws_toIntS.seg_eq : SegEq ty gl laws_toIntS.F laws_toIntS.md laws_toIntS.T laws_toIntS.spec laws_toIntS.lb laws_toIntS.st laws_toIntS.step := by
  intro n goto y; cases y <;> kernel_rfl
theorem laws_toIntS.text : Text Go.Proofs.Tryz.prog laws_toIntS.F laws_toIntS.spec := textOf Go.Proofs.Tryz.f119
theorem laws_toIntS.ok : CtrOK Go.Proofs.Tryz.prog gl laws_toIntS.spec :=
  ctr_okS tabs laws_toIntS.text laws_toIntS.seg_eq (fun n x => ⟨.p0 x.1, rfl, rfl, rfl⟩) (nilC)

/-! loop.example/g00039/laws.toRoute -/
def laws_toRoute.T : List Ctr := [laws_toMatcherS.spec, laws_toStringS.spec, laws_toIntS.spec]
def laws_toRoute.md : List (Nat × List Md) := []
noncomputable def laws_toRoute.F : Fun := ⟨(Go.Proofs.Tryz.f66.body).getD .skip, [.v (.pair .str (.pair (.sl false (.pair .str (.pair (.int .i64) (.pair .str .unit)))) (.pair (.sl false .str) (.pair (.int .i64) (.pair (.int .i64) (.pair (.int .i64) (.pair (.sl false (.int .i64)) (.pair .bool (.pair (.int .i64) .unit)))))))))], [(.cell 2 80, (.pair .str (.pair (.sl false (.pair .str (.pair (.int .i64) (.pair .str .unit)))) (.pair (.sl false .str) (.pair (.int .i64) (.pair (.int .i64) (.pair (.int .i64) (.pair (.sl false (.int .i64)) (.pair .bool (.pair (.int .i64) .unit))))))))))], [], 0, []⟩
inductive laws_toRoute.Pt where
  | p0 (a0 : (ByteArray) × ((List ((ByteArray) × ((Int) × ((ByteArray) × (Unit))))) × ((List (ByteArray)) × ((Int) × ((Int) × ((Int) × ((List (Int)) × ((Bool) × ((Int) × (Unit))))))))))
def laws_toRoute.lb : laws_toRoute.Pt → Nat
  | .p0 _ => 0
def laws_toRoute.st : laws_toRoute.Pt → St
  | .p0 a0 => enter [.v (.pair .str (.pair (.sl false (.pair .str (.pair (.int .i64) (.pair .str .unit)))) (.pair (.sl false .str) (.pair (.int .i64) (.pair (.int .i64) (.pair (.int .i64) (.pair (.sl false (.int .i64)) (.pair .bool (.pair (.int .i64) .unit))))))))) a0] 0
def laws_toRoute.step (n : Nat) (K : laws_toRoute.Pt → Option (Tup [(.pair .str (.pair (.sl false (.pair .str (.pair (.int .i64) (.pair .str .unit)))) (.pair (.sl false .str) (.pair (.int .i64) (.pair (.int .i64) (.pair (.int .i64) (.pair (.sl false (.int .i64)) (.pair .bool (.pair (.int .i64) .unit)))))))))])) : laws_toRoute.Pt → Option (Tup [(.pair .str (.pair (.sl false (.pair .str (.pair (.int .i64) (.pair .str .unit)))) (.pair (.sl false .str) (.pair (.int .i64) (.pair (.int .i64) (.pair (.int .i64) (.pair (.sl false (.int .i64)) (.pair .bool (.pair (.int .i64) .unit)))))))))])
  | .p0 a0 => (laws_toMatcherS n a0.2.1).bind fun r4 => (laws_toStringS n a0.2.2.1).bind fun r5 => (laws_toIntS n a0.2.2.2.2.2.2.1).bind fun r6 => some (a0.1, (r4, (r5, (a0.2.2.2.1, (a0.2.2.2.2.1, (a0.2.2.2.2.2.1, (r6, a0.2.2.2.2.2.2.2)))))))
def laws_toRoute (n : Nat) (a0 : (ByteArray) × ((List ((ByteArray) × ((Int) × ((ByteArray) × (Unit))))) × ((List (ByteArray)) × ((Int) × ((Int) × ((Int) × ((List (Int)) × ((Bool) × ((Int) × (Unit)))))))))) : Option (Tup [(.pair .str (.pair (.sl false (.pair .str (.pair (.int .i64) (.pair .str .unit)))) (.pair (.sl false .str) (.pair (.int .i64) (.pair (.int .i64) (.pair (.int .i64) (.pair (.sl false (.int .i64)) (.pair .bool (.pair (.int .i64) .unit)))))))))]) := goRec laws_toRoute.step n (.p0 a0)
def laws_toRoute.spec : Ctr := ⟨66, [.v (.pair .str (.pair (.sl false (.pair .str (.pair (.int .i64) (.pair .str .unit)))) (.pair (.sl false .str) (.pair (.int .i64) (.pair (.int .i64) (.pair (.int .i64) (.pair (.sl false (.int .i64)) (.pair .bool (.pair (.int .i64) .unit)))))))))], [(.pair .str (.pair (.sl false (.pair .str (.pair (.int .i64) (.pair .str .unit)))) (.pair (.sl false .str) (.pair (.int .i64) (.pair (.int .i64) (.pair (.int .i64) (.pair (.sl false (.int .i64)) (.pair .bool (.pair (.int .i64) .unit)))))))))], [], fun n x => laws_toRoute n x.1⟩
theorem laws_toRoute.seg_eq : SegEq ty gl laws_toRoute.F laws_toRoute.md laws_toRoute.T laws_toRoute.spec laws_toRoute.lb laws_toRoute.st laws_toRoute.step := by
  intro n goto y; cases y <;> kernel_rfl
theorem laws_toRoute.text : Text Go.Proofs.Tryz.prog laws_toRoute.F laws_toRoute.spec := textOf Go.Proofs.Tryz.f66
theorem laws_toRoute.ok : CtrOK Go.Proofs.Tryz.prog gl laws_toRoute.spec :=
  ctr_okS tabs laws_toRoute.text laws_toRoute.seg_eq (fun n x => ⟨.p0 x.1, rfl, rfl, rfl⟩) (consC laws_toMatcherS.ok (consC laws_toStringS.ok (consC laws_toIntS.ok (nilC))))

/-! loop.example/g00039/laws.toRouteS -/
def laws_toRouteS.T : List Ctr := [laws_toRoute.spec]
def laws_toRouteS.md : List (Nat × List Md) := []
noncomputable def laws_toRouteS.F : Fun := ⟨(Go.Proofs.Tryz.f22.body).getD .skip, [.v (.sl false (.pair .str (.pair (.sl false (.pair .str (.pair (.int .i64) (.pair .str .unit)))) (.pair (.sl false .str) (.pair (.int .i64) (.pair (.int .i64) (.pair (.int .i64) (.pair (.sl false (.int .i64)) (.pair .bool (.pair (.int .i64) .unit))))))))))], [(.tmp 2, (.sl false (.pair .str (.pair (.sl false (.pair .str (.pair (.int .i64) (.pair .str .unit)))) (.pair (.sl false .str) (.pair (.int .i64) (.pair (.int .i64) (.pair (.int .i64) (.pair (.sl false (.int .i64)) (.pair .bool (.pair (.int .i64) .unit)))))))))))], [], 0, [(9, ⟨[0, 3, 4], [(3, (.pair .str (.pair (.sl false (.pair .str (.pair (.int .i64) (.pair .str .unit)))) (.pair (.sl false .str) (.pair (.int .i64) (.pair (.int .i64) (.pair (.int .i64) (.pair (.sl false (.int .i64)) (.pair .bool (.pair (.int .i64) .unit))))))))))], [], false⟩)]⟩
inductive laws_toRouteS.Pt where
  | p0 (a0 : List ((ByteArray) × ((List ((ByteArray) × ((Int) × ((ByteArray) × (Unit))))) × ((List (ByteArray)) × ((Int) × ((Int) × ((Int) × ((List (Int)) × ((Bool) × ((Int) × (Unit)))))))))))
  | p9 (y1 : List ((ByteArray) × ((List ((ByteArray) × ((Int) × ((ByteArray) × (Unit))))) × ((List (ByteArray)) × ((Int) × ((Int) × ((Int) × ((List (Int)) × ((Bool) × ((Int) × (Unit))))))))))) (y2 : Int) (y3 : List ((ByteArray) × ((List ((ByteArray) × ((Int) × ((ByteArray) × (Unit))))) × ((List (ByteArray)) × ((Int) × ((Int) × ((Int) × ((List (Int)) × ((Bool) × ((Int) × (Unit)))))))))))
def laws_toRouteS.lb : laws_toRouteS.Pt → Nat
  | .p0 _ => 0
  | .p9 _ _ _ => 9
def laws_toRouteS.st : laws_toRouteS.Pt → St
  | .p0 a0 => enter [.v (.sl false (.pair .str (.pair (.sl false (.pair .str (.pair (.int .i64) (.pair .str .unit)))) (.pair (.sl false .str) (.pair (.int .i64) (.pair (.int .i64) (.pair (.int .i64) (.pair (.sl false (.int .i64)) (.pair .bool (.pair (.int .i64) .unit)))))))))) a0] 0
  | .p9 y1 y2 y3 => ⟨[(0, .im (.sl false (.pair .str (.pair (.sl false (.pair .str (.pair (.int .i64) (.pair .str .unit)))) (.pair (.sl false .str) (.pair (.int .i64) (.pair (.int .i64) (.pair (.int .i64) (.pair (.sl false (.int .i64)) (.pair .bool (.pair (.int .i64) .unit)))))))))) y1), (3, .hs 0 [] none 0), (4, .im (.int .i64) y2)], [(0, .arr false (.pair .str (.pair (.sl false (.pair .str (.pair (.int .i64) (.pair .str .unit)))) (.pair (.sl false .str) (.pair (.int .i64) (.pair (.int .i64) (.pair (.int .i64) (.pair (.sl false (.int .i64)) (.pair .bool (.pair (.int .i64) .unit))))))))) y3 0)], 1⟩
def laws_toRouteS.step (n : Nat) (K : laws_toRouteS.Pt → Option (Tup [(.sl false (.pair .str (.pair (.sl false (.pair .str (.pair (.int .i64) (.pair .str .unit)))) (.pair (.sl false .str) (.pair (.int .i64) (.pair (.int .i64) (.pair (.int .i64) (.pair (.sl false (.int .i64)) (.pair .bool (.pair (.int .i64) .unit))))))))))])) : laws_toRouteS.Pt → Option (Tup [(.sl false (.pair .str (.pair (.sl false (.pair .str (.pair (.int .i64) (.pair .str .unit)))) (.pair (.sl false .str) (.pair (.int .i64) (.pair (.int .i64) (.pair (.int .i64) (.pair (.sl false (.int .i64)) (.pair .bool (.pair (.int .i64) .unit))))))))))])
  | .p0 a0 => cond (inC ((List.length a0) : Int) ((List.length a0) : Int) 1000000000) (K (.p9 a0 (0 : Int) (List.replicate (Int.toNat ((List.length a0) : Int)) (default : (ByteArray) × ((List ((ByteArray) × ((Int) × ((ByteArray) × (Unit))))) × ((List (ByteArray)) × ((Int) × ((Int) × ((Int) × ((List (Int)) × ((Bool) × ((Int) × (Unit))))))))))))) (none)
  | .p9 y1 y2 y3 => cond (decide (y2 < ((List.length y1) : Int))) (cond (inB y2 (List.length y1)) ((laws_toRoute n (List.getD y1 (Int.toNat y2) default)).bind fun r6 => cond (inB y2 (List.length y3)) (K (.p9 y1 (IntKind.wrap .i64 (y2 + (1 : Int))) (List.set y3 (0 + (Int.toNat y2)) r6))) (none)) (none)) (some y3)
def laws_toRouteS (n : Nat) (a0 : List ((ByteArray) × ((List ((ByteArray) × ((Int) × ((ByteArray) × (Unit))))) × ((List (ByteArray)) × ((Int) × ((Int) × ((Int) × ((List (Int)) × ((Bool) × ((Int) × (Unit))))))))))) : Option (Tup [(.sl false (.pair .str (.pair (.sl false (.pair .str (.pair (.int .i64) (.pair .str .unit)))) (.pair (.sl false .str) (.pair (.int .i64) (.pair (.int .i64) (.pair (.int .i64) (.pair (.sl false (.int .i64)) (.pair .bool (.pair (.int .i64) .unit))))))))))]) := goRec laws_toRouteS.step n (.p0 a0)
def laws_toRouteS.spec : Ctr := ⟨22, [.v (.sl false (.pair .str (.pair (.sl false (.pair .str (.pair (.int .i64) (.pair .str .unit)))) (.pair (.sl false .str) (.pair (.int .i64) (.pair (.int .i64) (.pair (.int .i64) (.pair (.sl false (.int .i64)) (.pair .bool (.pair (.int .i64) .unit))))))))))], [(.sl false (.pair .str (.pair (.sl false (.pair .str (.pair (.int .i64) (.pair .str .unit)))) (.pair (.sl false .str) (.pair (.int .i64) (.pair (.int .i64) (.pair (.int .i64) (.pair (.sl false (.int .i64)) (.pair .bool (.pair (.int .i64) .unit))))))))))], [], fun n x => laws_toRouteS n x.1⟩
theorem laws_toRouteS.seg_eq : SegEq ty gl laws_toRouteS.F laws_toRouteS.md laws_toRouteS.T laws_toRouteS.spec laws_toRouteS.lb laws_toRouteS.st laws_toRouteS.step := by
  intro n goto y; cases y <;> kernel_rfl
theorem laws_toRouteS.text : Text Go.Proofs.Tryz.prog laws_toRouteS.F laws_toRouteS.spec := textOf Go.Proofs.Tryz.f22
theorem laws_toRouteS.ok : CtrOK Go.Proofs.Tryz.prog gl laws_toRouteS.spec :=
  ctr_okS tabs laws_toRouteS.text laws_toRouteS.seg_eq (fun n x => ⟨.p0 x.1, rfl, rfl, rfl⟩) (consC laws_toRoute.ok (nilC))

/-! loop.example/g00039/laws.toRange -/
def laws_toRange.T : List Ctr := []
def laws_toRange.md : List (Nat × List Md) := []
noncomputable def laws_toRange.F : Fun := ⟨(Go.Proofs.Tryz.f179.body).getD .skip, [.v (.pair (.int .i64) (.pair (.int .i64) .unit))], [(.cell 2 133, (.pair (.int .i64) (.pair (.int .i64) .unit)))], [], 0, []⟩
inductive laws_toRange.Pt where
  | p0 (a0 : (Int) × ((Int) × (Unit)))
def laws_toRange.lb : laws_toRange.Pt → Nat
  | .p0 _ => 0
def laws_toRange.st : laws_toRange.Pt → St
  | .p0 a0 => enter [.v (.pair (.int .i64) (.pair (.int .i64) .unit)) a0] 0
def laws_toRange.step (n : Nat) (K : laws_toRange.Pt → Option (Tup [(.pair (.int .i64) (.pair (.int .i64) .unit))])) : laws_toRange.Pt → Option (Tup [(.pair (.int .i64) (.pair (.int .i64) .unit))])
  | .p0 a0 => some a0
def laws_toRange (n : Nat) (a0 : (Int) × ((Int) × (Unit))) : Option (Tup [(.pair (.int .i64) (.pair (.int .i64) .unit))]) := goRec laws_toRange.step n (.p0 a0)
def laws_toRange.spec : Ctr := ⟨179, [.v (.pair (.int .i64) (.pair (.int .i64) .unit))], [(.pair (.int .i64) (.pair (.int .i64) .unit))], [], fun n x => laws_toRange n x.1⟩
theorem laws_toRange.seg_eq : SegEq ty gl laws_toRange.F laws_toRange.md laws_toRange.T laws_toRange.spec laws_toRange.lb laws_toRange.st laws_toRange.step := by
  intro n goto y; cases y <;> kernel_rfl
theorem laws_toRange.text : Text Go.Proofs.Tryz.prog laws_toRange.F laws_toRange.spec := textOf Go.Proofs.Tryz.f179
theorem laws_toRange.ok : CtrOK Go.Proofs.Tryz.prog gl laws_toRange.spec :=
  ctr_okS tabs laws_toRange.text laws_toRange.seg_eq (fun n x => ⟨.p0 x.1, rfl, rfl, rfl⟩) (nilC)

/-! loop.example/g00039/laws.toRangeS -/
def laws_toRangeS.T : List Ctr := [laws_toRange.spec]
def laws_toRangeS.md : List (Nat × List Md) := []
noncomputable def laws_toRangeS.F : Fun := ⟨(Go.Proofs.Tryz.f136.body).getD .skip, [.v (.sl false (.pair (.int .i64) (.pair (.int .i64) .unit)))], [(.tmp 2, (.sl false (.pair (.int .i64) (.pair (.int .i64) .unit))))], [], 0, [(9, ⟨[0, 3, 4], [(3, (.pair (.int .i64) (.pair (.int .i64) .unit)))], [], false⟩)]⟩
inductive laws_toRangeS.Pt where
  | p0 (a0 : List ((Int) × ((Int) × (Unit))))
  | p9 (y1 : List ((Int) × ((Int) × (Unit)))) (y2 : Int) (y3 : List ((Int) × ((Int) × (Unit))))
def laws_toRangeS.lb : laws_toRangeS.Pt → Nat
  | .p0 _ => 0
  | .p9 _ _ _ => 9
def laws_toRangeS.st : laws_toRangeS.Pt → St
  | .p0 a0 => enter [.v (.sl false (.pair (.int .i64) (.pair (.int .i64) .unit))) a0] 0
  | .p9 y1 y2 y3 => ⟨[(0, .im (.sl false (.pair (.int .i64) (.pair (.int .i64) .unit))) y1), (3, .hs 0 [] none 0), (4, .im (.int .i64) y2)], [(0, .arr false (.pair (.int .i64) (.pair (.int .i64) .unit)) y3 0)], 1⟩
def laws_toRangeS.step (n : Nat) (K : laws_toRangeS.Pt → Option (Tup [(.sl false (.pair (.int .i64) (.pair (.int .i64) .unit)))])) : laws_toRangeS.Pt → Option (Tup [(.sl false (.pair (.int .i64) (.pair (.int .i64) .unit)))])
  | .p0 a0 => cond (inC ((List.length a0) : Int) ((List.length a0) : Int) 1000000000) (K (.p9 a0 (0 : Int) (List.replicate (Int.toNat ((List.length a0) : Int)) (default : (Int) × ((Int) × (Unit)))))) (none)
  | .p9 y1 y2 y3 => cond (decide (y2 < ((List.length y1) : Int))) (cond (inB y2 (List.length y1)) ((laws_toRange n (List.getD y1 (Int.toNat y2) default)).bind fun r6 => cond (inB y2 (List.length y3)) (K (.p9 y1 (IntKind.wrap .i64 (y2 + (1 : Int))) (List.set y3 (0 + (Int.toNat y2)) r6))) (none)) (none)) (some y3)
def laws_toRangeS (n : Nat) (a0 : List ((Int) × ((Int) × (Unit)))) : Option (Tup [(.sl false (.pair (.int .i64) (.pair (.int .i64) .unit)))]) := goRec laws_toRangeS.step n (.p0 a0)
def laws_toRangeS.spec : Ctr := ⟨136, [.v (.sl false (.pair (.int .i64) (.pair (.int .i64) .unit)))], [(.sl false (.pair (.int .i64) (.pair (.int .i64) .unit)))], [], fun n x => laws_toRangeS n x.1⟩
theorem laws_toRangeS.seg_eq : SegEq ty gl laws_toRangeS.F laws_toRangeS.md laws_toRangeS.T laws_toRangeS.spec laws_toRangeS.lb laws_toRangeS.st laws_toRangeS.step := by
  intro n goto y; cases y <;> kernel_rfl
theorem laws_toRangeS.text : Text Go.Proofs.Tryz.prog laws_toRangeS.F laws_toRangeS.spec := textOf Go.Proofs.Tryz.f136
theorem laws_toRangeS.ok : CtrOK Go.Proofs.Tryz.prog gl laws_toRangeS.spec :=
  ctr_okS tabs laws_toRangeS.text laws_toRangeS.seg_eq (fun n x => ⟨.p0 x.1, rfl, rfl, rfl⟩) (consC laws_toRange.ok (nilC))

/-! loop.example/g00039/laws.toInterval -/
def laws_toInterval.T : List Ctr := [laws_toIntS.spec, laws_toRangeS.spec]
def laws_toInterval.md : List (Nat × List Md) := []
noncomputable def laws_toInterval.F : Fun := ⟨(Go.Proofs.Tryz.f86.body).getD .skip, [.v (.pair (.int .i64) (.pair (.sl false (.pair (.int .i64) (.pair (.int .i64) .unit))) (.pair (.sl false (.pair (.int .i64) (.pair (.int .i64) .unit))) (.pair (.sl false (.pair (.int .i64) (.pair (.int .i64) .unit))) (.pair (.sl false (.pair (.int .i64) (.pair (.int .i64) .unit))) (.pair (.sl false (.pair (.int .i64) (.pair (.int .i64) .unit))) (.pair (.sl false (.int .i64)) .unit)))))))], [(.cell 2 75, (.pair (.int .i64) (.pair (.sl false (.pair (.int .i64) (.pair (.int .i64) .unit))) (.pair (.sl false (.pair (.int .i64) (.pair (.int .i64) .unit))) (.pair (.sl false (.pair (.int .i64) (.pair (.int .i64) .unit))) (.pair (.sl false (.pair (.int .i64) (.pair (.int .i64) .unit))) (.pair (.sl false (.pair (.int .i64) (.pair (.int .i64) .unit))) (.pair (.sl false (.int .i64)) .unit))))))))], [], 0, []⟩
inductive laws_toInterval.Pt where
  | p0 (a0 : (Int) × ((List ((Int) × ((Int) × (Unit)))) × ((List ((Int) × ((Int) × (Unit)))) × ((List ((Int) × ((Int) × (Unit)))) × ((List ((Int) × ((Int) × (Unit)))) × ((List ((Int) × ((Int) × (Unit)))) × ((List (Int)) × (Unit))))))))
def laws_toInterval.lb : laws_toInterval.Pt → Nat
  | .p0 _ => 0
def laws_toInterval.st : laws_toInterval.Pt → St
  | .p0 a0 => enter [.v (.pair (.int .i64) (.pair (.sl false (.pair (.int .i64) (.pair (.int .i64) .unit))) (.pair (.sl false (.pair (.int .i64) (.pair (.int .i64) .unit))) (.pair (.sl false (.pair (.int .i64) (.pair (.int .i64) .unit))) (.pair (.sl false (.pair (.int .i64) (.pair (.int .i64) .unit))) (.pair (.sl false (.pair (.int .i64) (.pair (.int .i64) .unit))) (.pair (.sl false (.int .i64)) .unit))))))) a0] 0
def laws_toInterval.step (n : Nat) (K : laws_toInterval.Pt → Option (Tup [(.pair (.int .i64) (.pair (.sl false (.pair (.int .i64) (.pair (.int .i64) .unit))) (.pair (.sl false (.pair (.int .i64) (.pair (.int .i64) .unit))) (.pair (.sl false (.pair (.int .i64) (.pair (.int .i64) .unit))) (.pair (.sl false (.pair (.int .i64) (.pair (.int .i64) .unit))) (.pair (.sl false (.pair (.int .i64) (.pair (.int .i64) .unit))) (.pair (.sl false (.int .i64)) .unit)))))))])) : laws_toInterval.Pt → Option (Tup [(.pair (.int .i64) (.pair (.sl false (.pair (.int .i64) (.pair (.int .i64) .unit))) (.pair (.sl false (.pair (.int .i64) (.pair (.int .i64) .unit))) (.pair (.sl false (.pair (.int .i64) (.pair (.int .i64) .unit))) (.pair (.sl false (.pair (.int .i64) (.pair (.int .i64) .unit))) (.pair (.sl false (.pair (.int .i64) (.pair (.int .i64) .unit))) (.pair (.sl false (.int .i64)) .unit)))))))])
  | .p0 a0 => (laws_toRangeS n a0.2.1).bind fun r4 => (laws_toRangeS n a0.2.2.1).bind fun r5 => (laws_toRangeS n a0.2.2.2.1).bind fun r6 => (laws_toRangeS n a0.2.2.2.2.1).bind fun r7 => (laws_toRangeS n a0.2.2.2.2.2.1).bind fun r8 => (laws_toIntS n a0.2.2.2.2.2.2.1).bind fun r9 => some (a0.1, (r4, (r5, (r6, (r7, (r8, (r9, ())))))))
def laws_toInterval (n : Nat) (a0 : (Int) × ((List ((Int) × ((Int) × (Unit)))) × ((List ((Int) × ((Int) × (Unit)))) × ((List ((Int) × ((Int) × (Unit)))) × ((List ((Int) × ((Int) × (Unit)))) × ((List ((Int) × ((Int) × (Unit)))) × ((List (Int)) × (Unit)))))))) : Option (Tup [(.pair (.int .i64) (.pair (.sl false (.pair (.int .i64) (.pair (.int .i64) .unit))) (.pair (.sl false (.pair (.int .i64) (.pair (.int .i64) .unit))) (.pair (.sl false (.pair (.int .i64) (.pair (.int .i64) .unit))) (.pair (.sl false (.pair (.int .i64) (.pair (.int .i64) .unit))) (.pair (.sl false (.pair (.int .i64) (.pair (.int .i64) .unit))) (.pair (.sl false (.int .i64)) .unit)))))))]) := goRec laws_toInterval.step n (.p0 a0)
def laws_toInterval.spec : Ctr := ⟨86, [.v (.pair (.int .i64) (.pair (.sl false (.pair (.int .i64) (.pair (.int .i64) .unit))) (.pair (.sl false (.pair (.int .i64) (.pair (.int .i64) .unit))) (.pair (.sl false (.pair (.int .i64) (.pair (.int .i64) .unit))) (.pair (.sl false (.pair (.int .i64) (.pair (.int .i64) .unit))) (.pair (.sl false (.pair (.int .i64) (.pair (.int .i64) .unit))) (.pair (.sl false (.int .i64)) .unit)))))))], [(.pair (.int .i64) (.pair (.sl false (.pair (.int .i64) (.pair (.int .i64) .unit))) (.pair (.sl false (.pair (.int .i64) (.pair (.int .i64) .unit))) (.pair (.sl false (.pair (.int .i64) (.pair (.int .i64) .unit))) (.pair (.sl false (.pair (.int .i64) (.pair (.int .i64) .unit))) (.pair (.sl false (.pair (.int .i64) (.pair (.int .i64) .unit))) (.pair (.sl false (.int .i64)) .unit)))))))], [], fun n x => laws_toInterval n x.1⟩
theorem laws_toInterval.seg_eq : SegEq ty gl laws_toInterval.F laws_toInterval.md laws_toInterval.T laws_toInterval.spec laws_toInterval.lb laws_toInterval.st laws_toInterval.step := by
  intro n goto y; cases y <;> kernel_rfl
theorem laws_toInterval.text : Text Go.Proofs.Tryz.prog laws_toInterval.F laws_toInterval.spec := textOf Go.Proofs.Tryz.f86
theorem laws_toInterval.ok : CtrOK Go.Proofs.Tryz.prog gl laws_toInterval.spec :=
  ctr_okS tabs laws_toInterval.text laws_toInterval.seg_eq (fun n x => ⟨.p0 x.1, rfl, rfl, rfl⟩) (consC laws_toIntS.ok (consC laws_toRangeS.ok (nilC)))

/-! loop.example/g00039/laws.toIntervalS -/
def laws_toIntervalS.T : List Ctr := [laws_toInterval.spec]
def laws_toIntervalS.md : List (Nat × List Md) := []
noncomputable def laws_toIntervalS.F : Fun := ⟨(Go.Proofs.Tryz.f39.body).getD .skip, [.v (.sl false (.pair (.int .i64) (.pair (.sl false (.pair (.int .i64) (.pair (.int .i64) .unit))) (.pair (.sl false (.pair (.int .i64) (.pair (.int .i64) .unit))) (.pair (.sl false (.pair (.int .i64) (.pair (.int .i64) .unit))) (.pair (.sl false (.pair (.int .i64) (.pair (.int .i64) .unit))) (.pair (.sl false (.pair (.int .i64) (.pair (.int .i64) .unit))) (.pair (.sl false (.int .i64)) .unit))))))))], [(.tmp 2, (.sl false (.pair (.int .i64) (.pair (.sl false (.pair (.int .i64) (.pair (.int .i64) .unit))) (.pair (.sl false (.pair (.int .i64) (.pair (.int .i64) .unit))) (.pair (.sl false (.pair (.int .i64) (.pair (.int .i64) .unit))) (.pair (.sl false (.pair (.int .i64) (.pair (.int .i64) .unit))) (.pair (.sl false (.pair (.int .i64) (.pair (.int .i64) .unit))) (.pair (.sl false (.int .i64)) .unit)))))))))], [], 0, [(9, ⟨[0, 3, 4], [(3, (.pair (.int .i64) (.pair (.sl false (.pair (.int .i64) (.pair (.int .i64) .unit))) (.pair (.sl false (.pair (.int .i64) (.pair (.int .i64) .unit))) (.pair (.sl false (.pair (.int .i64) (.pair (.int .i64) .unit))) (.pair (.sl false (.pair (.int .i64) (.pair (.int .i64) .unit))) (.pair (.sl false (.pair (.int .i64) (.pair (.int .i64) .unit))) (.pair (.sl false (.int .i64)) .unit))))))))], [], false⟩)]⟩
inductive laws_toIntervalS.Pt where
  | p0 (a0 : List ((Int) × ((List ((Int) × ((Int) × (Unit)))) × ((List ((Int) × ((Int) × (Unit)))) × ((List ((Int) × ((Int) × (Unit)))) × ((List ((Int) × ((Int) × (Unit)))) × ((List ((Int) × ((Int) × (Unit)))) × ((List (Int)) × (Unit)))))))))
  | p9 (y1 : List ((Int) × ((List ((Int) × ((Int) × (Unit)))) × ((List ((Int) × ((Int) × (Unit)))) × ((List ((Int) × ((Int) × (Unit)))) × ((List ((Int) × ((Int) × (Unit)))) × ((List ((Int) × ((Int) × (Unit)))) × ((List (Int)) × (Unit))))))))) (y2 : Int) (y3 : List ((Int) × ((List ((Int) × ((Int) × (Unit)))) × ((List ((Int) × ((Int) × (Unit)))) × ((List ((Int) × ((Int) × (Unit)))) × ((List ((Int) × ((Int) × (Unit)))) × ((List ((Int) × ((Int) × (Unit)))) × ((List (Int)) × (Unit)))))))))
def laws_toIntervalS.lb : laws_toIntervalS.Pt → Nat
  | .p0 _ => 0
  | .p9 _ _ _ => 9
def laws_toIntervalS.st : laws_toIntervalS.Pt → St
  | .p0 a0 => enter [.v (.sl false (.pair (.int .i64) (.pair (.sl false (.pair (.int .i64) (.pair (.int .i64) .unit))) (.pair (.sl false (.pair (.int .i64) (.pair (.int .i64) .unit))) (.pair (.sl false (.pair (.int .i64) (.pair (.int .i64) .unit))) (.pair (.sl false (.pair (.int .i64) (.pair (.int .i64) .unit))) (.pair (.sl false (.pair (.int .i64) (.pair (.int .i64) .unit))) (.pair (.sl false (.int .i64)) .unit)))))))) a0] 0
  | .p9 y1 y2 y3 => ⟨[(0, .im (.sl false (.pair (.int .i64) (.pair (.sl false (.pair (.int .i64) (.pair (.int .i64) .unit))) (.pair (.sl false (.pair (.int .i64) (.pair (.int .i64) .unit))) (.pair (.sl false (.pair (.int .i64) (.pair (.int .i64) .unit))) (.pair (.sl false (.pair (.int .i64) (.pair (.int .i64) .unit))) (.pair (.sl false (.pair (.int .i64) (.pair (.int .i64) .unit))) (.pair (.sl false (.int .i64)) .unit)))))))) y1), (3, .hs 0 [] none 0), (4, .im (.int .i64) y2)], [(0, .arr false (.pair (.int .i64) (.pair (.sl false (.pair (.int .i64) (.pair (.int .i64) .unit))) (.pair (.sl false (.pair (.int .i64) (.pair (.int .i64) .unit))) (.pair (.sl false (.pair (.int .i64) (.pair (.int .i64) .unit))) (.pair (.sl false (.pair (.int .i64) (.pair (.int .i64) .unit))) (.pair (.sl false (.pair (.int .i64) (.pair (.int .i64) .unit))) (.pair (.sl false (.int .i64)) .unit))))))) y3 0)], 1⟩
def laws_toIntervalS.step (n : Nat) (K : laws_toIntervalS.Pt → Option (Tup [(.sl false (.pair (.int .i64) (.pair (.sl false (.pair (.int .i64) (.pair (.int .i64) .unit))) (.pair (.sl false (.pair (.int .i64) (.pair (.int .i64) .unit))) (.pair (.sl false (.pair (.int .i64) (.pair (.int .i64) .unit))) (.pair (.sl false (.pair (.int .i64) (.pair (.int .i64) .unit))) (.pair (.sl false (.pair (.int .i64) (.pair (.int .i64) .unit))) (.pair (.sl false (.int .i64)) .unit))))))))])) : laws_toIntervalS.Pt → Option (Tup [(.sl false (.pair (.int .i64) (.pair (.sl false (.pair (.int .i64) (.pair (.int .i64) .unit))) (.pair (.sl false (.pair (.int .i64) (.pair (.int .i64) .unit))) (.pair (.sl false (.pair (.int .i64) (.pair (.int .i64) .unit))) (.pair (.sl false (.pair (.int .i64) (.pair (.int .i64) .unit))) (.pair (.sl false (.pair (.int .i64) (.pair (.int .i64) .unit))) (.pair (.sl false (.int .i64)) .unit))))))))])
  | .p0 a0 => cond (inC ((List.length a0) : Int) ((List.length a0) : Int) 1000000000) (K (.p9 a0 (0 : Int) (List.replicate (Int.toNat ((List.length a0) : Int)) (default : (Int) × ((List ((Int) × ((Int) × (Unit)))) × ((List ((Int) × ((Int) × (Unit)))) × ((List ((Int) × ((Int) × (Unit)))) × ((List ((Int) × ((Int) × (Unit)))) × ((List ((Int) × ((Int) × (Unit)))) × ((List (Int)) × (Unit))))))))))) (none)
  | .p9 y1 y2 y3 => cond (decide (y2 < ((List.length y1) : Int))) (cond (inB y2 (List.length y1)) ((laws_toInterval n (List.getD y1 (Int.toNat y2) default)).bind fun r6 => cond (inB y2 (List.length y3)) (K (.p9 y1 (IntKind.wrap .i64 (y2 + (1 : Int))) (List.set y3 (0 + (Int.toNat y2)) r6))) (none)) (none)) (some y3)
def laws_toIntervalS (n : Nat) (a0 : List ((Int) × ((List ((Int) × ((Int) × (Unit)))) × ((List ((Int) × ((Int) × (Unit)))) × ((List ((Int) × ((Int) × (Unit)))) × ((List ((Int) × ((Int) × (Unit)))) × ((List ((Int) × ((Int) × (Unit)))) × ((List (Int)) × (Unit))))))))) : Option (Tup [(.sl false (.pair (.int .i64) (.pair (.sl false (.pair (.int .i64) (.pair (.int .i64) .unit))) (.pair (.sl false (.pair (.int .i64) (.pair (.int .i64) .unit))) (.pair (.sl false (.pair (.int .i64) (.pair (.int .i64) .unit))) (.pair (.sl false (.pair (.int .i64) (.pair (.int .i64) .unit))) (.pair (.sl false (.pair (.int .i64) (.pair (.int .i64) .unit))) (.pair (.sl false (.int .i64)) .unit))))))))]) := goRec laws_toIntervalS.step n (.p0 a0)
def laws_toIntervalS.spec : Ctr := ⟨39, [.v (.sl false (.pair (.int .i64) (.pair (.sl false (.pair (.int .i64) (.pair (.int .i64) .unit))) (.pair (.sl false (.pair (.int .i64) (.pair (.int .i64) .unit))) (.pair (.sl false (.pair (.int .i64) (.pair (.int .i64) .unit))) (.pair (.sl false (.pair (.int .i64) (.pair (.int .i64) .unit))) (.pair (.sl false (.pair (.int .i64) (.pair (.int .i64) .unit))) (.pair (.sl false (.int .i64)) .unit))))))))], [(.sl false (.pair (.int .i64) (.pair (.sl false (.pair (.int .i64) (.pair (.int .i64) .unit))) (.pair (.sl false (.pair (.int .i64) (.pair (.int .i64) .unit))) (.pair (.sl false (.pair (.int .i64) (.pair (.int .i64) .unit))) (.pair (.sl false (.pair (.int .i64) (.pair (.int .i64) .unit))) (.pair (.sl false (.pair (.int .i64) (.pair (.int .i64) .unit))) (.pair (.sl false (.int .i64)) .unit))))))))], [], fun n x => laws_toIntervalS n x.1⟩
theorem laws_toIntervalS.seg_eq : SegEq ty gl laws_toIntervalS.F laws_toIntervalS.md laws_toIntervalS.T laws_toIntervalS.spec laws_toIntervalS.lb laws_toIntervalS.st laws_toIntervalS.step := by
  intro n goto y; cases y <;> kernel_rfl
theorem laws_toIntervalS.text : Text Go.Proofs.Tryz.prog laws_toIntervalS.F laws_toIntervalS.spec := textOf Go.Proofs.Tryz.f39
theorem laws_toIntervalS.ok : CtrOK Go.Proofs.Tryz.prog gl laws_toIntervalS.spec :=
  ctr_okS tabs laws_toIntervalS.text laws_toIntervalS.seg_eq (fun n x => ⟨.p0 x.1, rfl, rfl, rfl⟩) (consC laws_toInterval.ok (nilC))

/-! loop.example/g00039/laws.toSilence -/
def laws_toSilence.T : List Ctr := [laws_toMatcherS.spec]
def laws_toSilence.md : List (Nat × List Md) := []
noncomputable def laws_toSilence.F : Fun := ⟨(Go.Proofs.Tryz.f87.body).getD .skip, [.v (.pair .str (.pair (.sl false (.pair .str (.pair (.int .i64) (.pair .str .unit)))) (.pair (.int .i64) (.pair (.int .i64) .unit))))], [(.cell 2 125, (.pair .str (.pair (.sl false (.pair .str (.pair (.int .i64) (.pair .str .unit)))) (.pair (.int .i64) (.pair (.int .i64) .unit)))))], [], 0, []⟩
inductive laws_toSilence.Pt where
  | p0 (a0 : (ByteArray) × ((List ((ByteArray) × ((Int) × ((ByteArray) × (Unit))))) × ((Int) × ((Int) × (Unit)))))
def laws_toSilence.lb : laws_toSilence.Pt → Nat
  | .p0 _ => 0
def laws_toSilence.st : laws_toSilence.Pt → St
  | .p0 a0 => enter [.v (.pair .str (.pair (.sl false (.pair .str (.pair (.int .i64) (.pair .str .unit)))) (.pair (.int .i64) (.pair (.int .i64) .unit)))) a0] 0
def laws_toSilence.step (n : Nat) (K : laws_toSilence.Pt → Option (Tup [(.pair .str (.pair (.sl false (.pair .str (.pair (.int .i64) (.pair .str .unit)))) (.pair (.int .i64) (.pair (.int .i64) .unit))))])) : laws_toSilence.Pt → Option (Tup [(.pair .str (.pair (.sl false (.pair .str (.pair (.int .i64) (.pair .str .unit)))) (.pair (.int .i64) (.pair (.int .i64) .unit))))])
  | .p0 a0 => (laws_toMatcherS n a0.2.1).bind fun r4 => some (a0.1, (r4, a0.2.2))
def laws_toSilence (n : Nat) (a0 : (ByteArray) × ((List ((ByteArray) × ((Int) × ((ByteArray) × (Unit))))) × ((Int) × ((Int) × (Unit))))) : Option (Tup [(.pair .str (.pair (.sl false (.pair .str (.pair (.int .i64) (.pair .str .unit)))) (.pair (.int .i64) (.pair (.int .i64) .unit))))]) := goRec laws_toSilence.step n (.p0 a0)
def laws_toSilence.spec : Ctr := ⟨87, [.v (.pair .str (.pair (.sl false (.pair .str (.pair (.int .i64) (.pair .str .unit)))) (.pair (.int .i64) (.pair (.int .i64) .unit))))], [(.pair .str (.pair (.sl false (.pair .str (.pair (.int .i64) (.pair .str .unit)))) (.pair (.int .i64) (.pair (.int .i64) .unit))))], [], fun n x => laws_toSilence n x.1⟩
theorem laws_toSilence.seg_eq : SegEq ty gl laws_toSilence.F laws_toSilence.md laws_toSilence.T laws_toSilence.spec laws_toSilence.lb laws_toSilence.st laws_toSilence.step := by
  intro n goto y; cases y <;> kernel_rfl
theorem laws_toSilence.text : Text Go.Proofs.Tryz.prog laws_toSilence.F laws_toSilence.spec := textOf Go.Proofs.Tryz.f87
theorem laws_toSilence.ok : CtrOK Go.Proofs.Tryz.prog gl laws_toSilence.spec :=
  ctr_okS tabs laws_toSilence.text laws_toSilence.seg_eq (fun n x => ⟨.p0 x.1, rfl, rfl, rfl⟩) (consC laws_toMatcherS.ok (nilC))

/-! loop.example/g00039/laws.toSilenceS -/
def laws_toSilenceS.T : List Ctr := [laws_toSilence.spec]
def laws_toSilenceS.md : List (Nat × List Md) := []
noncomputable def laws_toSilenceS.F : Fun := ⟨(Go.Proofs.Tryz.f40.body).getD .skip, [.v (.sl false (.pair .str (.pair (.sl false (.pair .str (.pair (.int .i64) (.pair .str .unit)))) (.pair (.int .i64) (.pair (.int .i64) .unit)))))], [(.tmp 2, (.sl false (.pair .str (.pair (.sl false (.pair .str (.pair (.int .i64) (.pair .str .unit)))) (.pair (.int .i64) (.pair (.int .i64) .unit))))))], [], 0, [(9, ⟨[0, 3, 4], [(3, (.pair .str (.pair (.sl false (.pair .str (.pair (.int .i64) (.pair .str .unit)))) (.pair (.int .i64) (.pair (.int .i64) .unit)))))], [], false⟩)]⟩
inductive laws_toSilenceS.Pt where
  | p0 (a0 : List ((ByteArray) × ((List ((ByteArray) × ((Int) × ((ByteArray) × (Unit))))) × ((Int) × ((Int) × (Unit))))))
  | p9 (y1 : List ((ByteArray) × ((List ((ByteArray) × ((Int) × ((ByteArray) × (Unit))))) × ((Int) × ((Int) × (Unit)))))) (y2 : Int) (y3 : List ((ByteArray) × ((List ((ByteArray) × ((Int) × ((ByteArray) × (Unit))))) × ((Int) × ((Int) × (Unit))))))
def laws_toSilenceS.lb : laws_toSilenceS.Pt → Nat
  | .p0 _ => 0
  | .p9 _ _ _ => 9
def laws_toSilenceS.st : laws_toSilenceS.Pt → St
  | .p0 a0 => enter [.v (.sl false (.pair .str (.pair (.sl false (.pair .str (.pair (.int .i64) (.pair .str .unit)))) (.pair (.int .i64) (.pair (.int .i64) .unit))))) a0] 0
  | .p9 y1 y2 y3 => ⟨[(0, .im (.sl false (.pair .str (.pair (.sl false (.pair .str (.pair (.int .i64) (.pair .str .unit)))) (.pair (.int .i64) (.pair (.int .i64) .unit))))) y1), (3, .hs 0 [] none 0), (4, .im (.int .i64) y2)], [(0, .arr false (.pair .str (.pair (.sl false (.pair .str (.pair (.int .i64) (.pair .str .unit)))) (.pair (.int .i64) (.pair (.int .i64) .unit)))) y3 0)], 1⟩
def laws_toSilenceS.step (n : Nat) (K : laws_toSilenceS.Pt → Option (Tup [(.sl false (.pair .str (.pair (.sl false (.pair .str (.pair (.int .i64) (.pair .str .unit)))) (.pair (.int .i64) (.pair (.int .i64) .unit)))))])) : laws_toSilenceS.Pt → Option (Tup [(.sl false (.pair .str (.pair (.sl false (.pair .str (.pair (.int .i64) (.pair .str .unit)))) (.pair (.int .i64) (.pair (.int .i64) .unit)))))])
  | .p0 a0 => cond (inC ((List.length a0) : Int) ((List.length a0) : Int) 1000000000) (K (.p9 a0 (0 : Int) (List.replicate (Int.toNat ((List.length a0) : Int)) (default : (ByteArray) × ((List ((ByteArray) × ((Int) × ((ByteArray) × (Unit))))) × ((Int) × ((Int) × (Unit)))))))) (none)
  | .p9 y1 y2 y3 => cond (decide (y2 < ((List.length y1) : Int))) (cond (inB y2 (List.length y1)) ((laws_toSilence n (List.getD y1 (Int.toNat y2) default)).bind fun r6 => cond (inB y2 (List.length y3)) (K (.p9 y1 (IntKind.wrap .i64 (y2 + (1 : Int))) (List.set y3 (0 + (Int.toNat y2)) r6))) (none)) (none)) (some y3)
def laws_toSilenceS (n : Nat) (a0 : List ((ByteArray) × ((List ((ByteArray) × ((Int) × ((ByteArray) × (Unit))))) × ((Int) × ((Int) × (Unit)))))) : Option (Tup [(.sl false (.pair .str (.pair (.sl false (.pair .str (.pair (.int .i64) (.pair .str .unit)))) (.pair (.int .i64) (.pair (.int .i64) .unit)))))]) := goRec laws_toSilenceS.step n (.p0 a0)
def laws_toSilenceS.spec : Ctr := ⟨40, [.v (.sl false (.pair .str (.pair (.sl false (.pair .str (.pair (.int .i64) (.pair .str .unit)))) (.pair (.int .i64) (.pair (.int .i64) .unit)))))], [(.sl false (.pair .str (.pair (.sl false (.pair .str (.pair (.int .i64) (.pair .str .unit)))) (.pair (.int .i64) (.pair (.int .i64) .unit)))))], [], fun n x => laws_toSilenceS n x.1⟩
theorem laws_toSilenceS.seg_eq : SegEq ty gl laws_toSilenceS.F laws_toSilenceS.md laws_toSilenceS.T laws_toSilenceS.spec laws_toSilenceS.lb laws_toSilenceS.st laws_toSilenceS.step := by
  intro n goto y; cases y <;> kernel_rfl
theorem laws_toSilenceS.text : Text Go.Proofs.Tryz.prog laws_toSilenceS.F laws_toSilenceS.spec := textOf Go.Proofs.Tryz.f40
theorem laws_toSilenceS.ok : CtrOK Go.Proofs.Tryz.prog gl laws_toSilenceS.spec :=
  ctr_okS tabs laws_toSilenceS.text laws_toSilenceS.seg_eq (fun n x => ⟨.p0 x.1, rfl, rfl, rfl⟩) (consC laws_toSilence.ok (nilC))

/-! loop.example/g00039/laws.toInhibit -/
def laws_toInhibit.T : List Ctr := [laws_toMatcherS.spec, laws_toStringS.spec]
def laws_toInhibit.md : List (Nat × List Md) := []
noncomputable def laws_toInhibit.F : Fun := ⟨(Go.Proofs.Tryz.f88.body).getD .skip, [.v (.pair (.sl false (.pair .str (.pair (.int .i64) (.pair .str .unit)))) (.pair (.sl false (.pair .str (.pair (.int .i64) (.pair .str .unit)))) (.pair (.sl false .str) .unit)))], [(.cell 2 130, (.pair (.sl false (.pair .str (.pair (.int .i64) (.pair .str .unit)))) (.pair (.sl false (.pair .str (.pair (.int .i64) (.pair .str .unit)))) (.pair (.sl false .str) .unit))))], [], 0, []⟩
inductive laws_toInhibit.Pt where
  | p0 (a0 : (List ((ByteArray) × ((Int) × ((ByteArray) × (Unit))))) × ((List ((ByteArray) × ((Int) × ((ByteArray) × (Unit))))) × ((List (ByteArray)) × (Unit))))
def laws_toInhibit.lb : laws_toInhibit.Pt → Nat
  | .p0 _ => 0
def laws_toInhibit.st : laws_toInhibit.Pt → St
  | .p0 a0 => enter [.v (.pair (.sl false (.pair .str (.pair (.int .i64) (.pair .str .unit)))) (.pair (.sl false (.pair .str (.pair (.int .i64) (.pair .str .unit)))) (.pair (.sl false .str) .unit))) a0] 0
def laws_toInhibit.step (n : Nat) (K : laws_toInhibit.Pt → Option (Tup [(.pair (.sl false (.pair .str (.pair (.int .i64) (.pair .str .unit)))) (.pair (.sl false (.pair .str (.pair (.int .i64) (.pair .str .unit)))) (.pair (.sl false .str) .unit)))])) : laws_toInhibit.Pt → Option (Tup [(.pair (.sl false (.pair .str (.pair (.int .i64) (.pair .str .unit)))) (.pair (.sl false (.pair .str (.pair (.int .i64) (.pair .str .unit)))) (.pair (.sl false .str) .unit)))])
  | .p0 a0 => (laws_toMatcherS n a0.1).bind fun r4 => (laws_toMatcherS n a0.2.1).bind fun r5 => (laws_toStringS n a0.2.2.1).bind fun r6 => some (r4, (r5, (r6, ())))
def laws_toInhibit (n : Nat) (a0 : (List ((ByteArray) × ((Int) × ((ByteArray) × (Unit))))) × ((List ((ByteArray) × ((Int) × ((ByteArray) × (Unit))))) × ((List (ByteArray)) × (Unit)))) : Option (Tup [(.pair (.sl false (.pair .str (.pair (.int .i64) (.pair .str .unit)))) (.pair (.sl false (.pair .str (.pair (.int .i64) (.pair .str .unit)))) (.pair (.sl false .str) .unit)))]) := goRec laws_toInhibit.step n (.p0 a0)
def laws_toInhibit.spec : Ctr := ⟨88, [.v (.pair (.sl false (.pair .str (.pair (.int .i64) (.pair .str .unit)))) (.pair (.sl false (.pair .str (.pair (.int .i64) (.pair .str .unit)))) (.pair (.sl false .str) .unit)))], [(.pair (.sl false (.pair .str (.pair (.int .i64) (.pair .str .unit)))) (.pair (.sl false (.pair .str (.pair (.int .i64) (.pair .str .unit)))) (.pair (.sl false .str) .unit)))], [], fun n x => laws_toInhibit n x.1⟩
theorem laws_toInhibit.seg_eq : SegEq ty gl laws_toInhibit.F laws_toInhibit.md laws_toInhibit.T laws_toInhibit.spec laws_toInhibit.lb laws_toInhibit.st laws_toInhibit.step := by
  intro n goto y; cases y <;> kernel_rfl
theorem laws_toInhibit.text : Text Go.Proofs.Tryz.prog laws_toInhibit.F laws_toInhibit.spec := textOf Go.Proofs.Tryz.f88
theorem laws_toInhibit.ok : CtrOK Go.Proofs.Tryz.prog gl laws_toInhibit.spec :=
  ctr_okS tabs laws_toInhibit.text laws_toInhibit.seg_eq (fun n x => ⟨.p0 x.1, rfl, rfl, rfl⟩) (consC laws_toMatcherS.ok (consC laws_toStringS.ok (nilC)))

/-! loop.example/g00039/laws.toInhibitS -/
def laws_toInhibitS.T : List Ctr := [laws_toInhibit.spec]
def laws_toInhibitS.md : List (Nat × List Md) := []
noncomputable def laws_toInhibitS.F : Fun := ⟨(Go.Proofs.Tryz.f41.body).getD .skip, [.v (.sl false (.pair (.sl false (.pair .str (.pair (.int .i64) (.pair .str .unit)))) (.pair (.sl false (.pair .str (.pair (.int .i64) (.pair .str .unit)))) (.pair (.sl false .str) .unit))))], [(.tmp 2, (.sl false (.pair (.sl false (.pair .str (.pair (.int .i64) (.pair .str .unit)))) (.pair (.sl false (.pair .str (.pair (.int .i64) (.pair .str .unit)))) (.pair (.sl false .str) .unit)))))], [], 0, [(9, ⟨[0, 3, 4], [(3, (.pair (.sl false (.pair .str (.pair (.int .i64) (.pair .str .unit)))) (.pair (.sl false (.pair .str (.pair (.int .i64) (.pair .str .unit)))) (.pair (.sl false .str) .unit))))], [], false⟩)]⟩
inductive laws_toInhibitS.Pt where
  | p0 (a0 : List ((List ((ByteArray) × ((Int) × ((ByteArray) × (Unit))))) × ((List ((ByteArray) × ((Int) × ((ByteArray) × (Unit))))) × ((List (ByteArray)) × (Unit)))))
  | p9 (y1 : List ((List ((ByteArray) × ((Int) × ((ByteArray) × (Unit))))) × ((List ((ByteArray) × ((Int) × ((ByteArray) × (Unit))))) × ((List (ByteArray)) × (Unit))))) (y2 : Int) (y3 : List ((List ((ByteArray) × ((Int) × ((ByteArray) × (Unit))))) × ((List ((ByteArray) × ((Int) × ((ByteArray) × (Unit))))) × ((List (ByteArray)) × (Unit)))))
def laws_toInhibitS.lb : laws_toInhibitS.Pt → Nat
  | .p0 _ => 0
  | .p9 _ _ _ => 9
def laws_toInhibitS.st : laws_toInhibitS.Pt → St
  | .p0 a0 => enter [.v (.sl false (.pair (.sl false (.pair .str (.pair (.int .i64) (.pair .str .unit)))) (.pair (.sl false (.pair .str (.pair (.int .i64) (.pair .str .unit)))) (.pair (.sl false .str) .unit)))) a0] 0
  | .p9 y1 y2 y3 => ⟨[(0, .im (.sl false (.pair (.sl false (.pair .str (.pair (.int .i64) (.pair .str .unit)))) (.pair (.sl false (.pair .str (.pair (.int .i64) (.pair .str .unit)))) (.pair (.sl false .str) .unit)))) y1), (3, .hs 0 [] none 0), (4, .im (.int .i64) y2)], [(0, .arr false (.pair (.sl false (.pair .str (.pair (.int .i64) (.pair .str .unit)))) (.pair (.sl false (.pair .str (.pair (.int .i64) (.pair .str .unit)))) (.pair (.sl false .str) .unit))) y3 0)], 1⟩
def laws_toInhibitS.step (n : Nat) (K : laws_toInhibitS.Pt → Option (Tup [(.sl false (.pair (.sl false (.pair .str (.pair (.int .i64) (.pair .str .unit)))) (.pair (.sl false (.pair .str (.pair (.int .i64) (.pair .str .unit)))) (.pair (.sl false .str) .unit))))])) : laws_toInhibitS.Pt → Option (Tup [(.sl false (.pair (.sl false (.pair .str (.pair (.int .i64) (.pair .str .unit)))) (.pair (.sl false (.pair .str (.pair (.int .i64) (.pair .str .unit)))) (.pair (.sl false .str) .unit))))])
  | .p0 a0 => cond (inC ((List.length a0) : Int) ((List.length a0) : Int) 1000000000) (K (.p9 a0 (0 : Int) (List.replicate (Int.toNat ((List.length a0) : Int)) (default : (List ((ByteArray) × ((Int) × ((ByteArray) × (Unit))))) × ((List ((ByteArray) × ((Int) × ((ByteArray) × (Unit))))) × ((List (ByteArray)) × (Unit))))))) (none)
  | .p9 y1 y2 y3 => cond (decide (y2 < ((List.length y1) : Int))) (cond (inB y2 (List.length y1)) ((laws_toInhibit n ((List.getD y1 (Int.toNat y2) default).1, ((List.getD y1 (Int.toNat y2) default).2.1, ((List.getD y1 (Int.toNat y2) default).2.2.1, ())))).bind fun r6 => cond (inB y2 (List.length y3)) (K (.p9 y1 (IntKind.wrap .i64 (y2 + (1 : Int))) (List.set y3 (0 + (Int.toNat y2)) r6))) (none)) (none)) (some y3)
def laws_toInhibitS (n : Nat) (a0 : List ((List ((ByteArray) × ((Int) × ((ByteArray) × (Unit))))) × ((List ((ByteArray) × ((Int) × ((ByteArray) × (Unit))))) × ((List (ByteArray)) × (Unit))))) : Option (Tup [(.sl false (.pair (.sl false (.pair .str (.pair (.int .i64) (.pair .str .unit)))) (.pair (.sl false (.pair .str (.pair (.int .i64) (.pair .str .unit)))) (.pair (.sl false .str) .unit))))]) := goRec laws_toInhibitS.step n (.p0 a0)
def laws_toInhibitS.spec : Ctr := ⟨41, [.v (.sl false (.pair (.sl false (.pair .str (.pair (.int .i64) (.pair .str .unit)))) (.pair (.sl false (.pair .str (.pair (.int .i64) (.pair .str .unit)))) (.pair (.sl false .str) .unit))))], [(.sl false (.pair (.sl false (.pair .str (.pair (.int .i64) (.pair .str .unit)))) (.pair (.sl false (.pair .str (.pair (.int .i64) (.pair .str .unit)))) (.pair (.sl false .str) .unit))))], [], fun n x => laws_toInhibitS n x.1⟩
theorem laws_toInhibitS.seg_eq : SegEq ty gl laws_toInhibitS.F laws_toInhibitS.md laws_toInhibitS.T laws_toInhibitS.spec laws_toInhibitS.lb laws_toInhibitS.st laws_toInhibitS.step := by
  intro n goto y; cases y <;> kernel_rfl
theorem laws_toInhibitS.text : Text Go.Proofs.Tryz.prog laws_toInhibitS.F laws_toInhibitS.spec := textOf Go.Proofs.Tryz.f41
theorem laws_toInhibitS.ok : CtrOK Go.Proofs.Tryz.prog gl laws_toInhibitS.spec :=
  ctr_okS tabs laws_toInhibitS.text laws_toInhibitS.seg_eq (fun n x => ⟨.p0 x.1, rfl, rfl, rfl⟩) (consC laws_toInhibit.ok (nilC))

/-! loop.example/g00039/laws.toNotifyConf -/
def laws_toNotifyConf.T : List Ctr := [laws_toRouteS.spec, laws_toIntervalS.spec, laws_toSilenceS.spec, laws_toInhibitS.spec]
def laws_toNotifyConf.md : List (Nat × List Md) := []
noncomputable def laws_toNotifyConf.F : Fun := ⟨(Go.Proofs.Tryz.f9.body).getD .skip, [.v (.pair (.sl false (.pair .str (.pair (.sl false (.pair .str (.pair (.int .i64) (.pair .str .unit)))) (.pair (.sl false .str) (.pair (.int .i64) (.pair (.int .i64) (.pair (.int .i64) (.pair (.sl false (.int .i64)) (.pair .bool (.pair (.int .i64) .unit)))))))))) (.pair (.sl false (.pair (.int .i64) (.pair (.sl false (.pair (.int .i64) (.pair (.int .i64) .unit))) (.pair (.sl false (.pair (.int .i64) (.pair (.int .i64) .unit))) (.pair (.sl false (.pair (.int .i64) (.pair (.int .i64) .unit))) (.pair (.sl false (.pair (.int .i64) (.pair (.int .i64) .unit))) (.pair (.sl false (.pair (.int .i64) (.pair (.int .i64) .unit))) (.pair (.sl false (.int .i64)) .unit)))))))) (.pair (.sl false (.pair .str (.pair (.sl false (.pair .str (.pair (.int .i64) (.pair .str .unit)))) (.pair (.int .i64) (.pair (.int .i64) .unit))))) (.pair (.sl false (.pair (.sl false (.pair .str (.pair (.int .i64) (.pair .str .unit)))) (.pair (.sl false (.pair .str (.pair (.int .i64) (.pair .str .unit)))) (.pair (.sl false .str) .unit)))) .unit))))], [(.cell 2 35, (.pair (.sl false (.pair .str (.pair (.sl false (.pair .str (.pair (.int .i64) (.pair .str .unit)))) (.pair (.sl false .str) (.pair (.int .i64) (.pair (.int .i64) (.pair (.int .i64) (.pair (.sl false (.int .i64)) (.pair .bool (.pair (.int .i64) .unit)))))))))) (.pair (.sl false (.pair (.int .i64) (.pair (.sl false (.pair (.int .i64) (.pair (.int .i64) .unit))) (.pair (.sl false (.pair (.int .i64) (.pair (.int .i64) .unit))) (.pair (.sl false (.pair (.int .i64) (.pair (.int .i64) .unit))) (.pair (.sl false (.pair (.int .i64) (.pair (.int .i64) .unit))) (.pair (.sl false (.pair (.int .i64) (.pair (.int .i64) .unit))) (.pair (.sl false (.int .i64)) .unit)))))))) (.pair (.sl false (.pair .str (.pair (.sl false (.pair .str (.pair (.int .i64) (.pair .str .unit)))) (.pair (.int .i64) (.pair (.int .i64) .unit))))) (.pair (.sl false (.pair (.sl false (.pair .str (.pair (.int .i64) (.pair .str .unit)))) (.pair (.sl false (.pair .str (.pair (.int .i64) (.pair .str .unit)))) (.pair (.sl false .str) .unit)))) .unit)))))], [], 0, []⟩
inductive laws_toNotifyConf.Pt where
  | p0 (a0 : (List ((ByteArray) × ((List ((ByteArray) × ((Int) × ((ByteArray) × (Unit))))) × ((List (ByteArray)) × ((Int) × ((Int) × ((Int) × ((List (Int)) × ((Bool) × ((Int) × (Unit))))))))))) × ((List ((Int) × ((List ((Int) × ((Int) × (Unit)))) × ((List ((Int) × ((Int) × (Unit)))) × ((List ((Int) × ((Int) × (Unit)))) × ((List ((Int) × ((Int) × (Unit)))) × ((List ((Int) × ((Int) × (Unit)))) × ((List (Int)) × (Unit))))))))) × ((List ((ByteArray) × ((List ((ByteArray) × ((Int) × ((ByteArray) × (Unit))))) × ((Int) × ((Int) × (Unit)))))) × ((List ((List ((ByteArray) × ((Int) × ((ByteArray) × (Unit))))) × ((List ((ByteArray) × ((Int) × ((ByteArray) × (Unit))))) × ((List (ByteArray)) × (Unit))))) × (Unit)))))
def laws_toNotifyConf.lb : laws_toNotifyConf.Pt → Nat
  | .p0 _ => 0
def laws_toNotifyConf.st : laws_toNotifyConf.Pt → St
  | .p0 a0 => enter [.v (.pair (.sl false (.pair .str (.pair (.sl false (.pair .str (.pair (.int .i64) (.pair .str .unit)))) (.pair (.sl false .str) (.pair (.int .i64) (.pair (.int .i64) (.pair (.int .i64) (.pair (.sl false (.int .i64)) (.pair .bool (.pair (.int .i64) .unit)))))))))) (.pair (.sl false (.pair (.int .i64) (.pair (.sl false (.pair (.int .i64) (.pair (.int .i64) .unit))) (.pair (.sl false (.pair (.int .i64) (.pair (.int .i64) .unit))) (.pair (.sl false (.pair (.int .i64) (.pair (.int .i64) .unit))) (.pair (.sl false (.pair (.int .i64) (.pair (.int .i64) .unit))) (.pair (.sl false (.pair (.int .i64) (.pair (.int .i64) .unit))) (.pair (.sl false (.int .i64)) .unit)))))))) (.pair (.sl false (.pair .str (.pair (.sl false (.pair .str (.pair (.int .i64) (.pair .str .unit)))) (.pair (.int .i64) (.pair (.int .i64) .unit))))) (.pair (.sl false (.pair (.sl false (.pair .str (.pair (.int .i64) (.pair .str .unit)))) (.pair (.sl false (.pair .str (.pair (.int .i64) (.pair .str .unit)))) (.pair (.sl false .str) .unit)))) .unit)))) a0] 0
def laws_toNotifyConf.step (n : Nat) (K : laws_toNotifyConf.Pt → Option (Tup [(.pair (.sl false (.pair .str (.pair (.sl false (.pair .str (.pair (.int .i64) (.pair .str .unit)))) (.pair (.sl false .str) (.pair (.int .i64) (.pair (.int .i64) (.pair (.int .i64) (.pair (.sl false (.int .i64)) (.pair .bool (.pair (.int .i64) .unit)))))))))) (.pair (.sl false (.pair (.int .i64) (.pair (.sl false (.pair (.int .i64) (.pair (.int .i64) .unit))) (.pair (.sl false (.pair (.int .i64) (.pair (.int .i64) .unit))) (.pair (.sl false (.pair (.int .i64) (.pair (.int .i64) .unit))) (.pair (.sl false (.pair (.int .i64) (.pair (.int .i64) .unit))) (.pair (.sl false (.pair (.int .i64) (.pair (.int .i64) .unit))) (.pair (.sl false (.int .i64)) .unit)))))))) (.pair (.sl false (.pair .str (.pair (.sl false (.pair .str (.pair (.int .i64) (.pair .str .unit)))) (.pair (.int .i64) (.pair (.int .i64) .unit))))) (.pair (.sl false (.pair (.sl false (.pair .str (.pair (.int .i64) (.pair .str .unit)))) (.pair (.sl false (.pair .str (.pair (.int .i64) (.pair .str .unit)))) (.pair (.sl false .str) .unit)))) .unit))))])) : laws_toNotifyConf.Pt → Option (Tup [(.pair (.sl false (.pair .str (.pair (.sl false (.pair .str (.pair (.int .i64) (.pair .str .unit)))) (.pair (.sl false .str) (.pair (.int .i64) (.pair (.int .i64) (.pair (.int .i64) (.pair (.sl false (.int .i64)) (.pair .bool (.pair (.int .i64) .unit)))))))))) (.pair (.sl false (.pair (.int .i64) (.pair (.sl false (.pair (.int .i64) (.pair (.int .i64) .unit))) (.pair (.sl false (.pair (.int .i64) (.pair (.int .i64) .unit))) (.pair (.sl false (.pair (.int .i64) (.pair (.int .i64) .unit))) (.pair (.sl false (.pair (.int .i64) (.pair (.int .i64) .unit))) (.pair (.sl false (.pair (.int .i64) (.pair (.int .i64) .unit))) (.pair (.sl false (.int .i64)) .unit)))))))) (.pair (.sl false (.pair .str (.pair (.sl false (.pair .str (.pair (.int .i64) (.pair .str .unit)))) (.pair (.int .i64) (.pair (.int .i64) .unit))))) (.pair (.sl false (.pair (.sl false (.pair .str (.pair (.int .i64) (.pair .str .unit)))) (.pair (.sl false (.pair .str (.pair (.int .i64) (.pair .str .unit)))) (.pair (.sl false .str) .unit)))) .unit))))])
  | .p0 a0 => (laws_toRouteS n a0.1).bind fun r4 => (laws_toIntervalS n a0.2.1).bind fun r5 => (laws_toSilenceS n a0.2.2.1).bind fun r6 => (laws_toInhibitS n a0.2.2.2.1).bind fun r7 => some (r4, (r5, (r6, (r7, ()))))
def laws_toNotifyConf (n : Nat) (a0 : (List ((ByteArray) × ((List ((ByteArray) × ((Int) × ((ByteArray) × (Unit))))) × ((List (ByteArray)) × ((Int) × ((Int) × ((Int) × ((List (Int)) × ((Bool) × ((Int) × (Unit))))))))))) × ((List ((Int) × ((List ((Int) × ((Int) × (Unit)))) × ((List ((Int) × ((Int) × (Unit)))) × ((List ((Int) × ((Int) × (Unit)))) × ((List ((Int) × ((Int) × (Unit)))) × ((List ((Int) × ((Int) × (Unit)))) × ((List (Int)) × (Unit))))))))) × ((List ((ByteArray) × ((List ((ByteArray) × ((Int) × ((ByteArray) × (Unit))))) × ((Int) × ((Int) × (Unit)))))) × ((List ((List ((ByteArray) × ((Int) × ((ByteArray) × (Unit))))) × ((List ((ByteArray) × ((Int) × ((ByteArray) × (Unit))))) × ((List (ByteArray)) × (Unit))))) × (Unit))))) : Option (Tup [(.pair (.sl false (.pair .str (.pair (.sl false (.pair .str (.pair (.int .i64) (.pair .str .unit)))) (.pair (.sl false .str) (.pair (.int .i64) (.pair (.int .i64) (.pair (.int .i64) (.pair (.sl false (.int .i64)) (.pair .bool (.pair (.int .i64) .unit)))))))))) (.pair (.sl false (.pair (.int .i64) (.pair (.sl false (.pair (.int .i64) (.pair (.int .i64) .unit))) (.pair (.sl false (.pair (.int .i64) (.pair (.int .i64) .unit))) (.pair (.sl false (.pair (.int .i64) (.pair (.int .i64) .unit))) (.pair (.sl false (.pair (.int .i64) (.pair (.int .i64) .unit))) (.pair (.sl false (.pair (.int .i64) (.pair (.int .i64) .unit))) (.pair (.sl false (.int .i64)) .unit)))))))) (.pair (.sl false (.pair .str (.pair (.sl false (.pair .str (.pair (.int .i64) (.pair .str .unit)))) (.pair (.int .i64) (.pair (.int .i64) .unit))))) (.pair (.sl false (.pair (.sl false (.pair .str (.pair (.int .i64) (.pair .str .unit)))) (.pair (.sl false (.pair .str (.pair (.int .i64) (.pair .str .unit)))) (.pair (.sl false .str) .unit)))) .unit))))]) := goRec laws_toNotifyConf.step n (.p0 a0)
def laws_toNotifyConf.spec : Ctr := ⟨9, [.v (.pair (.sl false (.pair .str (.pair (.sl false (.pair .str (.pair (.int .i64) (.pair .str .unit)))) (.pair (.sl false .str) (.pair (.int .i64) (.pair (.int .i64) (.pair (.int .i64) (.pair (.sl false (.int .i64)) (.pair .bool (.pair (.int .i64) .unit)))))))))) (.pair (.sl false (.pair (.int .i64) (.pair (.sl false (.pair (.int .i64) (.pair (.int .i64) .unit))) (.pair (.sl false (.pair (.int .i64) (.pair (.int .i64) .unit))) (.pair (.sl false (.pair (.int .i64) (.pair (.int .i64) .unit))) (.pair (.sl false (.pair (.int .i64) (.pair (.int .i64) .unit))) (.pair (.sl false (.pair (.int .i64) (.pair (.int .i64) .unit))) (.pair (.sl false (.int .i64)) .unit)))))))) (.pair (.sl false (.pair .str (.pair (.sl false (.pair .str (.pair (.int .i64) (.pair .str .unit)))) (.pair (.int .i64) (.pair (.int .i64) .unit))))) (.pair (.sl false (.pair (.sl false (.pair .str (.pair (.int .i64) (.pair .str .unit)))) (.pair (.sl false (.pair .str (.pair (.int .i64) (.pair .str .unit)))) (.pair (.sl false .str) .unit)))) .unit))))], [(.pair (.sl false (.pair .str (.pair (.sl false (.pair .str (.pair (.int .i64) (.pair .str .unit)))) (.pair (.sl false .str) (.pair (.int .i64) (.pair (.int .i64) (.pair (.int .i64) (.pair (.sl false (.int .i64)) (.pair .bool (.pair (.int .i64) .unit)))))))))) (.pair (.sl false (.pair (.int .i64) (.pair (.sl false (.pair (.int .i64) (.pair (.int .i64) .unit))) (.pair (.sl false (.pair (.int .i64) (.pair (.int .i64) .unit))) (.pair (.sl false (.pair (.int .i64) (.pair (.int .i64) .unit))) (.pair (.sl false (.pair (.int .i64) (.pair (.int .i64) .unit))) (.pair (.sl false (.pair (.int .i64) (.pair (.int .i64) .unit))) (.pair (.sl false (.int .i64)) .unit)))))))) (.pair (.sl false (.pair .str (.pair (.sl false (.pair .str (.pair (.int .i64) (.pair .str .unit)))) (.pair (.int .i64) (.pair (.int .i64) .unit))))) (.pair (.sl false (.pair (.sl false (.pair .str (.pair (.int .i64) (.pair .str .unit)))) (.pair (.sl false (.pair .str (.pair (.int .i64) (.pair .str .unit)))) (.pair (.sl false .str) .unit)))) .unit))))], [], fun n x => laws_toNotifyConf n x.1⟩
theorem laws_toNotifyConf.seg_eq : SegEq ty gl laws_toNotifyConf.F laws_toNotifyConf.md laws_toNotifyConf.T laws_toNotifyConf.spec laws_toNotifyConf.lb laws_toNotifyConf.st laws_toNotifyConf.step := by
  intro n goto y; cases y <;> kernel_rfl
theorem laws_toNotifyConf.text : Text Go.Proofs.Tryz.prog laws_toNotifyConf.F laws_toNotifyConf.spec := textOf Go.Proofs.Tryz.f9
theorem laws_toNotifyConf.ok : CtrOK Go.Proofs.Tryz.prog gl laws_toNotifyConf.spec :=
  ctr_okS tabs laws_toNotifyConf.text laws_toNotifyConf.seg_eq (fun n x => ⟨.p0 x.1, rfl, rfl, rfl⟩) (consC laws_toRouteS.ok (consC laws_toIntervalS.ok (consC laws_toSilenceS.ok (consC laws_toInhibitS.ok (nilC)))))

/-! loop.example/g00039/spec.l2Digit -/
def spec_l2Digit.T : List Ctr := []
def spec_l2Digit.md : List (Nat × List Md) := []
noncomputable def spec_l2Digit.F : Fun := ⟨(Go.Proofs.Tryz.f130.body).getD .skip, [.v (.int .u8)], [(.tmp 2, .bool)], [], 0, []⟩
inductive spec_l2Digit.Pt where
  | p0 (a0 : Int)
def spec_l2Digit.lb : spec_l2Digit.Pt → Nat
  | .p0 _ => 0
def spec_l2Digit.st : spec_l2Digit.Pt → St
  | .p0 a0 => enter [.v (.int .u8) a0] 0
def spec_l2Digit.step (n : Nat) (K : spec_l2Digit.Pt → Option (Tup [.bool])) : spec_l2Digit.Pt → Option (Tup [.bool])
  | .p0 a0 => cond (decide ((48 : Int) ≤ a0)) (some (decide (a0 ≤ (57 : Int)))) (some false)
def spec_l2Digit (n : Nat) (a0 : Int) : Option (Tup [.bool]) := goRec spec_l2Digit.step n (.p0 a0)
def spec_l2Digit.spec : Ctr := ⟨130, [.v (.int .u8)], [.bool], [], fun n x => spec_l2Digit n x.1⟩
theorem spec_l2Digit.seg_eq : SegEq ty gl spec_l2Digit.F spec_l2Digit.md spec_l2Digit.T spec_l2Digit.spec spec_l2Digit.lb spec_l2Digit.st spec_l2Digit.step := by
  intro n goto y; cases y <;> kernel_rfl
theorem spec_l2Digit.text : Text Go.Proofs.Tryz.prog spec_l2Digit.F spec_l2Digit.spec := textOf Go.Proofs.Tryz.f130
theorem spec_l2Digit.ok : CtrOK Go.Proofs.Tryz.prog gl spec_l2Digit.spec :=
  ctr_okS tabs spec_l2Digit.text spec_l2Digit.seg_eq (fun n x => ⟨.p0 x.1, rfl, rfl, rfl⟩) (nilC)

/-! loop.example/g00039/spec.l2Letter -/
def spec_l2Letter.T : List Ctr := []
def spec_l2Letter.md : List (Nat × List Md) := []
noncomputable def spec_l2Letter.F : Fun := ⟨(Go.Proofs.Tryz.f131.body).getD .skip, [.v (.int .u8)], [(.tmp 2, .bool)], [], 0, []⟩
inductive spec_l2Letter.Pt where
  | p0 (a0 : Int)
def spec_l2Letter.lb : spec_l2Letter.Pt → Nat
  | .p0 _ => 0
def spec_l2Letter.st : spec_l2Letter.Pt → St
  | .p0 a0 => enter [.v (.int .u8) a0] 0
def spec_l2Letter.step (n : Nat) (K : spec_l2Letter.Pt → Option (Tup [.bool])) : spec_l2Letter.Pt → Option (Tup [.bool])
  | .p0 a0 => cond (decide ((97 : Int) ≤ a0)) (cond (decide (a0 ≤ (122 : Int))) (some true) (cond (decide ((65 : Int) ≤ a0)) (some (decide (a0 ≤ (90 : Int)))) (some false))) (cond (decide ((65 : Int) ≤ a0)) (some (decide (a0 ≤ (90 : Int)))) (some false))
def spec_l2Letter (n : Nat) (a0 : Int) : Option (Tup [.bool]) := goRec spec_l2Letter.step n (.p0 a0)
def spec_l2Letter.spec : Ctr := ⟨131, [.v (.int .u8)], [.bool], [], fun n x => spec_l2Letter n x.1⟩
theorem spec_l2Letter.seg_eq : SegEq ty gl spec_l2Letter.F spec_l2Letter.md spec_l2Letter.T spec_l2Letter.spec spec_l2Letter.lb spec_l2Letter.st spec_l2Letter.step := by
  intro n goto y; cases y <;> kernel_rfl
theorem spec_l2Letter.text : Text Go.Proofs.Tryz.prog spec_l2Letter.F spec_l2Letter.spec := textOf Go.Proofs.Tryz.f131
theorem spec_l2Letter.ok : CtrOK Go.Proofs.Tryz.prog gl spec_l2Letter.spec :=
  ctr_okS tabs spec_l2Letter.text spec_l2Letter.seg_eq (fun n x => ⟨.p0 x.1, rfl, rfl, rfl⟩) (nilC)

/-! loop.example/g00039/spec.l2Name -/
def spec_l2Name.T : List Ctr := [spec_l2Digit.spec, spec_l2Letter.spec]
def spec_l2Name.md : List (Nat × List Md) := []
noncomputable def spec_l2Name.F : Fun := ⟨(Go.Proofs.Tryz.f80.body).getD .skip, [.v .str], [(.tmp 2, .bool)], [], 0, [(4, ⟨[0, 16], [], [], false⟩), (15, ⟨[0, 3], [], [], false⟩), (24, ⟨[0, 3, 40], [], [], false⟩)]⟩
inductive spec_l2Name.Pt where
  | p0 (a0 : ByteArray)
  | p4 (y1 : ByteArray) (y2 : Bool)
  | p15 (y1 : ByteArray) (y2 : Int)
  | p24 (y1 : ByteArray) (y2 : Int) (y3 : Bool)
def spec_l2Name.lb : spec_l2Name.Pt → Nat
  | .p0 _ => 0
  | .p4 _ _ => 4
  | .p15 _ _ => 15
  | .p24 _ _ _ => 24
def spec_l2Name.st : spec_l2Name.Pt → St
  | .p0 a0 => enter [.v .str a0] 0
  | .p4 y1 y2 => ⟨[(0, .im .str y1), (16, .im .bool y2)], [], 0⟩
  | .p15 y1 y2 => ⟨[(0, .im .str y1), (3, .im (.int .i64) y2)], [], 0⟩
  | .p24 y1 y2 y3 => ⟨[(0, .im .str y1), (3, .im (.int .i64) y2), (40, .im .bool y3)], [], 0⟩
def spec_l2Name.step (n : Nat) (K : spec_l2Name.Pt → Option (Tup [.bool])) : spec_l2Name.Pt → Option (Tup [.bool])
  | .p0 a0 => cond (decide (((ByteArray.size a0) : Int) < (1 : Int))) (K (.p4 a0 true)) (cond (decide ((40 : Int) < ((ByteArray.size a0) : Int))) (K (.p4 a0 true)) (cond (inB (0 : Int) (ByteArray.size a0)) ((spec_l2Digit n (bt a0 (0 : Int))).bind fun r4 => K (.p4 a0 r4)) (none)))
  | .p4 y1 y2 => cond y2 (some false) (K (.p15 y1 (0 : Int)))
  | .p15 y1 y2 => cond (decide (y2 < ((ByteArray.size y1) : Int))) (cond (inB y2 (ByteArray.size y1)) ((spec_l2Letter n (bt y1 y2)).bind fun r5 => cond (!r5) (cond (inB y2 (ByteArray.size y1)) ((spec_l2Digit n (bt y1 y2)).bind fun r6 => cond (!r6) (cond (inB y2 (ByteArray.size y1)) (K (.p24 y1 y2 (!(decide ((bt y1 y2) = (95 : Int)))))) (none)) (K (.p24 y1 y2 false))) (none)) (K (.p24 y1 y2 false))) (none)) (some true)
  | .p24 y1 y2 y3 => cond y3 (some false) (K (.p15 y1 (IntKind.wrap .i64 (y2 + (1 : Int)))))
def spec_l2Name (n : Nat) (a0 : ByteArray) : Option (Tup [.bool]) := goRec spec_l2Name.step n (.p0 a0)
def spec_l2Name.spec : Ctr := ⟨80, [.v .str], [.bool], [], fun n x => spec_l2Name n x.1⟩
theorem spec_l2Name.seg_eq : SegEq ty gl spec_l2Name.F spec_l2Name.md spec_l2Name.T spec_l2Name.spec spec_l2Name.lb spec_l2Name.st spec_l2Name.step := by
  intro n goto y; cases y <;> kernel_rfl
theorem spec_l2Name.text : Text Go.Proofs.Tryz.prog spec_l2Name.F spec_l2Name.spec := textOf Go.Proofs.Tryz.f80
theorem spec_l2Name.ok : CtrOK Go.Proofs.Tryz.prog gl spec_l2Name.spec :=
  ctr_okS tabs spec_l2Name.text spec_l2Name.seg_eq (fun n x => ⟨.p0 x.1, rfl, rfl, rfl⟩) (consC spec_l2Digit.ok (consC spec_l2Letter.ok (nilC)))

/-! loop.example/g00039/spec.l2Printed -/
def spec_l2Printed.T : List Ctr := []
def spec_l2Printed.md : List (Nat × List Md) := []
noncomputable def spec_l2Printed.F : Fun := ⟨(Go.Proofs.Tryz.f132.body).getD .skip, [.v .str], [(.tmp 2, .bool)], [], 0, [(7, ⟨[0, 3], [], [], false⟩)]⟩
inductive spec_l2Printed.Pt where
  | p0 (a0 : ByteArray)
  | p7 (y1 : ByteArray) (y2 : Int)
def spec_l2Printed.lb : spec_l2Printed.Pt → Nat
  | .p0 _ => 0
  | .p7 _ _ => 7
def spec_l2Printed.st : spec_l2Printed.Pt → St
  | .p0 a0 => enter [.v .str a0] 0
  | .p7 y1 y2 => ⟨[(0, .im .str y1), (3, .im (.int .i64) y2)], [], 0⟩
def spec_l2Printed.step (n : Nat) (K : spec_l2Printed.Pt → Option (Tup [.bool])) : spec_l2Printed.Pt → Option (Tup [.bool])
  | .p0 a0 => K (.p7 a0 (0 : Int))
  | .p7 y1 y2 => cond (decide (y2 < ((ByteArray.size y1) : Int))) (cond (inB y2 (ByteArray.size y1)) (cond (decide ((bt y1 y2) < (32 : Int))) (some false) (cond (inB y2 (ByteArray.size y1)) (cond (decide ((126 : Int) < (bt y1 y2))) (some false) (K (.p7 y1 (IntKind.wrap .i64 (y2 + (1 : Int)))))) (none))) (none)) (some true)
def spec_l2Printed (n : Nat) (a0 : ByteArray) : Option (Tup [.bool]) := goRec spec_l2Printed.step n (.p0 a0)
def spec_l2Printed.spec : Ctr := ⟨132, [.v .str], [.bool], [], fun n x => spec_l2Printed n x.1⟩
theorem spec_l2Printed.seg_eq : SegEq ty gl spec_l2Printed.F spec_l2Printed.md spec_l2Printed.T spec_l2Printed.spec spec_l2Printed.lb spec_l2Printed.st spec_l2Printed.step := by
  intro n goto y; cases y <;> kernel_rfl
theorem spec_l2Printed.text : Text Go.Proofs.Tryz.prog spec_l2Printed.F spec_l2Printed.spec := textOf Go.Proofs.Tryz.f132
theorem spec_l2Printed.ok : CtrOK Go.Proofs.Tryz.prog gl spec_l2Printed.spec :=
  ctr_okS tabs spec_l2Printed.text spec_l2Printed.seg_eq (fun n x => ⟨.p0 x.1, rfl, rfl, rfl⟩) (nilC)

/-! loop.example/g00039/spec.l2Alternatives -/
def spec_l2Alternatives.T : List Ctr := [spec_l2Printed.spec]
def spec_l2Alternatives.md : List (Nat × List Md) := []
noncomputable def spec_l2Alternatives.F : Fun := ⟨(Go.Proofs.Tryz.f178.body).getD .skip, [.v .str], [(.tmp 2, (.sl false (.sl false (.int .i64)))), (.tmp 3, .bool)], [], 0, [(8, ⟨[0, 4, 5, 14], [(4, (.sl false (.int .i64))), (5, (.int .i64))], [], false⟩), (19, ⟨[0, 4, 5, 6], [(4, (.sl false (.int .i64))), (5, (.int .i64))], [], false⟩), (51, ⟨[0, 4, 5, 6, 78], [(4, (.sl false (.int .i64))), (5, (.int .i64))], [], false⟩)]⟩
inductive spec_l2Alternatives.Pt where
  | p0 (a0 : ByteArray)
  | p8 (y1 : ByteArray) (y2 : Bool) (y3 : List (List (Int))) (y4 : List (Int))
  | p19 (y1 : ByteArray) (y2 : Int) (y3 : List (List (Int))) (y4 : List (Int))
  | p51 (y1 : ByteArray) (y2 : Int) (y3 : Bool) (y4 : List (List (Int))) (y5 : List (Int))
def spec_l2Alternatives.lb : spec_l2Alternatives.Pt → Nat
  | .p0 _ => 0
  | .p8 _ _ _ _ => 8
  | .p19 _ _ _ _ => 19
  | .p51 _ _ _ _ _ => 51
def spec_l2Alternatives.st : spec_l2Alternatives.Pt → St
  | .p0 a0 => enter [.v .str a0] 0
  | .p8 y1 y2 y3 y4 => ⟨[(0, .im .str y1), (4, .hs 0 [] none 0), (5, .hs 1 [] none 0), (14, .im .bool y2)], [(0, .arr true (.sl false (.int .i64)) y3 0), (1, .arr true (.int .i64) y4 0)], 2⟩
  | .p19 y1 y2 y3 y4 => ⟨[(0, .im .str y1), (4, .hs 0 [] none 0), (5, .hs 1 [] none 0), (6, .im (.int .i64) y2)], [(0, .arr true (.sl false (.int .i64)) y3 0), (1, .arr true (.int .i64) y4 0)], 2⟩
  | .p51 y1 y2 y3 y4 y5 => ⟨[(0, .im .str y1), (4, .hs 0 [] none 0), (5, .hs 1 [] none 0), (6, .im (.int .i64) y2), (78, .im .bool y3)], [(0, .arr true (.sl false (.int .i64)) y4 0), (1, .arr true (.int .i64) y5 0)], 2⟩
def spec_l2Alternatives.step (n : Nat) (K : spec_l2Alternatives.Pt → Option (Tup [(.sl false (.sl false (.int .i64))), .bool])) : spec_l2Alternatives.Pt → Option (Tup [(.sl false (.sl false (.int .i64))), .bool])
  | .p0 a0 => cond (decide ((100 : Int) < ((ByteArray.size a0) : Int))) (K (.p8 a0 true ([] : List (List (Int))) ([] : List (Int)))) ((spec_l2Printed n a0).bind fun r4 => K (.p8 a0 (!r4) ([] : List (List (Int))) ([] : List (Int))))
  | .p8 y1 y2 y3 y4 => cond y2 (some (([] : List (List (Int))), false)) (K (.p19 y1 (0 : Int) y3 y4))
  | .p19 y1 y2 y3 y4 => cond (decide (y2 < ((ByteArray.size y1) : Int))) (cond (inB y2 (ByteArray.size y1)) (cond (decide ((bt y1 y2) = (124 : Int))) (cond (room ((List.length y3) + (List.length [y4]))) (K (.p19 y1 (IntKind.wrap .i64 (y2 + (1 : Int))) (y3 ++ [y4]) ([] : List (Int)))) (none)) (cond (decide ((bt y1 y2) = (42 : Int))) (cond (room ((List.length y4) + (List.length [(-(1 : Int))]))) (K (.p19 y1 (IntKind.wrap .i64 (y2 + (1 : Int))) y3 (y4 ++ [(-(1 : Int))]))) (none)) (cond (decide ((bt y1 y2) = (63 : Int))) (cond (room ((List.length y4) + (List.length [(-(2 : Int))]))) (K (.p19 y1 (IntKind.wrap .i64 (y2 + (1 : Int))) y3 (y4 ++ [(-(2 : Int))]))) (none)) (cond (decide ((bt y1 y2) = (92 : Int))) (cond (decide ((IntKind.wrap .i64 (y2 + (1 : Int))) = ((ByteArray.size y1) : Int))) (K (.p51 y1 (IntKind.wrap .i64 (y2 + (1 : Int))) true y3 y4)) (cond (inB (IntKind.wrap .i64 (y2 + (1 : Int))) (ByteArray.size y1)) (cond (!(decide ((bt y1 (IntKind.wrap .i64 (y2 + (1 : Int)))) = (42 : Int)))) (cond (inB (IntKind.wrap .i64 (y2 + (1 : Int))) (ByteArray.size y1)) (cond (!(decide ((bt y1 (IntKind.wrap .i64 (y2 + (1 : Int)))) = (63 : Int)))) (cond (inB (IntKind.wrap .i64 (y2 + (1 : Int))) (ByteArray.size y1)) (cond (!(decide ((bt y1 (IntKind.wrap .i64 (y2 + (1 : Int)))) = (124 : Int)))) (cond (inB (IntKind.wrap .i64 (y2 + (1 : Int))) (ByteArray.size y1)) (K (.p51 y1 (IntKind.wrap .i64 (y2 + (1 : Int))) (!(decide ((bt y1 (IntKind.wrap .i64 (y2 + (1 : Int)))) = (92 : Int)))) y3 y4)) (none)) (K (.p51 y1 (IntKind.wrap .i64 (y2 + (1 : Int))) false y3 y4))) (none)) (K (.p51 y1 (IntKind.wrap .i64 (y2 + (1 : Int))) false y3 y4))) (none)) (K (.p51 y1 (IntKind.wrap .i64 (y2 + (1 : Int))) false y3 y4))) (none))) (cond (inB y2 (ByteArray.size y1)) (cond (room ((List.length y4) + (List.length [(IntKind.wrap .i64 (bt y1 y2))]))) (K (.p19 y1 (IntKind.wrap .i64 (y2 + (1 : Int))) y3 (y4 ++ [(IntKind.wrap .i64 (bt y1 y2))]))) (none)) (none)))))) (none)) (cond (room ((List.length y3) + (List.length [y4]))) (some ((y3 ++ [y4]), true)) (none))
  | .p51 y1 y2 y3 y4 y5 => cond y3 (some (([] : List (List (Int))), false)) (cond (inB y2 (ByteArray.size y1)) (cond (room ((List.length y5) + (List.length [(IntKind.wrap .i64 (bt y1 y2))]))) (K (.p19 y1 (IntKind.wrap .i64 (y2 + (1 : Int))) y4 (y5 ++ [(IntKind.wrap .i64 (bt y1 y2))]))) (none)) (none))
def spec_l2Alternatives (n : Nat) (a0 : ByteArray) : Option (Tup [(.sl false (.sl false (.int .i64))), .bool]) := goRec spec_l2Alternatives.step n (.p0 a0)
def spec_l2Alternatives.spec : Ctr := ⟨178, [.v .str], [(.sl false (.sl false (.int .i64))), .bool], [], fun n x => spec_l2Alternatives n x.1⟩
theorem spec_l2Alternatives.seg_eq : SegEq ty gl spec_l2Alternatives.F spec_l2Alternatives.md spec_l2Alternatives.T spec_l2Alternatives.spec spec_l2Alternatives.lb spec_l2Alternatives.st spec_l2Alternatives.step := by
  intro n goto y; cases y <;> kernel_rfl
theorem spec_l2Alternatives.text : Text Go.Proofs.Tryz.prog spec_l2Alternatives.F spec_l2Alternatives.spec := textOf Go.Proofs.Tryz.f178
theorem spec_l2Alternatives.ok : CtrOK Go.Proofs.Tryz.prog gl spec_l2Alternatives.spec :=
  ctr_okS tabs spec_l2Alternatives.text spec_l2Alternatives.seg_eq (fun n x => ⟨.p0 x.1, rfl, rfl, rfl⟩) (consC spec_l2Printed.ok (nilC))

/-! loop.example/g00039/spec.GoodPattern -/
def spec_GoodPattern.T : List Ctr := [spec_l2Alternatives.spec]
def spec_GoodPattern.md : List (Nat × List Md) := []
noncomputable def spec_GoodPattern.F : Fun := ⟨(Go.Proofs.Tryz.f133.body).getD .skip, [.v .str], [(.tmp 2, .bool)], [], 0, []⟩
inductive spec_GoodPattern.Pt where
  | p0 (a0 : ByteArray)
def spec_GoodPattern.lb : spec_GoodPattern.Pt → Nat
  | .p0 _ => 0
def spec_GoodPattern.st : spec_GoodPattern.Pt → St
  | .p0 a0 => enter [.v .str a0] 0
def spec_GoodPattern.step (n : Nat) (K : spec_GoodPattern.Pt → Option (Tup [.bool])) : spec_GoodPattern.Pt → Option (Tup [.bool])
  | .p0 a0 => (spec_l2Alternatives n a0).bind fun r4 => some r4.2
def spec_GoodPattern (n : Nat) (a0 : ByteArray) : Option (Tup [.bool]) := goRec spec_GoodPattern.step n (.p0 a0)
def spec_GoodPattern.spec : Ctr := ⟨133, [.v .str], [.bool], [], fun n x => spec_GoodPattern n x.1⟩
theorem spec_GoodPattern.seg_eq : SegEq ty gl spec_GoodPattern.F spec_GoodPattern.md spec_GoodPattern.T spec_GoodPattern.spec spec_GoodPattern.lb spec_GoodPattern.st spec_GoodPattern.step := by
  intro n goto y; cases y <;> kernel_rfl
theorem spec_GoodPattern.text : Text Go.Proofs.Tryz.prog spec_GoodPattern.F spec_GoodPattern.spec := textOf Go.Proofs.Tryz.f133
theorem spec_GoodPattern.ok : CtrOK Go.Proofs.Tryz.prog gl spec_GoodPattern.spec :=
  ctr_okS tabs spec_GoodPattern.text spec_GoodPattern.seg_eq (fun n x => ⟨.p0 x.1, rfl, rfl, rfl⟩) (consC spec_l2Alternatives.ok (nilC))

/-! loop.example/g00039/spec.GoodMatchers -/
def spec_GoodMatchers.T : List Ctr := [spec_l2Name.spec, spec_l2Printed.spec, spec_GoodPattern.spec]
def spec_GoodMatchers.md : List (Nat × List Md) := []
noncomputable def spec_GoodMatchers.F : Fun := ⟨(Go.Proofs.Tryz.f81.body).getD .skip, [.v (.sl false (.pair .str (.pair (.int .i64) (.pair .str .unit))))], [(.tmp 2, .bool)], [], 0, [(15, ⟨[8, 9, 10], [(8, (.pair .str (.pair (.int .i64) (.pair .str .unit))))], [], false⟩), (26, ⟨[8, 9, 10, 50], [(8, (.pair .str (.pair (.int .i64) (.pair .str .unit))))], [], false⟩)]⟩
inductive spec_GoodMatchers.Pt where
  | p0 (a0 : List ((ByteArray) × ((Int) × ((ByteArray) × (Unit)))))
  | p15 (y1 : List ((ByteArray) × ((Int) × ((ByteArray) × (Unit))))) (y2 : Int) (y3 : Int)
  | p26 (y1 : List ((ByteArray) × ((Int) × ((ByteArray) × (Unit))))) (y2 : Int) (y3 : Int) (y4 : Bool)
def spec_GoodMatchers.lb : spec_GoodMatchers.Pt → Nat
  | .p0 _ => 0
  | .p15 _ _ _ => 15
  | .p26 _ _ _ _ => 26
def spec_GoodMatchers.st : spec_GoodMatchers.Pt → St
  | .p0 a0 => enter [.v (.sl false (.pair .str (.pair (.int .i64) (.pair .str .unit)))) a0] 0
  | .p15 y1 y2 y3 => ⟨[(8, .im (.sl false (.pair .str (.pair (.int .i64) (.pair .str .unit)))) y1), (9, .im (.int .i64) y2), (10, .im (.int .i64) y3)], [], 0⟩
  | .p26 y1 y2 y3 y4 => ⟨[(8, .im (.sl false (.pair .str (.pair (.int .i64) (.pair .str .unit)))) y1), (9, .im (.int .i64) y2), (10, .im (.int .i64) y3), (50, .im .bool y4)], [], 0⟩
def spec_GoodMatchers.step (n : Nat) (K : spec_GoodMatchers.Pt → Option (Tup [.bool])) : spec_GoodMatchers.Pt → Option (Tup [.bool])
  | .p0 a0 => cond (decide ((10 : Int) < ((List.length a0) : Int))) (some false) (K (.p15 a0 ((List.length a0) : Int) (0 : Int)))
  | .p15 y1 y2 y3 => cond (decide (y3 < y2)) (cond (inB y3 (List.length y1)) ((spec_l2Name n (List.getD y1 (Int.toNat y3) default).1).bind fun r6 => cond (!r6) (K (.p26 y1 y2 y3 true)) (cond (decide ((List.getD y1 (Int.toNat y3) default).2.1 < (1 : Int))) (K (.p26 y1 y2 y3 true)) (cond (decide ((4 : Int) < (List.getD y1 (Int.toNat y3) default).2.1)) (K (.p26 y1 y2 y3 true)) (cond (decide ((100 : Int) < ((ByteArray.size (List.getD y1 (Int.toNat y3) default).2.2.1) : Int))) (K (.p26 y1 y2 y3 true)) ((spec_l2Printed n (List.getD y1 (Int.toNat y3) default).2.2.1).bind fun r7 => cond (!r7) (K (.p26 y1 y2 y3 true)) (cond (decide ((3 : Int) ≤ (List.getD y1 (Int.toNat y3) default).2.1)) ((spec_GoodPattern n (List.getD y1 (Int.toNat y3) default).2.2.1).bind fun r8 => K (.p26 y1 y2 y3 (!r8))) (K (.p26 y1 y2 y3 false)))))))) (none)) (some true)
  | .p26 y1 y2 y3 y4 => cond y4 (some false) (K (.p15 y1 y2 (IntKind.wrap .i64 (y3 + (1 : Int)))))
def spec_GoodMatchers (n : Nat) (a0 : List ((ByteArray) × ((Int) × ((ByteArray) × (Unit))))) : Option (Tup [.bool]) := goRec spec_GoodMatchers.step n (.p0 a0)
def spec_GoodMatchers.spec : Ctr := ⟨81, [.v (.sl false (.pair .str (.pair (.int .i64) (.pair .str .unit))))], [.bool], [], fun n x => spec_GoodMatchers n x.1⟩
theorem spec_GoodMatchers.seg_eq : SegEq ty gl spec_GoodMatchers.F spec_GoodMatchers.md spec_GoodMatchers.T spec_GoodMatchers.spec spec_GoodMatchers.lb spec_GoodMatchers.st spec_GoodMatchers.step := by
  intro n goto y; cases y <;> kernel_rfl
theorem spec_GoodMatchers.text : Text Go.Proofs.Tryz.prog spec_GoodMatchers.F spec_GoodMatchers.spec := textOf Go.Proofs.Tryz.f81
theorem spec_GoodMatchers.ok : CtrOK Go.Proofs.Tryz.prog gl spec_GoodMatchers.spec :=
  ctr_okS tabs spec_GoodMatchers.text spec_GoodMatchers.seg_eq (fun n x => ⟨.p0 x.1, rfl, rfl, rfl⟩) (consC spec_l2Name.ok (consC spec_l2Printed.ok (consC spec_GoodPattern.ok (nilC))))

/-! loop.example/g00039/spec.l2CmpNum -/
def spec_l2CmpNum.T : List Ctr := []
def spec_l2CmpNum.md : List (Nat × List Md) := []
noncomputable def spec_l2CmpNum.F : Fun := ⟨(Go.Proofs.Tryz.f134.body).getD .skip, [.v (.int .i64), .v (.int .i64)], [(.tmp 4, (.int .i64))], [], 0, []⟩
inductive spec_l2CmpNum.Pt where
  | p0 (a0 : Int) (a1 : Int)
def spec_l2CmpNum.lb : spec_l2CmpNum.Pt → Nat
  | .p0 _ _ => 0
def spec_l2CmpNum.st : spec_l2CmpNum.Pt → St
  | .p0 a0 a1 => enter [.v (.int .i64) a0, .v (.int .i64) a1] 0
def spec_l2CmpNum.step (n : Nat) (K : spec_l2CmpNum.Pt → Option (Tup [(.int .i64)])) : spec_l2CmpNum.Pt → Option (Tup [(.int .i64)])
  | .p0 a0 a1 => cond (decide (a0 < a1)) (some (-(1 : Int))) (cond (decide (a1 < a0)) (some (1 : Int)) (some (0 : Int)))
def spec_l2CmpNum (n : Nat) (a0 : Int) (a1 : Int) : Option (Tup [(.int .i64)]) := goRec spec_l2CmpNum.step n (.p0 a0 a1)
def spec_l2CmpNum.spec : Ctr := ⟨134, [.v (.int .i64), .v (.int .i64)], [(.int .i64)], [], fun n x => spec_l2CmpNum n x.1 x.2.1⟩
theorem spec_l2CmpNum.seg_eq : SegEq ty gl spec_l2CmpNum.F spec_l2CmpNum.md spec_l2CmpNum.T spec_l2CmpNum.spec spec_l2CmpNum.lb spec_l2CmpNum.st spec_l2CmpNum.step := by
  intro n goto y; cases y <;> kernel_rfl
theorem spec_l2CmpNum.text : Text Go.Proofs.Tryz.prog spec_l2CmpNum.F spec_l2CmpNum.spec := textOf Go.Proofs.Tryz.f134
theorem spec_l2CmpNum.ok : CtrOK Go.Proofs.Tryz.prog gl spec_l2CmpNum.spec :=
  ctr_okS tabs spec_l2CmpNum.text spec_l2CmpNum.seg_eq (fun n x => ⟨.p0 x.1 x.2.1, rfl, rfl, rfl⟩) (nilC)

/-! loop.example/g00039/spec.l2CmpText -/
def spec_l2CmpText.T : List Ctr := [spec_l2CmpNum.spec]
def spec_l2CmpText.md : List (Nat × List Md) := []
noncomputable def spec_l2CmpText.F : Fun := ⟨(Go.Proofs.Tryz.f82.body).getD .skip, [.v .str, .v .str], [(.tmp 4, (.int .i64))], [], 0, [(7, ⟨[0, 1, 5], [], [], false⟩), (9, ⟨[0, 1, 5, 15], [], [], false⟩)]⟩
inductive spec_l2CmpText.Pt where
  | p0 (a0 : ByteArray) (a1 : ByteArray)
  | p7 (y1 : ByteArray) (y2 : ByteArray) (y3 : Int)
  | p9 (y1 : ByteArray) (y2 : ByteArray) (y3 : Int) (y4 : Bool)
def spec_l2CmpText.lb : spec_l2CmpText.Pt → Nat
  | .p0 _ _ => 0
  | .p7 _ _ _ => 7
  | .p9 _ _ _ _ => 9
def spec_l2CmpText.st : spec_l2CmpText.Pt → St
  | .p0 a0 a1 => enter [.v .str a0, .v .str a1] 0
  | .p7 y1 y2 y3 => ⟨[(0, .im .str y1), (1, .im .str y2), (5, .im (.int .i64) y3)], [], 0⟩
  | .p9 y1 y2 y3 y4 => ⟨[(0, .im .str y1), (1, .im .str y2), (5, .im (.int .i64) y3), (15, .im .bool y4)], [], 0⟩
def spec_l2CmpText.step (n : Nat) (K : spec_l2CmpText.Pt → Option (Tup [(.int .i64)])) : spec_l2CmpText.Pt → Option (Tup [(.int .i64)])
  | .p0 a0 a1 => K (.p7 a0 a1 (0 : Int))
  | .p7 y1 y2 y3 => cond (decide (y3 < ((ByteArray.size y1) : Int))) (K (.p9 y1 y2 y3 (decide (y3 < ((ByteArray.size y2) : Int))))) (K (.p9 y1 y2 y3 false))
  | .p9 y1 y2 y3 y4 => cond y4 (cond (inB y3 (ByteArray.size y1)) (cond (inB y3 (ByteArray.size y2)) (cond (!(decide ((bt y1 y3) = (bt y2 y3)))) (cond (inB y3 (ByteArray.size y1)) (cond (inB y3 (ByteArray.size y2)) ((spec_l2CmpNum n (IntKind.wrap .i64 (bt y1 y3)) (IntKind.wrap .i64 (bt y2 y3))).bind fun (r7 : Int) => some r7) (none)) (none)) (K (.p7 y1 y2 (IntKind.wrap .i64 (y3 + (1 : Int)))))) (none)) (none)) ((spec_l2CmpNum n ((ByteArray.size y1) : Int) ((ByteArray.size y2) : Int)).bind fun (r7 : Int) => some r7)
def spec_l2CmpText (n : Nat) (a0 : ByteArray) (a1 : ByteArray) : Option (Tup [(.int .i64)]) := goRec spec_l2CmpText.step n (.p0 a0 a1)
def spec_l2CmpText.spec : Ctr := ⟨82, [.v .str, .v .str], [(.int .i64)], [], fun n x => spec_l2CmpText n x.1 x.2.1⟩
theorem spec_l2CmpText.seg_eq : SegEq ty gl spec_l2CmpText.F spec_l2CmpText.md spec_l2CmpText.T spec_l2CmpText.spec spec_l2CmpText.lb spec_l2CmpText.st spec_l2CmpText.step := by
  intro n goto y; cases y <;> kernel_rfl
theorem spec_l2CmpText.text : Text Go.Proofs.Tryz.prog spec_l2CmpText.F spec_l2CmpText.spec := textOf Go.Proofs.Tryz.f82
theorem spec_l2CmpText.ok : CtrOK Go.Proofs.Tryz.prog gl spec_l2CmpText.spec :=
  ctr_okS tabs spec_l2CmpText.text spec_l2CmpText.seg_eq (fun n x => ⟨.p0 x.1 x.2.1, rfl, rfl, rfl⟩) (consC spec_l2CmpNum.ok (nilC))

/-! loop.example/g00039/spec.l2Rising -/
def spec_l2Rising.T : List Ctr := [spec_l2CmpText.spec]
def spec_l2Rising.md : List (Nat × List Md) := []
noncomputable def spec_l2Rising.F : Fun := ⟨(Go.Proofs.Tryz.f135.body).getD .skip, [.v (.sl false .str)], [(.tmp 2, .bool)], [], 0, [(7, ⟨[0, 3], [], [], false⟩)]⟩
inductive spec_l2Rising.Pt where
  | p0 (a0 : List (ByteArray))
  | p7 (y1 : List (ByteArray)) (y2 : Int)
def spec_l2Rising.lb : spec_l2Rising.Pt → Nat
  | .p0 _ => 0
  | .p7 _ _ => 7
def spec_l2Rising.st : spec_l2Rising.Pt → St
  | .p0 a0 => enter [.v (.sl false .str) a0] 0
  | .p7 y1 y2 => ⟨[(0, .im (.sl false .str) y1), (3, .im (.int .i64) y2)], [], 0⟩
def spec_l2Rising.step (n : Nat) (K : spec_l2Rising.Pt → Option (Tup [.bool])) : spec_l2Rising.Pt → Option (Tup [.bool])
  | .p0 a0 => K (.p7 a0 (1 : Int))
  | .p7 y1 y2 => cond (decide (y2 < ((List.length y1) : Int))) (cond (inB (IntKind.wrap .i64 (y2 - (1 : Int))) (List.length y1)) (cond (inB y2 (List.length y1)) ((spec_l2CmpText n (List.getD y1 (Int.toNat (IntKind.wrap .i64 (y2 - (1 : Int)))) default) (List.getD y1 (Int.toNat y2) default)).bind fun (r5 : Int) => cond (decide ((0 : Int) ≤ r5)) (some false) (K (.p7 y1 (IntKind.wrap .i64 (y2 + (1 : Int)))))) (none)) (none)) (some true)
def spec_l2Rising (n : Nat) (a0 : List (ByteArray)) : Option (Tup [.bool]) := goRec spec_l2Rising.step n (.p0 a0)
def spec_l2Rising.spec : Ctr := ⟨135, [.v (.sl false .str)], [.bool], [], fun n x => spec_l2Rising n x.1⟩
theorem spec_l2Rising.seg_eq : SegEq ty gl spec_l2Rising.F spec_l2Rising.md spec_l2Rising.T spec_l2Rising.spec spec_l2Rising.lb spec_l2Rising.st spec_l2Rising.step := by
  intro n goto y; cases y <;> kernel_rfl
theorem spec_l2Rising.text : Text Go.Proofs.Tryz.prog spec_l2Rising.F spec_l2Rising.spec := textOf Go.Proofs.Tryz.f135
theorem spec_l2Rising.ok : CtrOK Go.Proofs.Tryz.prog gl spec_l2Rising.spec :=
  ctr_okS tabs spec_l2Rising.text spec_l2Rising.seg_eq (fun n x => ⟨.p0 x.1, rfl, rfl, rfl⟩) (consC spec_l2CmpText.ok (nilC))

/-! loop.example/g00039/spec.l15Names -/
def spec_l15Names.T : List Ctr := [spec_l2Name.spec, spec_l2Rising.spec]
def spec_l15Names.md : List (Nat × List Md) := []
noncomputable def spec_l15Names.F : Fun := ⟨(Go.Proofs.Tryz.f83.body).getD .skip, [.v (.sl false .str)], [(.tmp 2, .bool)], [], 0, [(7, ⟨[0, 5, 6, 7], [(5, .str)], [], false⟩)]⟩
inductive spec_l15Names.Pt where
  | p0 (a0 : List (ByteArray))
  | p7 (y1 : List (ByteArray)) (y2 : List (ByteArray)) (y3 : Int) (y4 : Int)
def spec_l15Names.lb : spec_l15Names.Pt → Nat
  | .p0 _ => 0
  | .p7 _ _ _ _ => 7
def spec_l15Names.st : spec_l15Names.Pt → St
  | .p0 a0 => enter [.v (.sl false .str) a0] 0
  | .p7 y1 y2 y3 y4 => ⟨[(0, .im (.sl false .str) y1), (5, .im (.sl false .str) y2), (6, .im (.int .i64) y3), (7, .im (.int .i64) y4)], [], 0⟩
def spec_l15Names.step (n : Nat) (K : spec_l15Names.Pt → Option (Tup [.bool])) : spec_l15Names.Pt → Option (Tup [.bool])
  | .p0 a0 => K (.p7 a0 a0 ((List.length a0) : Int) (0 : Int))
  | .p7 y1 y2 y3 y4 => cond (decide (y4 < y3)) (cond (inB y4 (List.length y2)) ((spec_l2Name n (List.getD y2 (Int.toNat y4) default)).bind fun r7 => cond (!r7) (some false) (K (.p7 y1 y2 y3 (IntKind.wrap .i64 (y4 + (1 : Int)))))) (none)) (cond (decide (((List.length y1) : Int) ≤ (10 : Int))) ((spec_l2Rising n y1).bind fun r7 => some r7) (some false))
def spec_l15Names (n : Nat) (a0 : List (ByteArray)) : Option (Tup [.bool]) := goRec spec_l15Names.step n (.p0 a0)
def spec_l15Names.spec : Ctr := ⟨83, [.v (.sl false .str)], [.bool], [], fun n x => spec_l15Names n x.1⟩
theorem spec_l15Names.seg_eq : SegEq ty gl spec_l15Names.F spec_l15Names.md spec_l15Names.T spec_l15Names.spec spec_l15Names.lb spec_l15Names.st spec_l15Names.step := by
  intro n goto y; cases y <;> kernel_rfl
theorem spec_l15Names.text : Text Go.Proofs.Tryz.prog spec_l15Names.F spec_l15Names.spec := textOf Go.Proofs.Tryz.f83
theorem spec_l15Names.ok : CtrOK Go.Proofs.Tryz.prog gl spec_l15Names.spec :=
  ctr_okS tabs spec_l15Names.text spec_l15Names.seg_eq (fun n x => ⟨.p0 x.1, rfl, rfl, rfl⟩) (consC spec_l2Name.ok (consC spec_l2Rising.ok (nilC)))

/-! loop.example/g00039/spec.l3Time -/
def spec_l3Time.T : List Ctr := []
def spec_l3Time.md : List (Nat × List Md) := []
noncomputable def spec_l3Time.F : Fun := ⟨(Go.Proofs.Tryz.f52.body).getD .skip, [.v (.int .i64)], [(.tmp 2, .bool)], [], 0, []⟩
inductive spec_l3Time.Pt where
  | p0 (a0 : Int)
def spec_l3Time.lb : spec_l3Time.Pt → Nat
  | .p0 _ => 0
def spec_l3Time.st : spec_l3Time.Pt → St
  | .p0 a0 => enter [.v (.int .i64) a0] 0
def spec_l3Time.step (n : Nat) (K : spec_l3Time.Pt → Option (Tup [.bool])) : spec_l3Time.Pt → Option (Tup [.bool])
  | .p0 a0 => cond (decide ((0 : Int) ≤ a0)) (some (decide (a0 ≤ (1000000000000 : Int)))) (some false)
def spec_l3Time (n : Nat) (a0 : Int) : Option (Tup [.bool]) := goRec spec_l3Time.step n (.p0 a0)
def spec_l3Time.spec : Ctr := ⟨52, [.v (.int .i64)], [.bool], [], fun n x => spec_l3Time n x.1⟩
theorem spec_l3Time.seg_eq : SegEq ty gl spec_l3Time.F spec_l3Time.md spec_l3Time.T spec_l3Time.spec spec_l3Time.lb spec_l3Time.st spec_l3Time.step := by
  intro n goto y; cases y <;> kernel_rfl
theorem spec_l3Time.text : Text Go.Proofs.Tryz.prog spec_l3Time.F spec_l3Time.spec := textOf Go.Proofs.Tryz.f52
theorem spec_l3Time.ok : CtrOK Go.Proofs.Tryz.prog gl spec_l3Time.spec :=
  ctr_okS tabs spec_l3Time.text spec_l3Time.seg_eq (fun n x => ⟨.p0 x.1, rfl, rfl, rfl⟩) (nilC)

/-! loop.example/g00039/spec.l9Numbers -/
def spec_l9Numbers.T : List Ctr := []
def spec_l9Numbers.md : List (Nat × List Md) := []
noncomputable def spec_l9Numbers.F : Fun := ⟨(Go.Proofs.Tryz.f84.body).getD .skip, [.v (.sl false (.int .i64))], [(.tmp 2, .bool)], [], 0, [(7, ⟨[0, 5, 6], [], [], false⟩)]⟩
inductive spec_l9Numbers.Pt where
  | p0 (a0 : List (Int))
  | p7 (y1 : List (Int)) (y2 : Int) (y3 : Int)
def spec_l9Numbers.lb : spec_l9Numbers.Pt → Nat
  | .p0 _ => 0
  | .p7 _ _ _ => 7
def spec_l9Numbers.st : spec_l9Numbers.Pt → St
  | .p0 a0 => enter [.v (.sl false (.int .i64)) a0] 0
  | .p7 y1 y2 y3 => ⟨[(0, .im (.sl false (.int .i64)) y1), (5, .im (.int .i64) y2), (6, .im (.int .i64) y3)], [], 0⟩
def spec_l9Numbers.step (n : Nat) (K : spec_l9Numbers.Pt → Option (Tup [.bool])) : spec_l9Numbers.Pt → Option (Tup [.bool])
  | .p0 a0 => K (.p7 a0 ((List.length a0) : Int) (0 : Int))
  | .p7 y1 y2 y3 => cond (decide (y3 < y2)) (cond (decide ((0 : Int) < y3)) (cond (inB (IntKind.wrap .i64 (y3 - (1 : Int))) (List.length y1)) (cond (inB y3 (List.length y1)) (cond (decide ((List.getD y1 (Int.toNat y3) default) ≤ (List.getD y1 (Int.toNat (IntKind.wrap .i64 (y3 - (1 : Int)))) default))) (some false) (K (.p7 y1 y2 (IntKind.wrap .i64 (y3 + (1 : Int)))))) (none)) (none)) (K (.p7 y1 y2 (IntKind.wrap .i64 (y3 + (1 : Int)))))) (some (decide (((List.length y1) : Int) ≤ (1000 : Int))))
def spec_l9Numbers (n : Nat) (a0 : List (Int)) : Option (Tup [.bool]) := goRec spec_l9Numbers.step n (.p0 a0)
def spec_l9Numbers.spec : Ctr := ⟨84, [.v (.sl false (.int .i64))], [.bool], [], fun n x => spec_l9Numbers n x.1⟩
theorem spec_l9Numbers.seg_eq : SegEq ty gl spec_l9Numbers.F spec_l9Numbers.md spec_l9Numbers.T spec_l9Numbers.spec spec_l9Numbers.lb spec_l9Numbers.st spec_l9Numbers.step := by
  intro n goto y; cases y <;> kernel_rfl
theorem spec_l9Numbers.text : Text Go.Proofs.Tryz.prog spec_l9Numbers.F spec_l9Numbers.spec := textOf Go.Proofs.Tryz.f84
theorem spec_l9Numbers.ok : CtrOK Go.Proofs.Tryz.prog gl spec_l9Numbers.spec :=
  ctr_okS tabs spec_l9Numbers.text spec_l9Numbers.seg_eq (fun n x => ⟨.p0 x.1, rfl, rfl, rfl⟩) (nilC)

/-! loop.example/g00039/spec.l20Route -/
def spec_l20Route.T : List Ctr := [spec_l2Name.spec, spec_GoodMatchers.spec, spec_l15Names.spec, spec_l3Time.spec, spec_l9Numbers.spec]
def spec_l20Route.md : List (Nat × List Md) := []
noncomputable def spec_l20Route.F : Fun := ⟨(Go.Proofs.Tryz.f129.body).getD .skip, [.v (.pair .str (.pair (.sl false (.pair .str (.pair (.int .i64) (.pair .str .unit)))) (.pair (.sl false .str) (.pair (.int .i64) (.pair (.int .i64) (.pair (.int .i64) (.pair (.sl false (.int .i64)) (.pair .bool (.pair (.int .i64) .unit)))))))))], [(.tmp 2, .bool)], [], 0, [(4, ⟨[1, 58], [], [(1, 1, (.pair .str (.pair (.int .i64) (.pair .str .unit)))), (1, 2, .str), (1, 6, (.int .i64))], false⟩), (15, ⟨[60, 61, 62], [(60, (.int .i64))], [], false⟩)]⟩
inductive spec_l20Route.Pt where
  | p0 (a0 : (ByteArray) × ((List ((ByteArray) × ((Int) × ((ByteArray) × (Unit))))) × ((List (ByteArray)) × ((Int) × ((Int) × ((Int) × ((List (Int)) × ((Bool) × ((Int) × (Unit))))))))))
  | p4 (y1 : Bool) (y2 : ByteArray) (y3 : List ((ByteArray) × ((Int) × ((ByteArray) × (Unit))))) (y4 : List (ByteArray)) (y5 : Int) (y6 : Int) (y7 : Int) (y8 : List (Int)) (y9 : Bool) (y10 : Int)
  | p15 (y1 : List (Int)) (y2 : Int) (y3 : Int)
def spec_l20Route.lb : spec_l20Route.Pt → Nat
  | .p0 _ => 0
  | .p4 _ _ _ _ _ _ _ _ _ _ => 4
  | .p15 _ _ _ => 15
def spec_l20Route.st : spec_l20Route.Pt → St
  | .p0 a0 => enter [.v (.pair .str (.pair (.sl false (.pair .str (.pair (.int .i64) (.pair .str .unit)))) (.pair (.sl false .str) (.pair (.int .i64) (.pair (.int .i64) (.pair (.int .i64) (.pair (.sl false (.int .i64)) (.pair .bool (.pair (.int .i64) .unit))))))))) a0] 0
  | .p4 y1 y2 y3 y4 y5 y6 y7 y8 y9 y10 => ⟨[(1, .po 0 0), (58, .im .bool y1)], [(0, .obj [.im .str y2, .im (.sl false (.pair .str (.pair (.int .i64) (.pair .str .unit)))) y3, .im (.sl false .str) y4, .im (.int .i64) y5, .im (.int .i64) y6, .im (.int .i64) y7, .im (.sl false (.int .i64)) y8, .im .bool y9, .im (.int .i64) y10])], 1⟩
  | .p15 y1 y2 y3 => ⟨[(60, .im (.sl false (.int .i64)) y1), (61, .im (.int .i64) y2), (62, .im (.int .i64) y3)], [], 0⟩
def spec_l20Route.step (n : Nat) (K : spec_l20Route.Pt → Option (Tup [.bool])) : spec_l20Route.Pt → Option (Tup [.bool])
  | .p0 a0 => (spec_l2Name n a0.1).bind fun r4 => cond (!r4) (K (.p4 true a0.1 a0.2.1 a0.2.2.1 a0.2.2.2.1 a0.2.2.2.2.1 a0.2.2.2.2.2.1 a0.2.2.2.2.2.2.1 a0.2.2.2.2.2.2.2.1 a0.2.2.2.2.2.2.2.2.1)) ((spec_GoodMatchers n a0.2.1).bind fun r5 => cond (!r5) (K (.p4 true a0.1 a0.2.1 a0.2.2.1 a0.2.2.2.1 a0.2.2.2.2.1 a0.2.2.2.2.2.1 a0.2.2.2.2.2.2.1 a0.2.2.2.2.2.2.2.1 a0.2.2.2.2.2.2.2.2.1)) ((spec_l15Names n a0.2.2.1).bind fun r6 => cond (!r6) (K (.p4 true a0.1 a0.2.1 a0.2.2.1 a0.2.2.2.1 a0.2.2.2.2.1 a0.2.2.2.2.2.1 a0.2.2.2.2.2.2.1 a0.2.2.2.2.2.2.2.1 a0.2.2.2.2.2.2.2.2.1)) ((spec_l3Time n a0.2.2.2.1).bind fun r7 => cond (!r7) (K (.p4 true a0.1 a0.2.1 a0.2.2.1 a0.2.2.2.1 a0.2.2.2.2.1 a0.2.2.2.2.2.1 a0.2.2.2.2.2.2.1 a0.2.2.2.2.2.2.2.1 a0.2.2.2.2.2.2.2.2.1)) (cond (decide (a0.2.2.2.2.1 < (1 : Int))) (K (.p4 true a0.1 a0.2.1 a0.2.2.1 a0.2.2.2.1 a0.2.2.2.2.1 a0.2.2.2.2.2.1 a0.2.2.2.2.2.2.1 a0.2.2.2.2.2.2.2.1 a0.2.2.2.2.2.2.2.2.1)) (cond (decide ((1000000000000 : Int) < a0.2.2.2.2.1)) (K (.p4 true a0.1 a0.2.1 a0.2.2.1 a0.2.2.2.1 a0.2.2.2.2.1 a0.2.2.2.2.2.1 a0.2.2.2.2.2.2.1 a0.2.2.2.2.2.2.2.1 a0.2.2.2.2.2.2.2.2.1)) (cond (decide (a0.2.2.2.2.2.1 < (1 : Int))) (K (.p4 true a0.1 a0.2.1 a0.2.2.1 a0.2.2.2.1 a0.2.2.2.2.1 a0.2.2.2.2.2.1 a0.2.2.2.2.2.2.1 a0.2.2.2.2.2.2.2.1 a0.2.2.2.2.2.2.2.2.1)) (cond (decide ((1000000000000 : Int) < a0.2.2.2.2.2.1)) (K (.p4 true a0.1 a0.2.1 a0.2.2.1 a0.2.2.2.1 a0.2.2.2.2.1 a0.2.2.2.2.2.1 a0.2.2.2.2.2.2.1 a0.2.2.2.2.2.2.2.1 a0.2.2.2.2.2.2.2.2.1)) (cond (decide ((20 : Int) < ((List.length a0.2.2.2.2.2.2.1) : Int))) (K (.p4 true a0.1 a0.2.1 a0.2.2.1 a0.2.2.2.1 a0.2.2.2.2.1 a0.2.2.2.2.2.1 a0.2.2.2.2.2.2.1 a0.2.2.2.2.2.2.2.1 a0.2.2.2.2.2.2.2.2.1)) ((spec_l9Numbers n a0.2.2.2.2.2.2.1).bind fun r8 => K (.p4 (!r8) a0.1 a0.2.1 a0.2.2.1 a0.2.2.2.1 a0.2.2.2.2.1 a0.2.2.2.2.2.1 a0.2.2.2.2.2.2.1 a0.2.2.2.2.2.2.2.1 a0.2.2.2.2.2.2.2.2.1))))))))))
  | .p4 y1 y2 y3 y4 y5 y6 y7 y8 y9 y10 => cond y1 (some false) (K (.p15 y8 ((List.length y8) : Int) (0 : Int)))
  | .p15 y1 y2 y3 => cond (decide (y3 < y2)) (cond (inB y3 (List.length y1)) (cond (decide ((List.getD y1 (Int.toNat y3) default) < (0 : Int))) (some false) (cond (decide ((20 : Int) ≤ (List.getD y1 (Int.toNat y3) default))) (some false) (K (.p15 y1 y2 (IntKind.wrap .i64 (y3 + (1 : Int))))))) (none)) (some true)
def spec_l20Route (n : Nat) (a0 : (ByteArray) × ((List ((ByteArray) × ((Int) × ((ByteArray) × (Unit))))) × ((List (ByteArray)) × ((Int) × ((Int) × ((Int) × ((List (Int)) × ((Bool) × ((Int) × (Unit)))))))))) : Option (Tup [.bool]) := goRec spec_l20Route.step n (.p0 a0)
def spec_l20Route.spec : Ctr := ⟨129, [.v (.pair .str (.pair (.sl false (.pair .str (.pair (.int .i64) (.pair .str .unit)))) (.pair (.sl false .str) (.pair (.int .i64) (.pair (.int .i64) (.pair (.int .i64) (.pair (.sl false (.int .i64)) (.pair .bool (.pair (.int .i64) .unit)))))))))], [.bool], [], fun n x => spec_l20Route n x.1⟩
theorem spec_l20Route.seg_eq : SegEq ty gl spec_l20Route.F spec_l20Route.md spec_l20Route.T spec_l20Route.spec spec_l20Route.lb spec_l20Route.st spec_l20Route.step := by
  intro n goto y; cases y <;> kernel_rfl
theorem spec_l20Route.text : Text Go.Proofs.Tryz.prog spec_l20Route.F spec_l20Route.spec := textOf Go.Proofs.Tryz.f129
theorem spec_l20Route.ok : CtrOK Go.Proofs.Tryz.prog gl spec_l20Route.spec :=
  ctr_okS tabs spec_l20Route.text spec_l20Route.seg_eq (fun n x => ⟨.p0 x.1, rfl, rfl, rfl⟩) (consC spec_l2Name.ok (consC spec_GoodMatchers.ok (consC spec_l15Names.ok (consC spec_l3Time.ok (consC spec_l9Numbers.ok (nilC))))))

/-! loop.example/g00039/spec.l20Take -/
def spec_l20Take.T : List Ctr := [spec_l20Route.spec]
def spec_l20Take.md : List (Nat × List Md) := []
noncomputable def spec_l20Take.F : Fun := ⟨(Go.Proofs.Tryz.f79.body).getD .skip, [.v (.sl false (.pair .str (.pair (.sl false (.pair .str (.pair (.int .i64) (.pair .str .unit)))) (.pair (.sl false .str) (.pair (.int .i64) (.pair (.int .i64) (.pair (.int .i64) (.pair (.sl false (.int .i64)) (.pair .bool (.pair (.int .i64) .unit)))))))))), .v (.int .i64), .v (.int .i64)], [(.tmp 6, (.int .i64))], [], 0, [(4, ⟨[0, 1, 2, 32], [], [], false⟩), (17, ⟨[0, 1, 2, 7, 8], [], [], false⟩)]⟩
inductive spec_l20Take.Pt where
  | p0 (a0 : List ((ByteArray) × ((List ((ByteArray) × ((Int) × ((ByteArray) × (Unit))))) × ((List (ByteArray)) × ((Int) × ((Int) × ((Int) × ((List (Int)) × ((Bool) × ((Int) × (Unit))))))))))) (a1 : Int) (a2 : Int)
  | p4 (y1 : List ((ByteArray) × ((List ((ByteArray) × ((Int) × ((ByteArray) × (Unit))))) × ((List (ByteArray)) × ((Int) × ((Int) × ((Int) × ((List (Int)) × ((Bool) × ((Int) × (Unit))))))))))) (y2 : Int) (y3 : Int) (y4 : Bool)
  | p17 (y1 : List ((ByteArray) × ((List ((ByteArray) × ((Int) × ((ByteArray) × (Unit))))) × ((List (ByteArray)) × ((Int) × ((Int) × ((Int) × ((List (Int)) × ((Bool) × ((Int) × (Unit))))))))))) (y2 : Int) (y3 : Int) (y4 : Int) (y5 : Int)
def spec_l20Take.lb : spec_l20Take.Pt → Nat
  | .p0 _ _ _ => 0
  | .p4 _ _ _ _ => 4
  | .p17 _ _ _ _ _ => 17
def spec_l20Take.st : spec_l20Take.Pt → St
  | .p0 a0 a1 a2 => enter [.v (.sl false (.pair .str (.pair (.sl false (.pair .str (.pair (.int .i64) (.pair .str .unit)))) (.pair (.sl false .str) (.pair (.int .i64) (.pair (.int .i64) (.pair (.int .i64) (.pair (.sl false (.int .i64)) (.pair .bool (.pair (.int .i64) .unit)))))))))) a0, .v (.int .i64) a1, .v (.int .i64) a2] 0
  | .p4 y1 y2 y3 y4 => ⟨[(0, .im (.sl false (.pair .str (.pair (.sl false (.pair .str (.pair (.int .i64) (.pair .str .unit)))) (.pair (.sl false .str) (.pair (.int .i64) (.pair (.int .i64) (.pair (.int .i64) (.pair (.sl false (.int .i64)) (.pair .bool (.pair (.int .i64) .unit)))))))))) y1), (1, .im (.int .i64) y2), (2, .im (.int .i64) y3), (32, .im .bool y4)], [], 0⟩
  | .p17 y1 y2 y3 y4 y5 => ⟨[(0, .im (.sl false (.pair .str (.pair (.sl false (.pair .str (.pair (.int .i64) (.pair .str .unit)))) (.pair (.sl false .str) (.pair (.int .i64) (.pair (.int .i64) (.pair (.int .i64) (.pair (.sl false (.int .i64)) (.pair .bool (.pair (.int .i64) .unit)))))))))) y1), (1, .im (.int .i64) y2), (2, .im (.int .i64) y3), (7, .im (.int .i64) y4), (8, .im (.int .i64) y5)], [], 0⟩
def spec_l20Take.step (n : Nat) (self : Ty.Els [.v (.sl false (.pair .str (.pair (.sl false (.pair .str (.pair (.int .i64) (.pair .str .unit)))) (.pair (.sl false .str) (.pair (.int .i64) (.pair (.int .i64) (.pair (.int .i64) (.pair (.sl false (.int .i64)) (.pair .bool (.pair (.int .i64) .unit)))))))))), .v (.int .i64), .v (.int .i64)] → Option (Tup [(.int .i64)])) (K : spec_l20Take.Pt → Option (Tup [(.int .i64)])) : spec_l20Take.Pt → Option (Tup [(.int .i64)])
  | .p0 a0 a1 a2 => cond (decide (((List.length a0) : Int) ≤ a1)) (K (.p4 a0 a1 a2 true)) (cond (decide ((8 : Int) < a2)) (K (.p4 a0 a1 a2 true)) (cond (inB a1 (List.length a0)) (cond (decide ((List.getD a0 (Int.toNat a1) default).2.2.2.2.2.2.2.2.1 < (0 : Int))) (K (.p4 a0 a1 a2 true)) (cond (inB a1 (List.length a0)) ((spec_l20Route n (List.getD a0 (Int.toNat a1) default)).bind fun r6 => K (.p4 a0 a1 a2 (!r6))) (none))) (none)))
  | .p4 y1 y2 y3 y4 => cond y4 (some (-(1 : Int))) (K (.p17 y1 y2 y3 (IntKind.wrap .i64 (y2 + (1 : Int))) (0 : Int)))
  | .p17 y1 y2 y3 y4 y5 => cond (inB y2 (List.length y1)) (cond (decide (y5 < (List.getD y1 (Int.toNat y2) default).2.2.2.2.2.2.2.2.1)) ((self (y1, y4, (IntKind.wrap .i64 (y3 + (1 : Int))), ())).bind fun (r8 : Int) => cond (decide (r8 < (0 : Int))) (some (-(1 : Int))) (K (.p17 y1 y2 y3 r8 (IntKind.wrap .i64 (y5 + (1 : Int)))))) (some y4)) (none)
def spec_l20Take (n : Nat) (a0 : List ((ByteArray) × ((List ((ByteArray) × ((Int) × ((ByteArray) × (Unit))))) × ((List (ByteArray)) × ((Int) × ((Int) × ((Int) × ((List (Int)) × ((Bool) × ((Int) × (Unit))))))))))) (a1 : Int) (a2 : Int) : Option (Tup [(.int .i64)]) := goRec (fun n K => spec_l20Take.step n (fun x => K (.p0 x.1 x.2.1 x.2.2.1)) K) n (.p0 a0 a1 a2)
def spec_l20Take.spec : Ctr := ⟨79, [.v (.sl false (.pair .str (.pair (.sl false (.pair .str (.pair (.int .i64) (.pair .str .unit)))) (.pair (.sl false .str) (.pair (.int .i64) (.pair (.int .i64) (.pair (.int .i64) (.pair (.sl false (.int .i64)) (.pair .bool (.pair (.int .i64) .unit)))))))))), .v (.int .i64), .v (.int .i64)], [(.int .i64)], [], fun n x => spec_l20Take n x.1 x.2.1 x.2.2.1⟩
theorem spec_l20Take.seg_eq (n : Nat) (φ : Ty.Els [.v (.sl false (.pair .str (.pair (.sl false (.pair .str (.pair (.int .i64) (.pair .str .unit)))) (.pair (.sl false .str) (.pair (.int .i64) (.pair (.int .i64) (.pair (.int .i64) (.pair (.sl false (.int .i64)) (.pair .bool (.pair (.int .i64) .unit)))))))))), .v (.int .i64), .v (.int .i64)] → Option (Tup [(.int .i64)])) (goto : Nat → St → Option (Tup [(.int .i64)])) (y : spec_l20Take.Pt) : seg ⟨ty, gl, spec_l20Take.md, calOf (spec_l20Take.spec.at φ :: spec_l20Take.T) n⟩ spec_l20Take.F.np spec_l20Take.F.ks goto (spec_l20Take.F.fin ⟨ty, gl, spec_l20Take.md, calOf spec_l20Take.T 0⟩ [(.int .i64)]) spec_l20Take.F.c (spec_l20Take.lb y) (spec_l20Take.st y) = spec_l20Take.step n φ (fun z => goto (spec_l20Take.lb z) (spec_l20Take.st z)) y := by
  cases y <;> kernel_rfl
theorem spec_l20Take.text : Text Go.Proofs.Tryz.prog spec_l20Take.F spec_l20Take.spec := textOf Go.Proofs.Tryz.f79
theorem spec_l20Take.ok : CtrOK Go.Proofs.Tryz.prog gl spec_l20Take.spec :=
  ctr_rec (T := spec_l20Take.T) (F := spec_l20Take.F) (lb := spec_l20Take.lb) (st := spec_l20Take.st) (ent := fun x => .p0 x.1 x.2.1 x.2.2.1) (stp := spec_l20Take.step) (md := spec_l20Take.md) tabs spec_l20Take.text spec_l20Take.seg_eq (fun _ => ⟨rfl, rfl⟩) (fun _ _ => rfl) (consC spec_l20Route.ok (nilC))

/-! loop.example/g00039/spec.GoodRoutes -/
def spec_GoodRoutes.T : List Ctr := [spec_l20Take.spec]
def spec_GoodRoutes.md : List (Nat × List Md) := []
noncomputable def spec_GoodRoutes.F : Fun := ⟨(Go.Proofs.Tryz.f35.body).getD .skip, [.v (.sl false (.pair .str (.pair (.sl false (.pair .str (.pair (.int .i64) (.pair .str .unit)))) (.pair (.sl false .str) (.pair (.int .i64) (.pair (.int .i64) (.pair (.int .i64) (.pair (.sl false (.int .i64)) (.pair .bool (.pair (.int .i64) .unit))))))))))], [(.tmp 2, .bool)], [], 0, []⟩
inductive spec_GoodRoutes.Pt where
  | p0 (a0 : List ((ByteArray) × ((List ((ByteArray) × ((Int) × ((ByteArray) × (Unit))))) × ((List (ByteArray)) × ((Int) × ((Int) × ((Int) × ((List (Int)) × ((Bool) × ((Int) × (Unit)))))))))))
def spec_GoodRoutes.lb : spec_GoodRoutes.Pt → Nat
  | .p0 _ => 0
def spec_GoodRoutes.st : spec_GoodRoutes.Pt → St
  | .p0 a0 => enter [.v (.sl false (.pair .str (.pair (.sl false (.pair .str (.pair (.int .i64) (.pair .str .unit)))) (.pair (.sl false .str) (.pair (.int .i64) (.pair (.int .i64) (.pair (.int .i64) (.pair (.sl false (.int .i64)) (.pair .bool (.pair (.int .i64) .unit)))))))))) a0] 0
def spec_GoodRoutes.step (n : Nat) (K : spec_GoodRoutes.Pt → Option (Tup [.bool])) : spec_GoodRoutes.Pt → Option (Tup [.bool])
  | .p0 a0 => cond (decide ((0 : Int) < ((List.length a0) : Int))) (cond (decide (((List.length a0) : Int) ≤ (40 : Int))) ((spec_l20Take n a0 (0 : Int) (1 : Int)).bind fun (r4 : Int) => cond (decide (r4 = ((List.length a0) : Int))) (cond (inB (0 : Int) (List.length a0)) (cond (decide (((List.length (List.getD a0 (Int.toNat (0 : Int)) default).2.1) : Int) = (0 : Int))) (cond (inB (0 : Int) (List.length a0)) (some (!(List.getD a0 (Int.toNat (0 : Int)) default).2.2.2.2.2.2.2.1)) (none)) (some false)) (none)) (some false)) (some false)) (some false)
def spec_GoodRoutes (n : Nat) (a0 : List ((ByteArray) × ((List ((ByteArray) × ((Int) × ((ByteArray) × (Unit))))) × ((List (ByteArray)) × ((Int) × ((Int) × ((Int) × ((List (Int)) × ((Bool) × ((Int) × (Unit))))))))))) : Option (Tup [.bool]) := goRec spec_GoodRoutes.step n (.p0 a0)
def spec_GoodRoutes.spec : Ctr := ⟨35, [.v (.sl false (.pair .str (.pair (.sl false (.pair .str (.pair (.int .i64) (.pair .str .unit)))) (.pair (.sl false .str) (.pair (.int .i64) (.pair (.int .i64) (.pair (.int .i64) (.pair (.sl false (.int .i64)) (.pair .bool (.pair (.int .i64) .unit))))))))))], [.bool], [], fun n x => spec_GoodRoutes n x.1⟩
theorem spec_GoodRoutes.seg_eq : SegEq ty gl spec_GoodRoutes.F spec_GoodRoutes.md spec_GoodRoutes.T spec_GoodRoutes.spec spec_GoodRoutes.lb spec_GoodRoutes.st spec_GoodRoutes.step := by
  intro n goto y; cases y <;> kernel_rfl
theorem spec_GoodRoutes.text : Text Go.Proofs.Tryz.prog spec_GoodRoutes.F spec_GoodRoutes.spec := textOf Go.Proofs.Tryz.f35
theorem spec_GoodRoutes.ok : CtrOK Go.Proofs.Tryz.prog gl spec_GoodRoutes.spec :=
  ctr_okS tabs spec_GoodRoutes.text spec_GoodRoutes.seg_eq (fun n x => ⟨.p0 x.1, rfl, rfl, rfl⟩) (consC spec_l20Take.ok (nilC))

/-! loop.example/g00039/spec.GoodSilences -/
def spec_GoodSilences.T : List Ctr := [spec_l2Name.spec, spec_GoodMatchers.spec, spec_l2CmpText.spec, spec_l3Time.spec]
def spec_GoodSilences.md : List (Nat × List Md) := []
noncomputable def spec_GoodSilences.F : Fun := ⟨(Go.Proofs.Tryz.f36.body).getD .skip, [.v (.sl false (.pair .str (.pair (.sl false (.pair .str (.pair (.int .i64) (.pair .str .unit)))) (.pair (.int .i64) (.pair (.int .i64) .unit)))))], [(.tmp 2, .bool)], [], 0, [(15, ⟨[0, 8, 9, 10], [(8, (.pair .str (.pair (.sl false (.pair .str (.pair (.int .i64) (.pair .str .unit)))) (.pair (.int .i64) (.pair (.int .i64) .unit)))))], [], false⟩), (26, ⟨[0, 8, 9, 10, 65], [(8, (.pair .str (.pair (.sl false (.pair .str (.pair (.int .i64) (.pair .str .unit)))) (.pair (.int .i64) (.pair (.int .i64) .unit)))))], [], false⟩)]⟩
inductive spec_GoodSilences.Pt where
  | p0 (a0 : List ((ByteArray) × ((List ((ByteArray) × ((Int) × ((ByteArray) × (Unit))))) × ((Int) × ((Int) × (Unit))))))
  | p15 (y1 : List ((ByteArray) × ((List ((ByteArray) × ((Int) × ((ByteArray) × (Unit))))) × ((Int) × ((Int) × (Unit)))))) (y2 : List ((ByteArray) × ((List ((ByteArray) × ((Int) × ((ByteArray) × (Unit))))) × ((Int) × ((Int) × (Unit)))))) (y3 : Int) (y4 : Int)
  | p26 (y1 : List ((ByteArray) × ((List ((ByteArray) × ((Int) × ((ByteArray) × (Unit))))) × ((Int) × ((Int) × (Unit)))))) (y2 : List ((ByteArray) × ((List ((ByteArray) × ((Int) × ((ByteArray) × (Unit))))) × ((Int) × ((Int) × (Unit)))))) (y3 : Int) (y4 : Int) (y5 : Bool)
def spec_GoodSilences.lb : spec_GoodSilences.Pt → Nat
  | .p0 _ => 0
  | .p15 _ _ _ _ => 15
  | .p26 _ _ _ _ _ => 26
def spec_GoodSilences.st : spec_GoodSilences.Pt → St
  | .p0 a0 => enter [.v (.sl false (.pair .str (.pair (.sl false (.pair .str (.pair (.int .i64) (.pair .str .unit)))) (.pair (.int .i64) (.pair (.int .i64) .unit))))) a0] 0
  | .p15 y1 y2 y3 y4 => ⟨[(0, .im (.sl false (.pair .str (.pair (.sl false (.pair .str (.pair (.int .i64) (.pair .str .unit)))) (.pair (.int .i64) (.pair (.int .i64) .unit))))) y1), (8, .im (.sl false (.pair .str (.pair (.sl false (.pair .str (.pair (.int .i64) (.pair .str .unit)))) (.pair (.int .i64) (.pair (.int .i64) .unit))))) y2), (9, .im (.int .i64) y3), (10, .im (.int .i64) y4)], [], 0⟩
  | .p26 y1 y2 y3 y4 y5 => ⟨[(0, .im (.sl false (.pair .str (.pair (.sl false (.pair .str (.pair (.int .i64) (.pair .str .unit)))) (.pair (.int .i64) (.pair (.int .i64) .unit))))) y1), (8, .im (.sl false (.pair .str (.pair (.sl false (.pair .str (.pair (.int .i64) (.pair .str .unit)))) (.pair (.int .i64) (.pair (.int .i64) .unit))))) y2), (9, .im (.int .i64) y3), (10, .im (.int .i64) y4), (65, .im .bool y5)], [], 0⟩
def spec_GoodSilences.step (n : Nat) (K : spec_GoodSilences.Pt → Option (Tup [.bool])) : spec_GoodSilences.Pt → Option (Tup [.bool])
  | .p0 a0 => cond (decide ((50 : Int) < ((List.length a0) : Int))) (some false) (K (.p15 a0 a0 ((List.length a0) : Int) (0 : Int)))
  | .p15 y1 y2 y3 y4 => cond (decide (y4 < y3)) (cond (inB y4 (List.length y2)) ((spec_l2Name n (List.getD y2 (Int.toNat y4) default).1).bind fun r7 => cond (!r7) (K (.p26 y1 y2 y3 y4 true)) ((spec_GoodMatchers n (List.getD y2 (Int.toNat y4) default).2.1).bind fun r8 => cond (!r8) (K (.p26 y1 y2 y3 y4 true)) (cond (decide (((List.length (List.getD y2 (Int.toNat y4) default).2.1) : Int) = (0 : Int))) (K (.p26 y1 y2 y3 y4 true)) ((spec_l3Time n (List.getD y2 (Int.toNat y4) default).2.2.1).bind fun r9 => cond (!r9) (K (.p26 y1 y2 y3 y4 true)) ((spec_l3Time n (List.getD y2 (Int.toNat y4) default).2.2.2.1).bind fun r10 => cond (!r10) (K (.p26 y1 y2 y3 y4 true)) (cond (decide ((List.getD y2 (Int.toNat y4) default).2.2.2.1 < (List.getD y2 (Int.toNat y4) default).2.2.1)) (K (.p26 y1 y2 y3 y4 true)) (cond (decide ((0 : Int) < y4)) (cond (inB (IntKind.wrap .i64 (y4 - (1 : Int))) (List.length y1)) ((spec_l2CmpText n (List.getD y1 (Int.toNat (IntKind.wrap .i64 (y4 - (1 : Int)))) default).1 (List.getD y2 (Int.toNat y4) default).1).bind fun (r11 : Int) => K (.p26 y1 y2 y3 y4 (decide ((0 : Int) ≤ r11)))) (none)) (K (.p26 y1 y2 y3 y4 false))))))))) (none)) (some true)
  | .p26 y1 y2 y3 y4 y5 => cond y5 (some false) (K (.p15 y1 y2 y3 (IntKind.wrap .i64 (y4 + (1 : Int)))))
def spec_GoodSilences (n : Nat) (a0 : List ((ByteArray) × ((List ((ByteArray) × ((Int) × ((ByteArray) × (Unit))))) × ((Int) × ((Int) × (Unit)))))) : Option (Tup [.bool]) := goRec spec_GoodSilences.step n (.p0 a0)
def spec_GoodSilences.spec : Ctr := ⟨36, [.v (.sl false (.pair .str (.pair (.sl false (.pair .str (.pair (.int .i64) (.pair .str .unit)))) (.pair (.int .i64) (.pair (.int .i64) .unit)))))], [.bool], [], fun n x => spec_GoodSilences n x.1⟩
theorem spec_GoodSilences.seg_eq : SegEq ty gl spec_GoodSilences.F spec_GoodSilences.md spec_GoodSilences.T spec_GoodSilences.spec spec_GoodSilences.lb spec_GoodSilences.st spec_GoodSilences.step := by
  intro n goto y; cases y <;> kernel_rfl
theorem spec_GoodSilences.text : Text Go.Proofs.Tryz.prog spec_GoodSilences.F spec_GoodSilences.spec := textOf Go.Proofs.Tryz.f36
theorem spec_GoodSilences.ok : CtrOK Go.Proofs.Tryz.prog gl spec_GoodSilences.spec :=
  ctr_okS tabs spec_GoodSilences.text spec_GoodSilences.seg_eq (fun n x => ⟨.p0 x.1, rfl, rfl, rfl⟩) (consC spec_l2Name.ok (consC spec_GoodMatchers.ok (consC spec_l2CmpText.ok (consC spec_l3Time.ok (nilC)))))

/-! loop.example/g00039/spec.GoodInhibits -/
def spec_GoodInhibits.T : List Ctr := [spec_GoodMatchers.spec, spec_l15Names.spec]
def spec_GoodInhibits.md : List (Nat × List Md) := []
noncomputable def spec_GoodInhibits.F : Fun := ⟨(Go.Proofs.Tryz.f37.body).getD .skip, [.v (.sl false (.pair (.sl false (.pair .str (.pair (.int .i64) (.pair .str .unit)))) (.pair (.sl false (.pair .str (.pair (.int .i64) (.pair .str .unit)))) (.pair (.sl false .str) .unit))))], [(.tmp 2, .bool)], [], 0, [(7, ⟨[0, 5, 6, 7], [(5, (.pair (.sl false (.pair .str (.pair (.int .i64) (.pair .str .unit)))) (.pair (.sl false (.pair .str (.pair (.int .i64) (.pair .str .unit)))) (.pair (.sl false .str) .unit))))], [], false⟩), (18, ⟨[0, 5, 6, 7, 38], [(5, (.pair (.sl false (.pair .str (.pair (.int .i64) (.pair .str .unit)))) (.pair (.sl false (.pair .str (.pair (.int .i64) (.pair .str .unit)))) (.pair (.sl false .str) .unit))))], [], false⟩)]⟩
inductive spec_GoodInhibits.Pt where
  | p0 (a0 : List ((List ((ByteArray) × ((Int) × ((ByteArray) × (Unit))))) × ((List ((ByteArray) × ((Int) × ((ByteArray) × (Unit))))) × ((List (ByteArray)) × (Unit)))))
  | p7 (y1 : List ((List ((ByteArray) × ((Int) × ((ByteArray) × (Unit))))) × ((List ((ByteArray) × ((Int) × ((ByteArray) × (Unit))))) × ((List (ByteArray)) × (Unit))))) (y2 : List ((List ((ByteArray) × ((Int) × ((ByteArray) × (Unit))))) × ((List ((ByteArray) × ((Int) × ((ByteArray) × (Unit))))) × ((List (ByteArray)) × (Unit))))) (y3 : Int) (y4 : Int)
  | p18 (y1 : List ((List ((ByteArray) × ((Int) × ((ByteArray) × (Unit))))) × ((List ((ByteArray) × ((Int) × ((ByteArray) × (Unit))))) × ((List (ByteArray)) × (Unit))))) (y2 : List ((List ((ByteArray) × ((Int) × ((ByteArray) × (Unit))))) × ((List ((ByteArray) × ((Int) × ((ByteArray) × (Unit))))) × ((List (ByteArray)) × (Unit))))) (y3 : Int) (y4 : Int) (y5 : Bool)
def spec_GoodInhibits.lb : spec_GoodInhibits.Pt → Nat
  | .p0 _ => 0
  | .p7 _ _ _ _ => 7
  | .p18 _ _ _ _ _ => 18
def spec_GoodInhibits.st : spec_GoodInhibits.Pt → St
  | .p0 a0 => enter [.v (.sl false (.pair (.sl false (.pair .str (.pair (.int .i64) (.pair .str .unit)))) (.pair (.sl false (.pair .str (.pair (.int .i64) (.pair .str .unit)))) (.pair (.sl false .str) .unit)))) a0] 0
  | .p7 y1 y2 y3 y4 => ⟨[(0, .im (.sl false (.pair (.sl false (.pair .str (.pair (.int .i64) (.pair .str .unit)))) (.pair (.sl false (.pair .str (.pair (.int .i64) (.pair .str .unit)))) (.pair (.sl false .str) .unit)))) y1), (5, .im (.sl false (.pair (.sl false (.pair .str (.pair (.int .i64) (.pair .str .unit)))) (.pair (.sl false (.pair .str (.pair (.int .i64) (.pair .str .unit)))) (.pair (.sl false .str) .unit)))) y2), (6, .im (.int .i64) y3), (7, .im (.int .i64) y4)], [], 0⟩
  | .p18 y1 y2 y3 y4 y5 => ⟨[(0, .im (.sl false (.pair (.sl false (.pair .str (.pair (.int .i64) (.pair .str .unit)))) (.pair (.sl false (.pair .str (.pair (.int .i64) (.pair .str .unit)))) (.pair (.sl false .str) .unit)))) y1), (5, .im (.sl false (.pair (.sl false (.pair .str (.pair (.int .i64) (.pair .str .unit)))) (.pair (.sl false (.pair .str (.pair (.int .i64) (.pair .str .unit)))) (.pair (.sl false .str) .unit)))) y2), (6, .im (.int .i64) y3), (7, .im (.int .i64) y4), (38, .im .bool y5)], [], 0⟩
def spec_GoodInhibits.step (n : Nat) (K : spec_GoodInhibits.Pt → Option (Tup [.bool])) : spec_GoodInhibits.Pt → Option (Tup [.bool])
  | .p0 a0 => K (.p7 a0 a0 ((List.length a0) : Int) (0 : Int))
  | .p7 y1 y2 y3 y4 => cond (decide (y4 < y3)) (cond (inB y4 (List.length y2)) ((spec_GoodMatchers n (List.getD y2 (Int.toNat y4) default).1).bind fun r7 => cond (!r7) (K (.p18 y1 y2 y3 y4 true)) ((spec_GoodMatchers n (List.getD y2 (Int.toNat y4) default).2.1).bind fun r8 => cond (!r8) (K (.p18 y1 y2 y3 y4 true)) (cond (decide (((List.length (List.getD y2 (Int.toNat y4) default).1) : Int) = (0 : Int))) (K (.p18 y1 y2 y3 y4 true)) (cond (decide (((List.length (List.getD y2 (Int.toNat y4) default).2.1) : Int) = (0 : Int))) (K (.p18 y1 y2 y3 y4 true)) ((spec_l15Names n (List.getD y2 (Int.toNat y4) default).2.2.1).bind fun r9 => K (.p18 y1 y2 y3 y4 (!r9))))))) (none)) (some (decide (((List.length y1) : Int) ≤ (20 : Int))))
  | .p18 y1 y2 y3 y4 y5 => cond y5 (some false) (K (.p7 y1 y2 y3 (IntKind.wrap .i64 (y4 + (1 : Int)))))
def spec_GoodInhibits (n : Nat) (a0 : List ((List ((ByteArray) × ((Int) × ((ByteArray) × (Unit))))) × ((List ((ByteArray) × ((Int) × ((ByteArray) × (Unit))))) × ((List (ByteArray)) × (Unit))))) : Option (Tup [.bool]) := goRec spec_GoodInhibits.step n (.p0 a0)
def spec_GoodInhibits.spec : Ctr := ⟨37, [.v (.sl false (.pair (.sl false (.pair .str (.pair (.int .i64) (.pair .str .unit)))) (.pair (.sl false (.pair .str (.pair (.int .i64) (.pair .str .unit)))) (.pair (.sl false .str) .unit))))], [.bool], [], fun n x => spec_GoodInhibits n x.1⟩
theorem spec_GoodInhibits.seg_eq : SegEq ty gl spec_GoodInhibits.F spec_GoodInhibits.md spec_GoodInhibits.T spec_GoodInhibits.spec spec_GoodInhibits.lb spec_GoodInhibits.st spec_GoodInhibits.step := by
  intro n goto y; cases y <;> kernel_rfl
theorem spec_GoodInhibits.text : Text Go.Proofs.Tryz.prog spec_GoodInhibits.F spec_GoodInhibits.spec := textOf Go.Proofs.Tryz.f37
theorem spec_GoodInhibits.ok : CtrOK Go.Proofs.Tryz.prog gl spec_GoodInhibits.spec :=
  ctr_okS tabs spec_GoodInhibits.text spec_GoodInhibits.seg_eq (fun n x => ⟨.p0 x.1, rfl, rfl, rfl⟩) (consC spec_GoodMatchers.ok (consC spec_l15Names.ok (nilC)))

/-! loop.example/g00039/spec.l19Ranges -/
def spec_l19Ranges.T : List Ctr := []
def spec_l19Ranges.md : List (Nat × List Md) := []
noncomputable def spec_l19Ranges.F : Fun := ⟨(Go.Proofs.Tryz.f85.body).getD .skip, [.v (.sl false (.pair (.int .i64) (.pair (.int .i64) .unit))), .v (.int .i64), .v (.int .i64)], [(.tmp 6, .bool)], [], 0, [(7, ⟨[0, 1, 2, 9, 10, 11], [(9, (.pair (.int .i64) (.pair (.int .i64) .unit)))], [], false⟩), (18, ⟨[0, 1, 2, 9, 10, 11, 31], [(9, (.pair (.int .i64) (.pair (.int .i64) .unit)))], [], false⟩)]⟩
inductive spec_l19Ranges.Pt where
  | p0 (a0 : List ((Int) × ((Int) × (Unit)))) (a1 : Int) (a2 : Int)
  | p7 (y1 : List ((Int) × ((Int) × (Unit)))) (y2 : Int) (y3 : Int) (y4 : List ((Int) × ((Int) × (Unit)))) (y5 : Int) (y6 : Int)
  | p18 (y1 : List ((Int) × ((Int) × (Unit)))) (y2 : Int) (y3 : Int) (y4 : List ((Int) × ((Int) × (Unit)))) (y5 : Int) (y6 : Int) (y7 : Bool)
def spec_l19Ranges.lb : spec_l19Ranges.Pt → Nat
  | .p0 _ _ _ => 0
  | .p7 _ _ _ _ _ _ => 7
  | .p18 _ _ _ _ _ _ _ => 18
def spec_l19Ranges.st : spec_l19Ranges.Pt → St
  | .p0 a0 a1 a2 => enter [.v (.sl false (.pair (.int .i64) (.pair (.int .i64) .unit))) a0, .v (.int .i64) a1, .v (.int .i64) a2] 0
  | .p7 y1 y2 y3 y4 y5 y6 => ⟨[(0, .im (.sl false (.pair (.int .i64) (.pair (.int .i64) .unit))) y1), (1, .im (.int .i64) y2), (2, .im (.int .i64) y3), (9, .im (.sl false (.pair (.int .i64) (.pair (.int .i64) .unit))) y4), (10, .im (.int .i64) y5), (11, .im (.int .i64) y6)], [], 0⟩
  | .p18 y1 y2 y3 y4 y5 y6 y7 => ⟨[(0, .im (.sl false (.pair (.int .i64) (.pair (.int .i64) .unit))) y1), (1, .im (.int .i64) y2), (2, .im (.int .i64) y3), (9, .im (.sl false (.pair (.int .i64) (.pair (.int .i64) .unit))) y4), (10, .im (.int .i64) y5), (11, .im (.int .i64) y6), (31, .im .bool y7)], [], 0⟩
def spec_l19Ranges.step (n : Nat) (K : spec_l19Ranges.Pt → Option (Tup [.bool])) : spec_l19Ranges.Pt → Option (Tup [.bool])
  | .p0 a0 a1 a2 => K (.p7 a0 a1 a2 a0 ((List.length a0) : Int) (0 : Int))
  | .p7 y1 y2 y3 y4 y5 y6 => cond (decide (y6 < y5)) (cond (inB y6 (List.length y4)) (cond (decide ((List.getD y4 (Int.toNat y6) default).1 < y2)) (K (.p18 y1 y2 y3 y4 y5 y6 true)) (cond (decide (y3 < (List.getD y4 (Int.toNat y6) default).2.1)) (K (.p18 y1 y2 y3 y4 y5 y6 true)) (K (.p18 y1 y2 y3 y4 y5 y6 (decide ((List.getD y4 (Int.toNat y6) default).2.1 < (List.getD y4 (Int.toNat y6) default).1)))))) (none)) (some (decide (((List.length y1) : Int) ≤ (10 : Int))))
  | .p18 y1 y2 y3 y4 y5 y6 y7 => cond y7 (some false) (K (.p7 y1 y2 y3 y4 y5 (IntKind.wrap .i64 (y6 + (1 : Int)))))
def spec_l19Ranges (n : Nat) (a0 : List ((Int) × ((Int) × (Unit)))) (a1 : Int) (a2 : Int) : Option (Tup [.bool]) := goRec spec_l19Ranges.step n (.p0 a0 a1 a2)
def spec_l19Ranges.spec : Ctr := ⟨85, [.v (.sl false (.pair (.int .i64) (.pair (.int .i64) .unit))), .v (.int .i64), .v (.int .i64)], [.bool], [], fun n x => spec_l19Ranges n x.1 x.2.1 x.2.2.1⟩
theorem spec_l19Ranges.seg_eq : SegEq ty gl spec_l19Ranges.F spec_l19Ranges.md spec_l19Ranges.T spec_l19Ranges.spec spec_l19Ranges.lb spec_l19Ranges.st spec_l19Ranges.step := by
  intro n goto y; cases y <;> kernel_rfl
theorem spec_l19Ranges.text : Text Go.Proofs.Tryz.prog spec_l19Ranges.F spec_l19Ranges.spec := textOf Go.Proofs.Tryz.f85
theorem spec_l19Ranges.ok : CtrOK Go.Proofs.Tryz.prog gl spec_l19Ranges.spec :=
  ctr_okS tabs spec_l19Ranges.text spec_l19Ranges.seg_eq (fun n x => ⟨.p0 x.1 x.2.1 x.2.2.1, rfl, rfl, rfl⟩) (nilC)

/-! loop.example/g00039/spec.GoodInterval -/
def spec_GoodInterval.T : List Ctr := [spec_l9Numbers.spec, spec_l19Ranges.spec]
def spec_GoodInterval.md : List (Nat × List Md) := []
noncomputable def spec_GoodInterval.F : Fun := ⟨(Go.Proofs.Tryz.f38.body).getD .skip, [.v (.pair (.int .i64) (.pair (.sl false (.pair (.int .i64) (.pair (.int .i64) .unit))) (.pair (.sl false (.pair (.int .i64) (.pair (.int .i64) .unit))) (.pair (.sl false (.pair (.int .i64) (.pair (.int .i64) .unit))) (.pair (.sl false (.pair (.int .i64) (.pair (.int .i64) .unit))) (.pair (.sl false (.pair (.int .i64) (.pair (.int .i64) .unit))) (.pair (.sl false (.int .i64)) .unit)))))))], [(.tmp 2, .bool)], [], 0, [(7, ⟨[1, 8, 9, 10], [(8, (.pair (.int .i64) (.pair (.int .i64) .unit)))], [(1, 1, (.pair (.int .i64) (.pair (.int .i64) .unit))), (1, 2, (.pair (.int .i64) (.pair (.int .i64) .unit))), (1, 3, (.pair (.int .i64) (.pair (.int .i64) .unit))), (1, 4, (.pair (.int .i64) (.pair (.int .i64) .unit))), (1, 5, (.pair (.int .i64) (.pair (.int .i64) .unit))), (1, 6, (.int .i64))], false⟩), (18, ⟨[1, 8, 9, 10, 30], [(8, (.pair (.int .i64) (.pair (.int .i64) .unit)))], [(1, 1, (.pair (.int .i64) (.pair (.int .i64) .unit))), (1, 2, (.pair (.int .i64) (.pair (.int .i64) .unit))), (1, 3, (.pair (.int .i64) (.pair (.int .i64) .unit))), (1, 4, (.pair (.int .i64) (.pair (.int .i64) .unit))), (1, 5, (.pair (.int .i64) (.pair (.int .i64) .unit))), (1, 6, (.int .i64))], false⟩), (27, ⟨[1, 51], [], [(1, 1, (.pair (.int .i64) (.pair (.int .i64) .unit))), (1, 2, (.pair (.int .i64) (.pair (.int .i64) .unit))), (1, 3, (.pair (.int .i64) (.pair (.int .i64) .unit))), (1, 4, (.pair (.int .i64) (.pair (.int .i64) .unit))), (1, 5, (.pair (.int .i64) (.pair (.int .i64) .unit))), (1, 6, (.int .i64))], false⟩), (38, ⟨[1, 53, 54, 55], [(53, (.int .i64))], [(1, 1, (.pair (.int .i64) (.pair (.int .i64) .unit))), (1, 2, (.pair (.int .i64) (.pair (.int .i64) .unit))), (1, 3, (.pair (.int .i64) (.pair (.int .i64) .unit))), (1, 4, (.pair (.int .i64) (.pair (.int .i64) .unit))), (1, 5, (.pair (.int .i64) (.pair (.int .i64) .unit))), (1, 6, (.int .i64))], false⟩)]⟩
inductive spec_GoodInterval.Pt where
  | p0 (a0 : (Int) × ((List ((Int) × ((Int) × (Unit)))) × ((List ((Int) × ((Int) × (Unit)))) × ((List ((Int) × ((Int) × (Unit)))) × ((List ((Int) × ((Int) × (Unit)))) × ((List ((Int) × ((Int) × (Unit)))) × ((List (Int)) × (Unit))))))))
  | p7 (y1 : List ((Int) × ((Int) × (Unit)))) (y2 : Int) (y3 : Int) (y4 : Int) (y5 : List ((Int) × ((Int) × (Unit)))) (y6 : List ((Int) × ((Int) × (Unit)))) (y7 : List ((Int) × ((Int) × (Unit)))) (y8 : List ((Int) × ((Int) × (Unit)))) (y9 : List ((Int) × ((Int) × (Unit)))) (y10 : List (Int))
  | p18 (y1 : List ((Int) × ((Int) × (Unit)))) (y2 : Int) (y3 : Int) (y4 : Bool) (y5 : Int) (y6 : List ((Int) × ((Int) × (Unit)))) (y7 : List ((Int) × ((Int) × (Unit)))) (y8 : List ((Int) × ((Int) × (Unit)))) (y9 : List ((Int) × ((Int) × (Unit)))) (y10 : List ((Int) × ((Int) × (Unit)))) (y11 : List (Int))
  | p27 (y1 : Bool) (y2 : Int) (y3 : List ((Int) × ((Int) × (Unit)))) (y4 : List ((Int) × ((Int) × (Unit)))) (y5 : List ((Int) × ((Int) × (Unit)))) (y6 : List ((Int) × ((Int) × (Unit)))) (y7 : List ((Int) × ((Int) × (Unit)))) (y8 : List (Int))
  | p38 (y1 : List (Int)) (y2 : Int) (y3 : Int) (y4 : Int) (y5 : List ((Int) × ((Int) × (Unit)))) (y6 : List ((Int) × ((Int) × (Unit)))) (y7 : List ((Int) × ((Int) × (Unit)))) (y8 : List ((Int) × ((Int) × (Unit)))) (y9 : List ((Int) × ((Int) × (Unit)))) (y10 : List (Int))
def spec_GoodInterval.lb : spec_GoodInterval.Pt → Nat
  | .p0 _ => 0
  | .p7 _ _ _ _ _ _ _ _ _ _ => 7
  | .p18 _ _ _ _ _ _ _ _ _ _ _ => 18
  | .p27 _ _ _ _ _ _ _ _ => 27
  | .p38 _ _ _ _ _ _ _ _ _ _ => 38
def spec_GoodInterval.st : spec_GoodInterval.Pt → St
  | .p0 a0 => enter [.v (.pair (.int .i64) (.pair (.sl false (.pair (.int .i64) (.pair (.int .i64) .unit))) (.pair (.sl false (.pair (.int .i64) (.pair (.int .i64) .unit))) (.pair (.sl false (.pair (.int .i64) (.pair (.int .i64) .unit))) (.pair (.sl false (.pair (.int .i64) (.pair (.int .i64) .unit))) (.pair (.sl false (.pair (.int .i64) (.pair (.int .i64) .unit))) (.pair (.sl false (.int .i64)) .unit))))))) a0] 0
  | .p7 y1 y2 y3 y4 y5 y6 y7 y8 y9 y10 => ⟨[(1, .po 0 0), (8, .im (.sl false (.pair (.int .i64) (.pair (.int .i64) .unit))) y1), (9, .im (.int .i64) y2), (10, .im (.int .i64) y3)], [(0, .obj [.im (.int .i64) y4, .im (.sl false (.pair (.int .i64) (.pair (.int .i64) .unit))) y5, .im (.sl false (.pair (.int .i64) (.pair (.int .i64) .unit))) y6, .im (.sl false (.pair (.int .i64) (.pair (.int .i64) .unit))) y7, .im (.sl false (.pair (.int .i64) (.pair (.int .i64) .unit))) y8, .im (.sl false (.pair (.int .i64) (.pair (.int .i64) .unit))) y9, .im (.sl false (.int .i64)) y10])], 1⟩
  | .p18 y1 y2 y3 y4 y5 y6 y7 y8 y9 y10 y11 => ⟨[(1, .po 0 0), (8, .im (.sl false (.pair (.int .i64) (.pair (.int .i64) .unit))) y1), (9, .im (.int .i64) y2), (10, .im (.int .i64) y3), (30, .im .bool y4)], [(0, .obj [.im (.int .i64) y5, .im (.sl false (.pair (.int .i64) (.pair (.int .i64) .unit))) y6, .im (.sl false (.pair (.int .i64) (.pair (.int .i64) .unit))) y7, .im (.sl false (.pair (.int .i64) (.pair (.int .i64) .unit))) y8, .im (.sl false (.pair (.int .i64) (.pair (.int .i64) .unit))) y9, .im (.sl false (.pair (.int .i64) (.pair (.int .i64) .unit))) y10, .im (.sl false (.int .i64)) y11])], 1⟩
  | .p27 y1 y2 y3 y4 y5 y6 y7 y8 => ⟨[(1, .po 0 0), (51, .im .bool y1)], [(0, .obj [.im (.int .i64) y2, .im (.sl false (.pair (.int .i64) (.pair (.int .i64) .unit))) y3, .im (.sl false (.pair (.int .i64) (.pair (.int .i64) .unit))) y4, .im (.sl false (.pair (.int .i64) (.pair (.int .i64) .unit))) y5, .im (.sl false (.pair (.int .i64) (.pair (.int .i64) .unit))) y6, .im (.sl false (.pair (.int .i64) (.pair (.int .i64) .unit))) y7, .im (.sl false (.int .i64)) y8])], 1⟩
  | .p38 y1 y2 y3 y4 y5 y6 y7 y8 y9 y10 => ⟨[(1, .po 0 0), (53, .im (.sl false (.int .i64)) y1), (54, .im (.int .i64) y2), (55, .im (.int .i64) y3)], [(0, .obj [.im (.int .i64) y4, .im (.sl false (.pair (.int .i64) (.pair (.int .i64) .unit))) y5, .im (.sl false (.pair (.int .i64) (.pair (.int .i64) .unit))) y6, .im (.sl false (.pair (.int .i64) (.pair (.int .i64) .unit))) y7, .im (.sl false (.pair (.int .i64) (.pair (.int .i64) .unit))) y8, .im (.sl false (.pair (.int .i64) (.pair (.int .i64) .unit))) y9, .im (.sl false (.int .i64)) y10])], 1⟩
def spec_GoodInterval.step (n : Nat) (K : spec_GoodInterval.Pt → Option (Tup [.bool])) : spec_GoodInterval.Pt → Option (Tup [.bool])
  | .p0 a0 => K (.p7 a0.2.2.2.1 ((List.length a0.2.2.2.1) : Int) (0 : Int) a0.1 a0.2.1 a0.2.2.1 a0.2.2.2.1 a0.2.2.2.2.1 a0.2.2.2.2.2.1 a0.2.2.2.2.2.2.1)
  | .p7 y1 y2 y3 y4 y5 y6 y7 y8 y9 y10 => cond (decide (y3 < y2)) (cond (inB y3 (List.length y1)) (cond (decide ((List.getD y1 (Int.toNat y3) default).1 = (0 : Int))) (K (.p18 y1 y2 y3 true y4 y5 y6 y7 y8 y9 y10)) (cond (decide ((List.getD y1 (Int.toNat y3) default).2.1 = (0 : Int))) (K (.p18 y1 y2 y3 true y4 y5 y6 y7 y8 y9 y10)) (K (.p18 y1 y2 y3 ((decide ((List.getD y1 (Int.toNat y3) default).1 < (0 : Int))) != (decide ((List.getD y1 (Int.toNat y3) default).2.1 < (0 : Int)))) y4 y5 y6 y7 y8 y9 y10)))) (none)) (cond (decide (y4 < (-(1440 : Int)))) (K (.p27 true y4 y5 y6 y7 y8 y9 y10)) (cond (decide ((1440 : Int) < y4)) (K (.p27 true y4 y5 y6 y7 y8 y9 y10)) (cond (decide ((10 : Int) < ((List.length y10) : Int))) (K (.p27 true y4 y5 y6 y7 y8 y9 y10)) ((spec_l9Numbers n y10).bind fun r13 => K (.p27 (!r13) y4 y5 y6 y7 y8 y9 y10)))))
  | .p18 y1 y2 y3 y4 y5 y6 y7 y8 y9 y10 y11 => cond y4 (some false) (K (.p7 y1 y2 (IntKind.wrap .i64 (y3 + (1 : Int))) y5 y6 y7 y8 y9 y10 y11))
  | .p27 y1 y2 y3 y4 y5 y6 y7 y8 => cond y1 (some false) (K (.p38 y8 ((List.length y8) : Int) (0 : Int) y2 y3 y4 y5 y6 y7 y8))
  | .p38 y1 y2 y3 y4 y5 y6 y7 y8 y9 y10 => cond (decide (y3 < y2)) (cond (inB y3 (List.length y1)) (cond (decide ((List.getD y1 (Int.toNat y3) default) < (0 : Int))) (some false) (cond (decide ((20000000 : Int) < (List.getD y1 (Int.toNat y3) default))) (some false) (K (.p38 y1 y2 (IntKind.wrap .i64 (y3 + (1 : Int))) y4 y5 y6 y7 y8 y9 y10)))) (none)) ((spec_l19Ranges n y5 (0 : Int) (1439 : Int)).bind fun r13 => cond r13 ((spec_l19Ranges n y6 (0 : Int) (6 : Int)).bind fun r14 => cond r14 ((spec_l19Ranges n y7 (-(31 : Int)) (31 : Int)).bind fun r15 => cond r15 ((spec_l19Ranges n y8 (1 : Int) (12 : Int)).bind fun r16 => cond r16 ((spec_l19Ranges n y9 (1970 : Int) (40000 : Int)).bind fun r17 => some r17) (some false)) (some false)) (some false)) (some false))
def spec_GoodInterval (n : Nat) (a0 : (Int) × ((List ((Int) × ((Int) × (Unit)))) × ((List ((Int) × ((Int) × (Unit)))) × ((List ((Int) × ((Int) × (Unit)))) × ((List ((Int) × ((Int) × (Unit)))) × ((List ((Int) × ((Int) × (Unit)))) × ((List (Int)) × (Unit)))))))) : Option (Tup [.bool]) := goRec spec_GoodInterval.step n (.p0 a0)
def spec_GoodInterval.spec : Ctr := ⟨38, [.v (.pair (.int .i64) (.pair (.sl false (.pair (.int .i64) (.pair (.int .i64) .unit))) (.pair (.sl false (.pair (.int .i64) (.pair (.int .i64) .unit))) (.pair (.sl false (.pair (.int .i64) (.pair (.int .i64) .unit))) (.pair (.sl false (.pair (.int .i64) (.pair (.int .i64) .unit))) (.pair (.sl false (.pair (.int .i64) (.pair (.int .i64) .unit))) (.pair (.sl false (.int .i64)) .unit)))))))], [.bool], [], fun n x => spec_GoodInterval n x.1⟩
theorem spec_GoodInterval.seg_eq : SegEq ty gl spec_GoodInterval.F spec_GoodInterval.md spec_GoodInterval.T spec_GoodInterval.spec spec_GoodInterval.lb spec_GoodInterval.st spec_GoodInterval.step := by
  intro n goto y; cases y <;> kernel_rfl
theorem spec_GoodInterval.text : Text Go.Proofs.Tryz.prog spec_GoodInterval.F spec_GoodInterval.spec := textOf Go.Proofs.Tryz.f38
theorem spec_GoodInterval.ok : CtrOK Go.Proofs.Tryz.prog gl spec_GoodInterval.spec :=
  ctr_okS tabs spec_GoodInterval.text spec_GoodInterval.seg_eq (fun n x => ⟨.p0 x.1, rfl, rfl, rfl⟩) (consC spec_l9Numbers.ok (consC spec_l19Ranges.ok (nilC)))

/-! loop.example/g00039/spec.GoodNotify -/
def spec_GoodNotify.T : List Ctr := [spec_GoodRoutes.spec, spec_GoodSilences.spec, spec_GoodInhibits.spec, spec_GoodInterval.spec]
def spec_GoodNotify.md : List (Nat × List Md) := []
noncomputable def spec_GoodNotify.F : Fun := ⟨(Go.Proofs.Tryz.f8.body).getD .skip, [.v (.pair (.sl false (.pair .str (.pair (.sl false (.pair .str (.pair (.int .i64) (.pair .str .unit)))) (.pair (.sl false .str) (.pair (.int .i64) (.pair (.int .i64) (.pair (.int .i64) (.pair (.sl false (.int .i64)) (.pair .bool (.pair (.int .i64) .unit)))))))))) (.pair (.sl false (.pair (.int .i64) (.pair (.sl false (.pair (.int .i64) (.pair (.int .i64) .unit))) (.pair (.sl false (.pair (.int .i64) (.pair (.int .i64) .unit))) (.pair (.sl false (.pair (.int .i64) (.pair (.int .i64) .unit))) (.pair (.sl false (.pair (.int .i64) (.pair (.int .i64) .unit))) (.pair (.sl false (.pair (.int .i64) (.pair (.int .i64) .unit))) (.pair (.sl false (.int .i64)) .unit)))))))) (.pair (.sl false (.pair .str (.pair (.sl false (.pair .str (.pair (.int .i64) (.pair .str .unit)))) (.pair (.int .i64) (.pair (.int .i64) .unit))))) (.pair (.sl false (.pair (.sl false (.pair .str (.pair (.int .i64) (.pair .str .unit)))) (.pair (.sl false (.pair .str (.pair (.int .i64) (.pair .str .unit)))) (.pair (.sl false .str) .unit)))) .unit))))], [(.tmp 2, .bool)], [], 0, [(4, ⟨[1, 30], [], [(1, 0, (.pair .str (.pair (.sl false (.pair .str (.pair (.int .i64) (.pair .str .unit)))) (.pair (.sl false .str) (.pair (.int .i64) (.pair (.int .i64) (.pair (.int .i64) (.pair (.sl false (.int .i64)) (.pair .bool (.pair (.int .i64) .unit)))))))))), (1, 1, (.pair (.int .i64) (.pair (.sl false (.pair (.int .i64) (.pair (.int .i64) .unit))) (.pair (.sl false (.pair (.int .i64) (.pair (.int .i64) .unit))) (.pair (.sl false (.pair (.int .i64) (.pair (.int .i64) .unit))) (.pair (.sl false (.pair (.int .i64) (.pair (.int .i64) .unit))) (.pair (.sl false (.pair (.int .i64) (.pair (.int .i64) .unit))) (.pair (.sl false (.int .i64)) .unit)))))))), (1, 2, (.pair .str (.pair (.sl false (.pair .str (.pair (.int .i64) (.pair .str .unit)))) (.pair (.int .i64) (.pair (.int .i64) .unit))))), (1, 3, (.pair (.sl false (.pair .str (.pair (.int .i64) (.pair .str .unit)))) (.pair (.sl false (.pair .str (.pair (.int .i64) (.pair .str .unit)))) (.pair (.sl false .str) .unit))))], false⟩), (15, ⟨[1, 32, 33, 34], [(32, (.pair (.int .i64) (.pair (.sl false (.pair (.int .i64) (.pair (.int .i64) .unit))) (.pair (.sl false (.pair (.int .i64) (.pair (.int .i64) .unit))) (.pair (.sl false (.pair (.int .i64) (.pair (.int .i64) .unit))) (.pair (.sl false (.pair (.int .i64) (.pair (.int .i64) .unit))) (.pair (.sl false (.pair (.int .i64) (.pair (.int .i64) .unit))) (.pair (.sl false (.int .i64)) .unit))))))))], [(1, 0, (.pair .str (.pair (.sl false (.pair .str (.pair (.int .i64) (.pair .str .unit)))) (.pair (.sl false .str) (.pair (.int .i64) (.pair (.int .i64) (.pair (.int .i64) (.pair (.sl false (.int .i64)) (.pair .bool (.pair (.int .i64) .unit)))))))))), (1, 1, (.pair (.int .i64) (.pair (.sl false (.pair (.int .i64) (.pair (.int .i64) .unit))) (.pair (.sl false (.pair (.int .i64) (.pair (.int .i64) .unit))) (.pair (.sl false (.pair (.int .i64) (.pair (.int .i64) .unit))) (.pair (.sl false (.pair (.int .i64) (.pair (.int .i64) .unit))) (.pair (.sl false (.pair (.int .i64) (.pair (.int .i64) .unit))) (.pair (.sl false (.int .i64)) .unit)))))))), (1, 2, (.pair .str (.pair (.sl false (.pair .str (.pair (.int .i64) (.pair .str .unit)))) (.pair (.int .i64) (.pair (.int .i64) .unit))))), (1, 3, (.pair (.sl false (.pair .str (.pair (.int .i64) (.pair .str .unit)))) (.pair (.sl false (.pair .str (.pair (.int .i64) (.pair .str .unit)))) (.pair (.sl false .str) .unit))))], false⟩), (38, ⟨[1, 43, 44, 45], [(43, (.pair .str (.pair (.sl false (.pair .str (.pair (.int .i64) (.pair .str .unit)))) (.pair (.sl false .str) (.pair (.int .i64) (.pair (.int .i64) (.pair (.int .i64) (.pair (.sl false (.int .i64)) (.pair .bool (.pair (.int .i64) .unit))))))))))], [(1, 0, (.pair .str (.pair (.sl false (.pair .str (.pair (.int .i64) (.pair .str .unit)))) (.pair (.sl false .str) (.pair (.int .i64) (.pair (.int .i64) (.pair (.int .i64) (.pair (.sl false (.int .i64)) (.pair .bool (.pair (.int .i64) .unit)))))))))), (1, 1, (.pair (.int .i64) (.pair (.sl false (.pair (.int .i64) (.pair (.int .i64) .unit))) (.pair (.sl false (.pair (.int .i64) (.pair (.int .i64) .unit))) (.pair (.sl false (.pair (.int .i64) (.pair (.int .i64) .unit))) (.pair (.sl false (.pair (.int .i64) (.pair (.int .i64) .unit))) (.pair (.sl false (.pair (.int .i64) (.pair (.int .i64) .unit))) (.pair (.sl false (.int .i64)) .unit)))))))), (1, 2, (.pair .str (.pair (.sl false (.pair .str (.pair (.int .i64) (.pair .str .unit)))) (.pair (.int .i64) (.pair (.int .i64) .unit))))), (1, 3, (.pair (.sl false (.pair .str (.pair (.int .i64) (.pair .str .unit)))) (.pair (.sl false (.pair .str (.pair (.int .i64) (.pair .str .unit)))) (.pair (.sl false .str) .unit))))], false⟩), (52, ⟨[1, 43, 44, 45, 50, 51, 52], [(43, (.pair .str (.pair (.sl false (.pair .str (.pair (.int .i64) (.pair .str .unit)))) (.pair (.sl false .str) (.pair (.int .i64) (.pair (.int .i64) (.pair (.int .i64) (.pair (.sl false (.int .i64)) (.pair .bool (.pair (.int .i64) .unit)))))))))), (50, (.int .i64))], [(1, 0, (.pair .str (.pair (.sl false (.pair .str (.pair (.int .i64) (.pair .str .unit)))) (.pair (.sl false .str) (.pair (.int .i64) (.pair (.int .i64) (.pair (.int .i64) (.pair (.sl false (.int .i64)) (.pair .bool (.pair (.int .i64) .unit)))))))))), (1, 1, (.pair (.int .i64) (.pair (.sl false (.pair (.int .i64) (.pair (.int .i64) .unit))) (.pair (.sl false (.pair (.int .i64) (.pair (.int .i64) .unit))) (.pair (.sl false (.pair (.int .i64) (.pair (.int .i64) .unit))) (.pair (.sl false (.pair (.int .i64) (.pair (.int .i64) .unit))) (.pair (.sl false (.pair (.int .i64) (.pair (.int .i64) .unit))) (.pair (.sl false (.int .i64)) .unit)))))))), (1, 2, (.pair .str (.pair (.sl false (.pair .str (.pair (.int .i64) (.pair .str .unit)))) (.pair (.int .i64) (.pair (.int .i64) .unit))))), (1, 3, (.pair (.sl false (.pair .str (.pair (.int .i64) (.pair .str .unit)))) (.pair (.sl false (.pair .str (.pair (.int .i64) (.pair .str .unit)))) (.pair (.sl false .str) .unit))))], false⟩)]⟩
inductive spec_GoodNotify.Pt where
  | p0 (a0 : (List ((ByteArray) × ((List ((ByteArray) × ((Int) × ((ByteArray) × (Unit))))) × ((List (ByteArray)) × ((Int) × ((Int) × ((Int) × ((List (Int)) × ((Bool) × ((Int) × (Unit))))))))))) × ((List ((Int) × ((List ((Int) × ((Int) × (Unit)))) × ((List ((Int) × ((Int) × (Unit)))) × ((List ((Int) × ((Int) × (Unit)))) × ((List ((Int) × ((Int) × (Unit)))) × ((List ((Int) × ((Int) × (Unit)))) × ((List (Int)) × (Unit))))))))) × ((List ((ByteArray) × ((List ((ByteArray) × ((Int) × ((ByteArray) × (Unit))))) × ((Int) × ((Int) × (Unit)))))) × ((List ((List ((ByteArray) × ((Int) × ((ByteArray) × (Unit))))) × ((List ((ByteArray) × ((Int) × ((ByteArray) × (Unit))))) × ((List (ByteArray)) × (Unit))))) × (Unit)))))
  | p4 (y1 : Bool) (y2 : List ((ByteArray) × ((List ((ByteArray) × ((Int) × ((ByteArray) × (Unit))))) × ((List (ByteArray)) × ((Int) × ((Int) × ((Int) × ((List (Int)) × ((Bool) × ((Int) × (Unit))))))))))) (y3 : List ((Int) × ((List ((Int) × ((Int) × (Unit)))) × ((List ((Int) × ((Int) × (Unit)))) × ((List ((Int) × ((Int) × (Unit)))) × ((List ((Int) × ((Int) × (Unit)))) × ((List ((Int) × ((Int) × (Unit)))) × ((List (Int)) × (Unit))))))))) (y4 : List ((ByteArray) × ((List ((ByteArray) × ((Int) × ((ByteArray) × (Unit))))) × ((Int) × ((Int) × (Unit)))))) (y5 : List ((List ((ByteArray) × ((Int) × ((ByteArray) × (Unit))))) × ((List ((ByteArray) × ((Int) × ((ByteArray) × (Unit))))) × ((List (ByteArray)) × (Unit)))))
  | p15 (y1 : List ((Int) × ((List ((Int) × ((Int) × (Unit)))) × ((List ((Int) × ((Int) × (Unit)))) × ((List ((Int) × ((Int) × (Unit)))) × ((List ((Int) × ((Int) × (Unit)))) × ((List ((Int) × ((Int) × (Unit)))) × ((List (Int)) × (Unit))))))))) (y2 : Int) (y3 : Int) (y4 : List ((ByteArray) × ((List ((ByteArray) × ((Int) × ((ByteArray) × (Unit))))) × ((List (ByteArray)) × ((Int) × ((Int) × ((Int) × ((List (Int)) × ((Bool) × ((Int) × (Unit))))))))))) (y5 : List ((Int) × ((List ((Int) × ((Int) × (Unit)))) × ((List ((Int) × ((Int) × (Unit)))) × ((List ((Int) × ((Int) × (Unit)))) × ((List ((Int) × ((Int) × (Unit)))) × ((List ((Int) × ((Int) × (Unit)))) × ((List (Int)) × (Unit))))))))) (y6 : List ((ByteArray) × ((List ((ByteArray) × ((Int) × ((ByteArray) × (Unit))))) × ((Int) × ((Int) × (Unit)))))) (y7 : List ((List ((ByteArray) × ((Int) × ((ByteArray) × (Unit))))) × ((List ((ByteArray) × ((Int) × ((ByteArray) × (Unit))))) × ((List (ByteArray)) × (Unit)))))
  | p38 (y1 : List ((ByteArray) × ((List ((ByteArray) × ((Int) × ((ByteArray) × (Unit))))) × ((List (ByteArray)) × ((Int) × ((Int) × ((Int) × ((List (Int)) × ((Bool) × ((Int) × (Unit))))))))))) (y2 : Int) (y3 : Int) (y4 : List ((ByteArray) × ((List ((ByteArray) × ((Int) × ((ByteArray) × (Unit))))) × ((List (ByteArray)) × ((Int) × ((Int) × ((Int) × ((List (Int)) × ((Bool) × ((Int) × (Unit))))))))))) (y5 : List ((Int) × ((List ((Int) × ((Int) × (Unit)))) × ((List ((Int) × ((Int) × (Unit)))) × ((List ((Int) × ((Int) × (Unit)))) × ((List ((Int) × ((Int) × (Unit)))) × ((List ((Int) × ((Int) × (Unit)))) × ((List (Int)) × (Unit))))))))) (y6 : List ((ByteArray) × ((List ((ByteArray) × ((Int) × ((ByteArray) × (Unit))))) × ((Int) × ((Int) × (Unit)))))) (y7 : List ((List ((ByteArray) × ((Int) × ((ByteArray) × (Unit))))) × ((List ((ByteArray) × ((Int) × ((ByteArray) × (Unit))))) × ((List (ByteArray)) × (Unit)))))
  | p52 (y1 : List ((ByteArray) × ((List ((ByteArray) × ((Int) × ((ByteArray) × (Unit))))) × ((List (ByteArray)) × ((Int) × ((Int) × ((Int) × ((List (Int)) × ((Bool) × ((Int) × (Unit))))))))))) (y2 : Int) (y3 : Int) (y4 : List (Int)) (y5 : Int) (y6 : Int) (y7 : List ((ByteArray) × ((List ((ByteArray) × ((Int) × ((ByteArray) × (Unit))))) × ((List (ByteArray)) × ((Int) × ((Int) × ((Int) × ((List (Int)) × ((Bool) × ((Int) × (Unit))))))))))) (y8 : List ((Int) × ((List ((Int) × ((Int) × (Unit)))) × ((List ((Int) × ((Int) × (Unit)))) × ((List ((Int) × ((Int) × (Unit)))) × ((List ((Int) × ((Int) × (Unit)))) × ((List ((Int) × ((Int) × (Unit)))) × ((List (Int)) × (Unit))))))))) (y9 : List ((ByteArray) × ((List ((ByteArray) × ((Int) × ((ByteArray) × (Unit))))) × ((Int) × ((Int) × (Unit)))))) (y10 : List ((List ((ByteArray) × ((Int) × ((ByteArray) × (Unit))))) × ((List ((ByteArray) × ((Int) × ((ByteArray) × (Unit))))) × ((List (ByteArray)) × (Unit)))))
def spec_GoodNotify.lb : spec_GoodNotify.Pt → Nat
  | .p0 _ => 0
  | .p4 _ _ _ _ _ => 4
  | .p15 _ _ _ _ _ _ _ => 15
  | .p38 _ _ _ _ _ _ _ => 38
  | .p52 _ _ _ _ _ _ _ _ _ _ => 52
def spec_GoodNotify.st : spec_GoodNotify.Pt → St
  | .p0 a0 => enter [.v (.pair (.sl false (.pair .str (.pair (.sl false (.pair .str (.pair (.int .i64) (.pair .str .unit)))) (.pair (.sl false .str) (.pair (.int .i64) (.pair (.int .i64) (.pair (.int .i64) (.pair (.sl false (.int .i64)) (.pair .bool (.pair (.int .i64) .unit)))))))))) (.pair (.sl false (.pair (.int .i64) (.pair (.sl false (.pair (.int .i64) (.pair (.int .i64) .unit))) (.pair (.sl false (.pair (.int .i64) (.pair (.int .i64) .unit))) (.pair (.sl false (.pair (.int .i64) (.pair (.int .i64) .unit))) (.pair (.sl false (.pair (.int .i64) (.pair (.int .i64) .unit))) (.pair (.sl false (.pair (.int .i64) (.pair (.int .i64) .unit))) (.pair (.sl false (.int .i64)) .unit)))))))) (.pair (.sl false (.pair .str (.pair (.sl false (.pair .str (.pair (.int .i64) (.pair .str .unit)))) (.pair (.int .i64) (.pair (.int .i64) .unit))))) (.pair (.sl false (.pair (.sl false (.pair .str (.pair (.int .i64) (.pair .str .unit)))) (.pair (.sl false (.pair .str (.pair (.int .i64) (.pair .str .unit)))) (.pair (.sl false .str) .unit)))) .unit)))) a0] 0
  | .p4 y1 y2 y3 y4 y5 => ⟨[(1, .po 0 0), (30, .im .bool y1)], [(0, .obj [.im (.sl false (.pair .str (.pair (.sl false (.pair .str (.pair (.int .i64) (.pair .str .unit)))) (.pair (.sl false .str) (.pair (.int .i64) (.pair (.int .i64) (.pair (.int .i64) (.pair (.sl false (.int .i64)) (.pair .bool (.pair (.int .i64) .unit)))))))))) y2, .im (.sl false (.pair (.int .i64) (.pair (.sl false (.pair (.int .i64) (.pair (.int .i64) .unit))) (.pair (.sl false (.pair (.int .i64) (.pair (.int .i64) .unit))) (.pair (.sl false (.pair (.int .i64) (.pair (.int .i64) .unit))) (.pair (.sl false (.pair (.int .i64) (.pair (.int .i64) .unit))) (.pair (.sl false (.pair (.int .i64) (.pair (.int .i64) .unit))) (.pair (.sl false (.int .i64)) .unit)))))))) y3, .im (.sl false (.pair .str (.pair (.sl false (.pair .str (.pair (.int .i64) (.pair .str .unit)))) (.pair (.int .i64) (.pair (.int .i64) .unit))))) y4, .im (.sl false (.pair (.sl false (.pair .str (.pair (.int .i64) (.pair .str .unit)))) (.pair (.sl false (.pair .str (.pair (.int .i64) (.pair .str .unit)))) (.pair (.sl false .str) .unit)))) y5])], 1⟩
  | .p15 y1 y2 y3 y4 y5 y6 y7 => ⟨[(1, .po 0 0), (32, .im (.sl false (.pair (.int .i64) (.pair (.sl false (.pair (.int .i64) (.pair (.int .i64) .unit))) (.pair (.sl false (.pair (.int .i64) (.pair (.int .i64) .unit))) (.pair (.sl false (.pair (.int .i64) (.pair (.int .i64) .unit))) (.pair (.sl false (.pair (.int .i64) (.pair (.int .i64) .unit))) (.pair (.sl false (.pair (.int .i64) (.pair (.int .i64) .unit))) (.pair (.sl false (.int .i64)) .unit)))))))) y1), (33, .im (.int .i64) y2), (34, .im (.int .i64) y3)], [(0, .obj [.im (.sl false (.pair .str (.pair (.sl false (.pair .str (.pair (.int .i64) (.pair .str .unit)))) (.pair (.sl false .str) (.pair (.int .i64) (.pair (.int .i64) (.pair (.int .i64) (.pair (.sl false (.int .i64)) (.pair .bool (.pair (.int .i64) .unit)))))))))) y4, .im (.sl false (.pair (.int .i64) (.pair (.sl false (.pair (.int .i64) (.pair (.int .i64) .unit))) (.pair (.sl false (.pair (.int .i64) (.pair (.int .i64) .unit))) (.pair (.sl false (.pair (.int .i64) (.pair (.int .i64) .unit))) (.pair (.sl false (.pair (.int .i64) (.pair (.int .i64) .unit))) (.pair (.sl false (.pair (.int .i64) (.pair (.int .i64) .unit))) (.pair (.sl false (.int .i64)) .unit)))))))) y5, .im (.sl false (.pair .str (.pair (.sl false (.pair .str (.pair (.int .i64) (.pair .str .unit)))) (.pair (.int .i64) (.pair (.int .i64) .unit))))) y6, .im (.sl false (.pair (.sl false (.pair .str (.pair (.int .i64) (.pair .str .unit)))) (.pair (.sl false (.pair .str (.pair (.int .i64) (.pair .str .unit)))) (.pair (.sl false .str) .unit)))) y7])], 1⟩
  | .p38 y1 y2 y3 y4 y5 y6 y7 => ⟨[(1, .po 0 0), (43, .im (.sl false (.pair .str (.pair (.sl false (.pair .str (.pair (.int .i64) (.pair .str .unit)))) (.pair (.sl false .str) (.pair (.int .i64) (.pair (.int .i64) (.pair (.int .i64) (.pair (.sl false (.int .i64)) (.pair .bool (.pair (.int .i64) .unit)))))))))) y1), (44, .im (.int .i64) y2), (45, .im (.int .i64) y3)], [(0, .obj [.im (.sl false (.pair .str (.pair (.sl false (.pair .str (.pair (.int .i64) (.pair .str .unit)))) (.pair (.sl false .str) (.pair (.int .i64) (.pair (.int .i64) (.pair (.int .i64) (.pair (.sl false (.int .i64)) (.pair .bool (.pair (.int .i64) .unit)))))))))) y4, .im (.sl false (.pair (.int .i64) (.pair (.sl false (.pair (.int .i64) (.pair (.int .i64) .unit))) (.pair (.sl false (.pair (.int .i64) (.pair (.int .i64) .unit))) (.pair (.sl false (.pair (.int .i64) (.pair (.int .i64) .unit))) (.pair (.sl false (.pair (.int .i64) (.pair (.int .i64) .unit))) (.pair (.sl false (.pair (.int .i64) (.pair (.int .i64) .unit))) (.pair (.sl false (.int .i64)) .unit)))))))) y5, .im (.sl false (.pair .str (.pair (.sl false (.pair .str (.pair (.int .i64) (.pair .str .unit)))) (.pair (.int .i64) (.pair (.int .i64) .unit))))) y6, .im (.sl false (.pair (.sl false (.pair .str (.pair (.int .i64) (.pair .str .unit)))) (.pair (.sl false (.pair .str (.pair (.int .i64) (.pair .str .unit)))) (.pair (.sl false .str) .unit)))) y7])], 1⟩
  | .p52 y1 y2 y3 y4 y5 y6 y7 y8 y9 y10 => ⟨[(1, .po 0 0), (43, .im (.sl false (.pair .str (.pair (.sl false (.pair .str (.pair (.int .i64) (.pair .str .unit)))) (.pair (.sl false .str) (.pair (.int .i64) (.pair (.int .i64) (.pair (.int .i64) (.pair (.sl false (.int .i64)) (.pair .bool (.pair (.int .i64) .unit)))))))))) y1), (44, .im (.int .i64) y2), (45, .im (.int .i64) y3), (50, .im (.sl false (.int .i64)) y4), (51, .im (.int .i64) y5), (52, .im (.int .i64) y6)], [(0, .obj [.im (.sl false (.pair .str (.pair (.sl false (.pair .str (.pair (.int .i64) (.pair .str .unit)))) (.pair (.sl false .str) (.pair (.int .i64) (.pair (.int .i64) (.pair (.int .i64) (.pair (.sl false (.int .i64)) (.pair .bool (.pair (.int .i64) .unit)))))))))) y7, .im (.sl false (.pair (.int .i64) (.pair (.sl false (.pair (.int .i64) (.pair (.int .i64) .unit))) (.pair (.sl false (.pair (.int .i64) (.pair (.int .i64) .unit))) (.pair (.sl false (.pair (.int .i64) (.pair (.int .i64) .unit))) (.pair (.sl false (.pair (.int .i64) (.pair (.int .i64) .unit))) (.pair (.sl false (.pair (.int .i64) (.pair (.int .i64) .unit))) (.pair (.sl false (.int .i64)) .unit)))))))) y8, .im (.sl false (.pair .str (.pair (.sl false (.pair .str (.pair (.int .i64) (.pair .str .unit)))) (.pair (.int .i64) (.pair (.int .i64) .unit))))) y9, .im (.sl false (.pair (.sl false (.pair .str (.pair (.int .i64) (.pair .str .unit)))) (.pair (.sl false (.pair .str (.pair (.int .i64) (.pair .str .unit)))) (.pair (.sl false .str) .unit)))) y10])], 1⟩
def spec_GoodNotify.step (n : Nat) (K : spec_GoodNotify.Pt → Option (Tup [.bool])) : spec_GoodNotify.Pt → Option (Tup [.bool])
  | .p0 a0 => (spec_GoodRoutes n a0.1).bind fun r4 => cond (!r4) (K (.p4 true a0.1 a0.2.1 a0.2.2.1 a0.2.2.2.1)) ((spec_GoodSilences n a0.2.2.1).bind fun r5 => cond (!r5) (K (.p4 true a0.1 a0.2.1 a0.2.2.1 a0.2.2.2.1)) ((spec_GoodInhibits n a0.2.2.2.1).bind fun r6 => cond (!r6) (K (.p4 true a0.1 a0.2.1 a0.2.2.1 a0.2.2.2.1)) (K (.p4 (decide ((20 : Int) < ((List.length a0.2.1) : Int))) a0.1 a0.2.1 a0.2.2.1 a0.2.2.2.1))))
  | .p4 y1 y2 y3 y4 y5 => cond y1 (some false) (K (.p15 y3 ((List.length y3) : Int) (0 : Int) y2 y3 y4 y5))
  | .p15 y1 y2 y3 y4 y5 y6 y7 => cond (decide (y3 < y2)) (cond (inB y3 (List.length y1)) ((spec_GoodInterval n (List.getD y1 (Int.toNat y3) default)).bind fun r10 => cond (!r10) (some false) (K (.p15 y1 y2 (IntKind.wrap .i64 (y3 + (1 : Int))) y4 y5 y6 y7))) (none)) (K (.p38 y4 ((List.length y4) : Int) (0 : Int) y4 y5 y6 y7))
  | .p38 y1 y2 y3 y4 y5 y6 y7 => cond (decide (y3 < y2)) (cond (inB y3 (List.length y1)) (K (.p52 y1 y2 y3 (List.getD y1 (Int.toNat y3) default).2.2.2.2.2.2.1 ((List.length (List.getD y1 (Int.toNat y3) default).2.2.2.2.2.2.1) : Int) (0 : Int) y4 y5 y6 y7)) (none)) (some true)
  | .p52 y1 y2 y3 y4 y5 y6 y7 y8 y9 y10 => cond (decide (y6 < y5)) (cond (inB y6 (List.length y4)) (cond (decide (((List.length y8) : Int) ≤ (List.getD y4 (Int.toNat y6) default))) (some false) (K (.p52 y1 y2 y3 y4 y5 (IntKind.wrap .i64 (y6 + (1 : Int))) y7 y8 y9 y10))) (none)) (K (.p38 y1 y2 (IntKind.wrap .i64 (y3 + (1 : Int))) y7 y8 y9 y10))
def spec_GoodNotify (n : Nat) (a0 : (List ((ByteArray) × ((List ((ByteArray) × ((Int) × ((ByteArray) × (Unit))))) × ((List (ByteArray)) × ((Int) × ((Int) × ((Int) × ((List (Int)) × ((Bool) × ((Int) × (Unit))))))))))) × ((List ((Int) × ((List ((Int) × ((Int) × (Unit)))) × ((List ((Int) × ((Int) × (Unit)))) × ((List ((Int) × ((Int) × (Unit)))) × ((List ((Int) × ((Int) × (Unit)))) × ((List ((Int) × ((Int) × (Unit)))) × ((List (Int)) × (Unit))))))))) × ((List ((ByteArray) × ((List ((ByteArray) × ((Int) × ((ByteArray) × (Unit))))) × ((Int) × ((Int) × (Unit)))))) × ((List ((List ((ByteArray) × ((Int) × ((ByteArray) × (Unit))))) × ((List ((ByteArray) × ((Int) × ((ByteArray) × (Unit))))) × ((List (ByteArray)) × (Unit))))) × (Unit))))) : Option (Tup [.bool]) := goRec spec_GoodNotify.step n (.p0 a0)
def spec_GoodNotify.spec : Ctr := ⟨8, [.v (.pair (.sl false (.pair .str (.pair (.sl false (.pair .str (.pair (.int .i64) (.pair .str .unit)))) (.pair (.sl false .str) (.pair (.int .i64) (.pair (.int .i64) (.pair (.int .i64) (.pair (.sl false (.int .i64)) (.pair .bool (.pair (.int .i64) .unit)))))))))) (.pair (.sl false (.pair (.int .i64) (.pair (.sl false (.pair (.int .i64) (.pair (.int .i64) .unit))) (.pair (.sl false (.pair (.int .i64) (.pair (.int .i64) .unit))) (.pair (.sl false (.pair (.int .i64) (.pair (.int .i64) .unit))) (.pair (.sl false (.pair (.int .i64) (.pair (.int .i64) .unit))) (.pair (.sl false (.pair (.int .i64) (.pair (.int .i64) .unit))) (.pair (.sl false (.int .i64)) .unit)))))))) (.pair (.sl false (.pair .str (.pair (.sl false (.pair .str (.pair (.int .i64) (.pair .str .unit)))) (.pair (.int .i64) (.pair (.int .i64) .unit))))) (.pair (.sl false (.pair (.sl false (.pair .str (.pair (.int .i64) (.pair .str .unit)))) (.pair (.sl false (.pair .str (.pair (.int .i64) (.pair .str .unit)))) (.pair (.sl false .str) .unit)))) .unit))))], [.bool], [], fun n x => spec_GoodNotify n x.1⟩
theorem spec_GoodNotify.seg_eq : SegEq ty gl spec_GoodNotify.F spec_GoodNotify.md spec_GoodNotify.T spec_GoodNotify.spec spec_GoodNotify.lb spec_GoodNotify.st spec_GoodNotify.step := by
  intro n goto y; cases y <;> kernel_rfl
theorem spec_GoodNotify.text : Text Go.Proofs.Tryz.prog spec_GoodNotify.F spec_GoodNotify.spec := textOf Go.Proofs.Tryz.f8
theorem spec_GoodNotify.ok : CtrOK Go.Proofs.Tryz.prog gl spec_GoodNotify.spec :=
  ctr_okS tabs spec_GoodNotify.text spec_GoodNotify.seg_eq (fun n x => ⟨.p0 x.1, rfl, rfl, rfl⟩) (consC spec_GoodRoutes.ok (consC spec_GoodSilences.ok (consC spec_GoodInhibits.ok (consC spec_GoodInterval.ok (nilC)))))

/-! loop.example/g00039/spec.l19Leap -/
def spec_l19Leap.T : List Ctr := []
def spec_l19Leap.md : List (Nat × List Md) := []
noncomputable def spec_l19Leap.F : Fun := ⟨(Go.Proofs.Tryz.f201.body).getD .skip, [.v (.int .i64)], [(.tmp 2, .bool)], [], 0, []⟩
inductive spec_l19Leap.Pt where
  | p0 (a0 : Int)
def spec_l19Leap.lb : spec_l19Leap.Pt → Nat
  | .p0 _ => 0
def spec_l19Leap.st : spec_l19Leap.Pt → St
  | .p0 a0 => enter [.v (.int .i64) a0] 0
def spec_l19Leap.step (n : Nat) (K : spec_l19Leap.Pt → Option (Tup [.bool])) : spec_l19Leap.Pt → Option (Tup [.bool])
  | .p0 a0 => cond (decide ((Int.tmod a0 (4 : Int)) = (0 : Int))) (cond (!(decide ((Int.tmod a0 (100 : Int)) = (0 : Int)))) (some true) (some (decide ((Int.tmod a0 (400 : Int)) = (0 : Int))))) (some false)
def spec_l19Leap (n : Nat) (a0 : Int) : Option (Tup [.bool]) := goRec spec_l19Leap.step n (.p0 a0)
def spec_l19Leap.spec : Ctr := ⟨201, [.v (.int .i64)], [.bool], [], fun n x => spec_l19Leap n x.1⟩
theorem spec_l19Leap.seg_eq : SegEq ty gl spec_l19Leap.F spec_l19Leap.md spec_l19Leap.T spec_l19Leap.spec spec_l19Leap.lb spec_l19Leap.st spec_l19Leap.step := by
  intro n goto y; cases y <;> kernel_rfl
theorem spec_l19Leap.text : Text Go.Proofs.Tryz.prog spec_l19Leap.F spec_l19Leap.spec := textOf Go.Proofs.Tryz.f201
theorem spec_l19Leap.ok : CtrOK Go.Proofs.Tryz.prog gl spec_l19Leap.spec :=
  ctr_okS tabs spec_l19Leap.text spec_l19Leap.seg_eq (fun n x => ⟨.p0 x.1, rfl, rfl, rfl⟩) (nilC)

/-! loop.example/g00039/spec.l19Year -/
def spec_l19Year.T : List Ctr := [spec_l19Leap.spec]
def spec_l19Year.md : List (Nat × List Md) := []
noncomputable def spec_l19Year.F : Fun := ⟨(Go.Proofs.Tryz.f186.body).getD .skip, [.v (.int .i64)], [(.tmp 2, (.int .i64))], [], 0, []⟩
inductive spec_l19Year.Pt where
  | p0 (a0 : Int)
def spec_l19Year.lb : spec_l19Year.Pt → Nat
  | .p0 _ => 0
def spec_l19Year.st : spec_l19Year.Pt → St
  | .p0 a0 => enter [.v (.int .i64) a0] 0
def spec_l19Year.step (n : Nat) (K : spec_l19Year.Pt → Option (Tup [(.int .i64)])) : spec_l19Year.Pt → Option (Tup [(.int .i64)])
  | .p0 a0 => (spec_l19Leap n a0).bind fun r4 => cond r4 (some (366 : Int)) (some (365 : Int))
def spec_l19Year (n : Nat) (a0 : Int) : Option (Tup [(.int .i64)]) := goRec spec_l19Year.step n (.p0 a0)
def spec_l19Year.spec : Ctr := ⟨186, [.v (.int .i64)], [(.int .i64)], [], fun n x => spec_l19Year n x.1⟩
theorem spec_l19Year.seg_eq : SegEq ty gl spec_l19Year.F spec_l19Year.md spec_l19Year.T spec_l19Year.spec spec_l19Year.lb spec_l19Year.st spec_l19Year.step := by
  intro n goto y; cases y <;> kernel_rfl
theorem spec_l19Year.text : Text Go.Proofs.Tryz.prog spec_l19Year.F spec_l19Year.spec := textOf Go.Proofs.Tryz.f186
theorem spec_l19Year.ok : CtrOK Go.Proofs.Tryz.prog gl spec_l19Year.spec :=
  ctr_okS tabs spec_l19Year.text spec_l19Year.seg_eq (fun n x => ⟨.p0 x.1, rfl, rfl, rfl⟩) (consC spec_l19Leap.ok (nilC))

/-! loop.example/g00039/spec.l19Month -/
def spec_l19Month.T : List Ctr := [spec_l19Leap.spec]
def spec_l19Month.md : List (Nat × List Md) := []
noncomputable def spec_l19Month.F : Fun := ⟨(Go.Proofs.Tryz.f187.body).getD .skip, [.v (.int .i64), .v (.int .i64)], [(.tmp 4, (.int .i64))], [], 0, []⟩
inductive spec_l19Month.Pt where
  | p0 (a0 : Int) (a1 : Int)
def spec_l19Month.lb : spec_l19Month.Pt → Nat
  | .p0 _ _ => 0
def spec_l19Month.st : spec_l19Month.Pt → St
  | .p0 a0 a1 => enter [.v (.int .i64) a0, .v (.int .i64) a1] 0
def spec_l19Month.step (n : Nat) (K : spec_l19Month.Pt → Option (Tup [(.int .i64)])) : spec_l19Month.Pt → Option (Tup [(.int .i64)])
  | .p0 a0 a1 => cond (decide (a1 = (2 : Int))) ((spec_l19Leap n a0).bind fun r5 => cond r5 (some (29 : Int)) (cond (inB a1 (List.length [(0 : Int), (31 : Int), (28 : Int), (31 : Int), (30 : Int), (31 : Int), (30 : Int), (31 : Int), (31 : Int), (30 : Int), (31 : Int), (30 : Int), (31 : Int)])) (some (List.getD [(0 : Int), (31 : Int), (28 : Int), (31 : Int), (30 : Int), (31 : Int), (30 : Int), (31 : Int), (31 : Int), (30 : Int), (31 : Int), (30 : Int), (31 : Int)] (0 + (Int.toNat a1)) default)) (none))) (cond (inB a1 (List.length [(0 : Int), (31 : Int), (28 : Int), (31 : Int), (30 : Int), (31 : Int), (30 : Int), (31 : Int), (31 : Int), (30 : Int), (31 : Int), (30 : Int), (31 : Int)])) (some (List.getD [(0 : Int), (31 : Int), (28 : Int), (31 : Int), (30 : Int), (31 : Int), (30 : Int), (31 : Int), (31 : Int), (30 : Int), (31 : Int), (30 : Int), (31 : Int)] (0 + (Int.toNat a1)) default)) (none))
def spec_l19Month (n : Nat) (a0 : Int) (a1 : Int) : Option (Tup [(.int .i64)]) := goRec spec_l19Month.step n (.p0 a0 a1)
def spec_l19Month.spec : Ctr := ⟨187, [.v (.int .i64), .v (.int .i64)], [(.int .i64)], [], fun n x => spec_l19Month n x.1 x.2.1⟩
theorem spec_l19Month.seg_eq : SegEq ty gl spec_l19Month.F spec_l19Month.md spec_l19Month.T spec_l19Month.spec spec_l19Month.lb spec_l19Month.st spec_l19Month.step := by
  intro n goto y; cases y <;> kernel_rfl
theorem spec_l19Month.text : Text Go.Proofs.Tryz.prog spec_l19Month.F spec_l19Month.spec := textOf Go.Proofs.Tryz.f187
theorem spec_l19Month.ok : CtrOK Go.Proofs.Tryz.prog gl spec_l19Month.spec :=
  ctr_okS tabs spec_l19Month.text spec_l19Month.seg_eq (fun n x => ⟨.p0 x.1 x.2.1, rfl, rfl, rfl⟩) (consC spec_l19Leap.ok (nilC))

/-! loop.example/g00039/spec.DateOf -/
def spec_DateOf.T : List Ctr := [spec_l3Time.spec, spec_l19Year.spec, spec_l19Month.spec]
def spec_DateOf.md : List (Nat × List Md) := []
noncomputable def spec_DateOf.F : Fun := ⟨(Go.Proofs.Tryz.f151.body).getD .skip, [.v (.int .i64), .v (.int .i64)], [(.cell 4 183, (.pair (.int .i64) (.pair (.int .i64) (.pair (.int .i64) (.pair (.int .i64) (.pair (.int .i64) (.pair (.int .i64) .unit)))))))], [], 0, [(4, ⟨[0, 1, 4, 25], [], [], false⟩), (19, ⟨[4, 6, 7], [], [], false⟩), (32, ⟨[4, 6, 7], [], [], false⟩)]⟩
inductive spec_DateOf.Pt where
  | p0 (a0 : Int) (a1 : Int)
  | p4 (y1 : Int) (y2 : Int) (y3 : Bool) (y4 : Int) (y5 : Int) (y6 : Int) (y7 : Int) (y8 : Int) (y9 : Int)
  | p19 (y1 : Int) (y2 : Int) (y3 : Int) (y4 : Int) (y5 : Int) (y6 : Int) (y7 : Int) (y8 : Int) (y9 : Int) (y10 : Int) (y11 : Int) (y12 : Int) (y13 : Int)
  | p32 (y1 : Int) (y2 : Int) (y3 : Int) (y4 : Int) (y5 : Int) (y6 : Int) (y7 : Int) (y8 : Int) (y9 : Int) (y10 : Int) (y11 : Int) (y12 : Int) (y13 : Int)
def spec_DateOf.lb : spec_DateOf.Pt → Nat
  | .p0 _ _ => 0
  | .p4 _ _ _ _ _ _ _ _ _ => 4
  | .p19 _ _ _ _ _ _ _ _ _ _ _ _ _ => 19
  | .p32 _ _ _ _ _ _ _ _ _ _ _ _ _ => 32
def spec_DateOf.st : spec_DateOf.Pt → St
  | .p0 a0 a1 => enter [.v (.int .i64) a0, .v (.int .i64) a1] 0
  | .p4 y1 y2 y3 y4 y5 y6 y7 y8 y9 => ⟨[(0, .im (.int .i64) y1), (1, .im (.int .i64) y2), (4, .po 0 0), (25, .im .bool y3)], [(0, .obj [.im (.int .i64) y4, .im (.int .i64) y5, .im (.int .i64) y6, .im (.int .i64) y7, .im (.int .i64) y8, .im (.int .i64) y9])], 1⟩
  | .p19 y1 y2 y3 y4 y5 y6 y7 y8 y9 y10 y11 y12 y13 => ⟨[(4, .po 0 0), (6, .im (.int .i64) y1), (7, .po 1 0)], [(0, .obj [.im (.int .i64) y2, .im (.int .i64) y3, .im (.int .i64) y4, .im (.int .i64) y5, .im (.int .i64) y6, .im (.int .i64) y7]), (1, .obj [.im (.int .i64) y8, .im (.int .i64) y9, .im (.int .i64) y10, .im (.int .i64) y11, .im (.int .i64) y12, .im (.int .i64) y13])], 2⟩
  | .p32 y1 y2 y3 y4 y5 y6 y7 y8 y9 y10 y11 y12 y13 => ⟨[(4, .po 0 0), (6, .im (.int .i64) y1), (7, .po 1 0)], [(0, .obj [.im (.int .i64) y2, .im (.int .i64) y3, .im (.int .i64) y4, .im (.int .i64) y5, .im (.int .i64) y6, .im (.int .i64) y7]), (1, .obj [.im (.int .i64) y8, .im (.int .i64) y9, .im (.int .i64) y10, .im (.int .i64) y11, .im (.int .i64) y12, .im (.int .i64) y13])], 2⟩
def spec_DateOf.step (n : Nat) (K : spec_DateOf.Pt → Option (Tup [(.pair (.int .i64) (.pair (.int .i64) (.pair (.int .i64) (.pair (.int .i64) (.pair (.int .i64) (.pair (.int .i64) .unit))))))])) : spec_DateOf.Pt → Option (Tup [(.pair (.int .i64) (.pair (.int .i64) (.pair (.int .i64) (.pair (.int .i64) (.pair (.int .i64) (.pair (.int .i64) .unit))))))])
  | .p0 a0 a1 => (spec_l3Time n a0).bind fun r5 => cond (!r5) (K (.p4 a0 a1 true (default : Int) (default : Int) (default : Int) (default : Int) (default : Int) (default : Int))) (cond (decide (a1 < (-(1440 : Int)))) (K (.p4 a0 a1 true (default : Int) (default : Int) (default : Int) (default : Int) (default : Int) (default : Int))) (cond (decide ((1440 : Int) < a1)) (K (.p4 a0 a1 true (default : Int) (default : Int) (default : Int) (default : Int) (default : Int) (default : Int))) (K (.p4 a0 a1 (decide ((IntKind.wrap .i64 (a0 + (IntKind.wrap .i64 ((60 : Int) * a1)))) < (0 : Int))) (default : Int) (default : Int) (default : Int) (default : Int) (default : Int) (default : Int)))))
  | .p4 y1 y2 y3 y4 y5 y6 y7 y8 y9 => cond y3 (some (default : (Int) × ((Int) × ((Int) × ((Int) × ((Int) × ((Int) × (Unit)))))))) (K (.p19 (IntKind.wrap .i64 (Int.tdiv (IntKind.wrap .i64 (Int.tdiv (IntKind.wrap .i64 (y1 + (IntKind.wrap .i64 ((60 : Int) * y2)))) (60 : Int))) (1440 : Int))) y4 y5 y6 y7 y8 y9 (1970 : Int) (1 : Int) (default : Int) (default : Int) (Int.tmod (IntKind.wrap .i64 ((IntKind.wrap .i64 (Int.tdiv (IntKind.wrap .i64 (Int.tdiv (IntKind.wrap .i64 (y1 + (IntKind.wrap .i64 ((60 : Int) * y2)))) (60 : Int))) (1440 : Int))) + (4 : Int))) (7 : Int)) (Int.tmod (IntKind.wrap .i64 (Int.tdiv (IntKind.wrap .i64 (y1 + (IntKind.wrap .i64 ((60 : Int) * y2)))) (60 : Int))) (1440 : Int))))
  | .p19 y1 y2 y3 y4 y5 y6 y7 y8 y9 y10 y11 y12 y13 => (spec_l19Year n y8).bind fun (r16 : Int) => cond (decide (r16 ≤ y1)) ((spec_l19Year n y8).bind fun (r17 : Int) => K (.p19 (IntKind.wrap .i64 (y1 - r17)) y2 y3 y4 y5 y6 y7 (IntKind.wrap .i64 (y8 + (1 : Int))) y9 y10 y11 y12 y13)) (K (.p32 y1 y2 y3 y4 y5 y6 y7 y8 y9 y10 y11 y12 y13))
  | .p32 y1 y2 y3 y4 y5 y6 y7 y8 y9 y10 y11 y12 y13 => (spec_l19Month n y8 y9).bind fun (r16 : Int) => cond (decide (r16 ≤ y1)) ((spec_l19Month n y8 y9).bind fun (r17 : Int) => K (.p32 (IntKind.wrap .i64 (y1 - r17)) y2 y3 y4 y5 y6 y7 y8 (IntKind.wrap .i64 (y9 + (1 : Int))) y10 y11 y12 y13)) ((spec_l19Month n y8 y9).bind fun (r17 : Int) => some (y8, (y9, ((IntKind.wrap .i64 (y1 + (1 : Int))), (r17, (y12, (y13, ())))))))
def spec_DateOf (n : Nat) (a0 : Int) (a1 : Int) : Option (Tup [(.pair (.int .i64) (.pair (.int .i64) (.pair (.int .i64) (.pair (.int .i64) (.pair (.int .i64) (.pair (.int .i64) .unit))))))]) := goRec spec_DateOf.step n (.p0 a0 a1)
def spec_DateOf.spec : Ctr := ⟨151, [.v (.int .i64), .v (.int .i64)], [(.pair (.int .i64) (.pair (.int .i64) (.pair (.int .i64) (.pair (.int .i64) (.pair (.int .i64) (.pair (.int .i64) .unit))))))], [], fun n x => spec_DateOf n x.1 x.2.1⟩
theorem spec_DateOf.seg_eq : SegEq ty gl spec_DateOf.F spec_DateOf.md spec_DateOf.T spec_DateOf.spec spec_DateOf.lb spec_DateOf.st spec_DateOf.step := by
  intro n goto y; cases y <;> kernel_rfl
theorem spec_DateOf.text : Text Go.Proofs.Tryz.prog spec_DateOf.F spec_DateOf.spec := textOf Go.Proofs.Tryz.f151
theorem spec_DateOf.ok : CtrOK Go.Proofs.Tryz.prog gl spec_DateOf.spec :=
  ctr_okS tabs spec_DateOf.text spec_DateOf.seg_eq (fun n x => ⟨.p0 x.1 x.2.1, rfl, rfl, rfl⟩) (consC spec_l3Time.ok (consC spec_l19Year.ok (consC spec_l19Month.ok (nilC))))

/-! loop.example/g00039/spec.l19In -/
def spec_l19In.T : List Ctr := []
def spec_l19In.md : List (Nat × List Md) := []
noncomputable def spec_l19In.F : Fun := ⟨(Go.Proofs.Tryz.f152.body).getD .skip, [.v (.sl false (.pair (.int .i64) (.pair (.int .i64) .unit))), .v (.int .i64)], [(.tmp 4, .bool)], [], 0, [(9, ⟨[1, 5, 11, 12, 13], [(11, (.pair (.int .i64) (.pair (.int .i64) .unit)))], [], false⟩)]⟩
inductive spec_l19In.Pt where
  | p0 (a0 : List ((Int) × ((Int) × (Unit)))) (a1 : Int)
  | p9 (y1 : Int) (y2 : Bool) (y3 : List ((Int) × ((Int) × (Unit)))) (y4 : Int) (y5 : Int)
def spec_l19In.lb : spec_l19In.Pt → Nat
  | .p0 _ _ => 0
  | .p9 _ _ _ _ _ => 9
def spec_l19In.st : spec_l19In.Pt → St
  | .p0 a0 a1 => enter [.v (.sl false (.pair (.int .i64) (.pair (.int .i64) .unit))) a0, .v (.int .i64) a1] 0
  | .p9 y1 y2 y3 y4 y5 => ⟨[(1, .im (.int .i64) y1), (5, .im .bool y2), (11, .im (.sl false (.pair (.int .i64) (.pair (.int .i64) .unit))) y3), (12, .im (.int .i64) y4), (13, .im (.int .i64) y5)], [], 0⟩
def spec_l19In.step (n : Nat) (K : spec_l19In.Pt → Option (Tup [.bool])) : spec_l19In.Pt → Option (Tup [.bool])
  | .p0 a0 a1 => K (.p9 a1 (decide (((List.length a0) : Int) = (0 : Int))) a0 ((List.length a0) : Int) (0 : Int))
  | .p9 y1 y2 y3 y4 y5 => cond (decide (y5 < y4)) (cond (inB y5 (List.length y3)) (cond y2 (K (.p9 y1 true y3 y4 (IntKind.wrap .i64 (y5 + (1 : Int))))) (cond (decide ((List.getD y3 (Int.toNat y5) default).1 ≤ y1)) (K (.p9 y1 (decide (y1 ≤ (List.getD y3 (Int.toNat y5) default).2.1)) y3 y4 (IntKind.wrap .i64 (y5 + (1 : Int))))) (K (.p9 y1 false y3 y4 (IntKind.wrap .i64 (y5 + (1 : Int))))))) (none)) (some y2)
def spec_l19In (n : Nat) (a0 : List ((Int) × ((Int) × (Unit)))) (a1 : Int) : Option (Tup [.bool]) := goRec spec_l19In.step n (.p0 a0 a1)
def spec_l19In.spec : Ctr := ⟨152, [.v (.sl false (.pair (.int .i64) (.pair (.int .i64) .unit))), .v (.int .i64)], [.bool], [], fun n x => spec_l19In n x.1 x.2.1⟩
theorem spec_l19In.seg_eq : SegEq ty gl spec_l19In.F spec_l19In.md spec_l19In.T spec_l19In.spec spec_l19In.lb spec_l19In.st spec_l19In.step := by
  intro n goto y; cases y <;> kernel_rfl
theorem spec_l19In.text : Text Go.Proofs.Tryz.prog spec_l19In.F spec_l19In.spec := textOf Go.Proofs.Tryz.f152
theorem spec_l19In.ok : CtrOK Go.Proofs.Tryz.prog gl spec_l19In.spec :=
  ctr_okS tabs spec_l19In.text spec_l19In.seg_eq (fun n x => ⟨.p0 x.1 x.2.1, rfl, rfl, rfl⟩) (nilC)

/-! loop.example/g00039/spec.DayNumber -/
def spec_DayNumber.T : List Ctr := [spec_l19Year.spec, spec_l19Month.spec]
def spec_DayNumber.md : List (Nat × List Md) := []
noncomputable def spec_DayNumber.F : Fun := ⟨(Go.Proofs.Tryz.f154.body).getD .skip, [.v (.int .i64), .v (.int .i64), .v (.int .i64)], [(.tmp 6, (.int .i64))], [], 0, [(4, ⟨[0, 1, 2, 34], [], [], false⟩), (17, ⟨[0, 1, 7, 8], [], [], false⟩), (32, ⟨[0, 1, 7, 9], [], [], false⟩)]⟩
inductive spec_DayNumber.Pt where
  | p0 (a0 : Int) (a1 : Int) (a2 : Int)
  | p4 (y1 : Int) (y2 : Int) (y3 : Int) (y4 : Bool)
  | p17 (y1 : Int) (y2 : Int) (y3 : Int) (y4 : Int)
  | p32 (y1 : Int) (y2 : Int) (y3 : Int) (y4 : Int)
def spec_DayNumber.lb : spec_DayNumber.Pt → Nat
  | .p0 _ _ _ => 0
  | .p4 _ _ _ _ => 4
  | .p17 _ _ _ _ => 17
  | .p32 _ _ _ _ => 32
def spec_DayNumber.st : spec_DayNumber.Pt → St
  | .p0 a0 a1 a2 => enter [.v (.int .i64) a0, .v (.int .i64) a1, .v (.int .i64) a2] 0
  | .p4 y1 y2 y3 y4 => ⟨[(0, .im (.int .i64) y1), (1, .im (.int .i64) y2), (2, .im (.int .i64) y3), (34, .im .bool y4)], [], 0⟩
  | .p17 y1 y2 y3 y4 => ⟨[(0, .im (.int .i64) y1), (1, .im (.int .i64) y2), (7, .im (.int .i64) y3), (8, .im (.int .i64) y4)], [], 0⟩
  | .p32 y1 y2 y3 y4 => ⟨[(0, .im (.int .i64) y1), (1, .im (.int .i64) y2), (7, .im (.int .i64) y3), (9, .im (.int .i64) y4)], [], 0⟩
def spec_DayNumber.step (n : Nat) (K : spec_DayNumber.Pt → Option (Tup [(.int .i64)])) : spec_DayNumber.Pt → Option (Tup [(.int .i64)])
  | .p0 a0 a1 a2 => cond (decide (a0 < (1970 : Int))) (K (.p4 a0 a1 a2 true)) (cond (decide ((40000 : Int) < a0)) (K (.p4 a0 a1 a2 true)) (cond (decide (a1 < (1 : Int))) (K (.p4 a0 a1 a2 true)) (cond (decide ((12 : Int) < a1)) (K (.p4 a0 a1 a2 true)) (cond (decide (a2 < (1 : Int))) (K (.p4 a0 a1 a2 true)) ((spec_l19Month n a0 a1).bind fun (r6 : Int) => K (.p4 a0 a1 a2 (decide (r6 < a2))))))))
  | .p4 y1 y2 y3 y4 => cond y4 (some (-(1 : Int))) (K (.p17 y1 y2 (IntKind.wrap .i64 (y3 - (1 : Int))) (1970 : Int)))
  | .p17 y1 y2 y3 y4 => cond (decide (y4 < y1)) ((spec_l19Year n y4).bind fun (r7 : Int) => K (.p17 y1 y2 (IntKind.wrap .i64 (y3 + r7)) (IntKind.wrap .i64 (y4 + (1 : Int))))) (K (.p32 y1 y2 y3 (1 : Int)))
  | .p32 y1 y2 y3 y4 => cond (decide (y4 < y2)) ((spec_l19Month n y1 y4).bind fun (r7 : Int) => K (.p32 y1 y2 (IntKind.wrap .i64 (y3 + r7)) (IntKind.wrap .i64 (y4 + (1 : Int))))) (some y3)
def spec_DayNumber (n : Nat) (a0 : Int) (a1 : Int) (a2 : Int) : Option (Tup [(.int .i64)]) := goRec spec_DayNumber.step n (.p0 a0 a1 a2)
def spec_DayNumber.spec : Ctr := ⟨154, [.v (.int .i64), .v (.int .i64), .v (.int .i64)], [(.int .i64)], [], fun n x => spec_DayNumber n x.1 x.2.1 x.2.2.1⟩
theorem spec_DayNumber.seg_eq : SegEq ty gl spec_DayNumber.F spec_DayNumber.md spec_DayNumber.T spec_DayNumber.spec spec_DayNumber.lb spec_DayNumber.st spec_DayNumber.step := by
  intro n goto y; cases y <;> kernel_rfl
theorem spec_DayNumber.text : Text Go.Proofs.Tryz.prog spec_DayNumber.F spec_DayNumber.spec := textOf Go.Proofs.Tryz.f154
theorem spec_DayNumber.ok : CtrOK Go.Proofs.Tryz.prog gl spec_DayNumber.spec :=
  ctr_okS tabs spec_DayNumber.text spec_DayNumber.seg_eq (fun n x => ⟨.p0 x.1 x.2.1 x.2.2.1, rfl, rfl, rfl⟩) (consC spec_l19Year.ok (consC spec_l19Month.ok (nilC)))

/-! loop.example/g00039/spec.l9In -/
def spec_l9In.T : List Ctr := []
def spec_l9In.md : List (Nat × List Md) := []
noncomputable def spec_l9In.F : Fun := ⟨(Go.Proofs.Tryz.f153.body).getD .skip, [.v (.sl false (.int .i64)), .v (.int .i64)], [(.tmp 4, .bool)], [], 0, [(7, ⟨[1, 7, 8, 9], [(7, (.int .i64))], [], false⟩)]⟩
inductive spec_l9In.Pt where
  | p0 (a0 : List (Int)) (a1 : Int)
  | p7 (y1 : Int) (y2 : List (Int)) (y3 : Int) (y4 : Int)
def spec_l9In.lb : spec_l9In.Pt → Nat
  | .p0 _ _ => 0
  | .p7 _ _ _ _ => 7
def spec_l9In.st : spec_l9In.Pt → St
  | .p0 a0 a1 => enter [.v (.sl false (.int .i64)) a0, .v (.int .i64) a1] 0
  | .p7 y1 y2 y3 y4 => ⟨[(1, .im (.int .i64) y1), (7, .im (.sl false (.int .i64)) y2), (8, .im (.int .i64) y3), (9, .im (.int .i64) y4)], [], 0⟩
def spec_l9In.step (n : Nat) (K : spec_l9In.Pt → Option (Tup [.bool])) : spec_l9In.Pt → Option (Tup [.bool])
  | .p0 a0 a1 => K (.p7 a1 a0 ((List.length a0) : Int) (0 : Int))
  | .p7 y1 y2 y3 y4 => cond (decide (y4 < y3)) (cond (inB y4 (List.length y2)) (cond (decide ((List.getD y2 (Int.toNat y4) default) = y1)) (some true) (K (.p7 y1 y2 y3 (IntKind.wrap .i64 (y4 + (1 : Int)))))) (none)) (some false)
def spec_l9In (n : Nat) (a0 : List (Int)) (a1 : Int) : Option (Tup [.bool]) := goRec spec_l9In.step n (.p0 a0 a1)
def spec_l9In.spec : Ctr := ⟨153, [.v (.sl false (.int .i64)), .v (.int .i64)], [.bool], [], fun n x => spec_l9In n x.1 x.2.1⟩
theorem spec_l9In.seg_eq : SegEq ty gl spec_l9In.F spec_l9In.md spec_l9In.T spec_l9In.spec spec_l9In.lb spec_l9In.st spec_l9In.step := by
  intro n goto y; cases y <;> kernel_rfl
theorem spec_l9In.text : Text Go.Proofs.Tryz.prog spec_l9In.F spec_l9In.spec := textOf Go.Proofs.Tryz.f153
theorem spec_l9In.ok : CtrOK Go.Proofs.Tryz.prog gl spec_l9In.spec :=
  ctr_okS tabs spec_l9In.text spec_l9In.seg_eq (fun n x => ⟨.p0 x.1 x.2.1, rfl, rfl, rfl⟩) (nilC)

/-! loop.example/g00039/spec.InInterval -/
def spec_InInterval.T : List Ctr := [spec_l3Time.spec, spec_GoodInterval.spec, spec_DateOf.spec, spec_l19In.spec, spec_DayNumber.spec, spec_l9In.spec]
def spec_InInterval.md : List (Nat × List Md) := []
noncomputable def spec_InInterval.F : Fun := ⟨(Go.Proofs.Tryz.f108.body).getD .skip, [.v (.pair (.int .i64) (.pair (.sl false (.pair (.int .i64) (.pair (.int .i64) .unit))) (.pair (.sl false (.pair (.int .i64) (.pair (.int .i64) .unit))) (.pair (.sl false (.pair (.int .i64) (.pair (.int .i64) .unit))) (.pair (.sl false (.pair (.int .i64) (.pair (.int .i64) .unit))) (.pair (.sl false (.pair (.int .i64) (.pair (.int .i64) .unit))) (.pair (.sl false (.int .i64)) .unit))))))), .v (.int .i64)], [(.tmp 4, .bool)], [], 0, [(4, ⟨[1, 2, 14], [], [(2, 1, (.pair (.int .i64) (.pair (.int .i64) .unit))), (2, 2, (.pair (.int .i64) (.pair (.int .i64) .unit))), (2, 3, (.pair (.int .i64) (.pair (.int .i64) .unit))), (2, 4, (.pair (.int .i64) (.pair (.int .i64) .unit))), (2, 5, (.pair (.int .i64) (.pair (.int .i64) .unit))), (2, 6, (.int .i64))], false⟩), (21, ⟨[2, 5, 6], [], [(2, 1, (.pair (.int .i64) (.pair (.int .i64) .unit))), (2, 2, (.pair (.int .i64) (.pair (.int .i64) .unit))), (2, 3, (.pair (.int .i64) (.pair (.int .i64) .unit))), (2, 4, (.pair (.int .i64) (.pair (.int .i64) .unit))), (2, 5, (.pair (.int .i64) (.pair (.int .i64) .unit))), (2, 6, (.int .i64))], false⟩)]⟩
inductive spec_InInterval.Pt where
  | p0 (a0 : (Int) × ((List ((Int) × ((Int) × (Unit)))) × ((List ((Int) × ((Int) × (Unit)))) × ((List ((Int) × ((Int) × (Unit)))) × ((List ((Int) × ((Int) × (Unit)))) × ((List ((Int) × ((Int) × (Unit)))) × ((List (Int)) × (Unit)))))))) (a1 : Int)
  | p4 (y1 : Int) (y2 : Bool) (y3 : Int) (y4 : List ((Int) × ((Int) × (Unit)))) (y5 : List ((Int) × ((Int) × (Unit)))) (y6 : List ((Int) × ((Int) × (Unit)))) (y7 : List ((Int) × ((Int) × (Unit)))) (y8 : List ((Int) × ((Int) × (Unit)))) (y9 : List (Int))
  | p21 (y1 : Bool) (y2 : Int) (y3 : List ((Int) × ((Int) × (Unit)))) (y4 : List ((Int) × ((Int) × (Unit)))) (y5 : List ((Int) × ((Int) × (Unit)))) (y6 : List ((Int) × ((Int) × (Unit)))) (y7 : List ((Int) × ((Int) × (Unit)))) (y8 : List (Int)) (y9 : Int) (y10 : Int) (y11 : Int) (y12 : Int) (y13 : Int) (y14 : Int)
def spec_InInterval.lb : spec_InInterval.Pt → Nat
  | .p0 _ _ => 0
  | .p4 _ _ _ _ _ _ _ _ _ => 4
  | .p21 _ _ _ _ _ _ _ _ _ _ _ _ _ _ => 21
def spec_InInterval.st : spec_InInterval.Pt → St
  | .p0 a0 a1 => enter [.v (.pair (.int .i64) (.pair (.sl false (.pair (.int .i64) (.pair (.int .i64) .unit))) (.pair (.sl false (.pair (.int .i64) (.pair (.int .i64) .unit))) (.pair (.sl false (.pair (.int .i64) (.pair (.int .i64) .unit))) (.pair (.sl false (.pair (.int .i64) (.pair (.int .i64) .unit))) (.pair (.sl false (.pair (.int .i64) (.pair (.int .i64) .unit))) (.pair (.sl false (.int .i64)) .unit))))))) a0, .v (.int .i64) a1] 0
  | .p4 y1 y2 y3 y4 y5 y6 y7 y8 y9 => ⟨[(1, .im (.int .i64) y1), (2, .po 0 0), (14, .im .bool y2)], [(0, .obj [.im (.int .i64) y3, .im (.sl false (.pair (.int .i64) (.pair (.int .i64) .unit))) y4, .im (.sl false (.pair (.int .i64) (.pair (.int .i64) .unit))) y5, .im (.sl false (.pair (.int .i64) (.pair (.int .i64) .unit))) y6, .im (.sl false (.pair (.int .i64) (.pair (.int .i64) .unit))) y7, .im (.sl false (.pair (.int .i64) (.pair (.int .i64) .unit))) y8, .im (.sl false (.int .i64)) y9])], 1⟩
  | .p21 y1 y2 y3 y4 y5 y6 y7 y8 y9 y10 y11 y12 y13 y14 => ⟨[(2, .po 0 0), (5, .po 1 0), (6, .im .bool y1)], [(0, .obj [.im (.int .i64) y2, .im (.sl false (.pair (.int .i64) (.pair (.int .i64) .unit))) y3, .im (.sl false (.pair (.int .i64) (.pair (.int .i64) .unit))) y4, .im (.sl false (.pair (.int .i64) (.pair (.int .i64) .unit))) y5, .im (.sl false (.pair (.int .i64) (.pair (.int .i64) .unit))) y6, .im (.sl false (.pair (.int .i64) (.pair (.int .i64) .unit))) y7, .im (.sl false (.int .i64)) y8]), (1, .obj [.im (.int .i64) y9, .im (.int .i64) y10, .im (.int .i64) y11, .im (.int .i64) y12, .im (.int .i64) y13, .im (.int .i64) y14])], 2⟩
def spec_InInterval.step (n : Nat) (K : spec_InInterval.Pt → Option (Tup [.bool])) : spec_InInterval.Pt → Option (Tup [.bool])
  | .p0 a0 a1 => (spec_GoodInterval n a0).bind fun r5 => cond (!r5) (K (.p4 a1 true a0.1 a0.2.1 a0.2.2.1 a0.2.2.2.1 a0.2.2.2.2.1 a0.2.2.2.2.2.1 a0.2.2.2.2.2.2.1)) ((spec_l3Time n a1).bind fun r6 => K (.p4 a1 (!r6) a0.1 a0.2.1 a0.2.2.1 a0.2.2.2.1 a0.2.2.2.2.1 a0.2.2.2.2.2.1 a0.2.2.2.2.2.2.1))
  | .p4 y1 y2 y3 y4 y5 y6 y7 y8 y9 => cond y2 (some false) ((spec_DateOf n y1 y3).bind fun r12 => cond (decide (r12.1 = (0 : Int))) (some false) (cond (decide (((List.length y6) : Int) = (0 : Int))) (K (.p21 true y3 y4 y5 y6 y7 y8 y9 r12.1 r12.2.1 r12.2.2.1 r12.2.2.2.1 r12.2.2.2.2.1 r12.2.2.2.2.2.1)) ((spec_l19In n y6 r12.2.2.1).bind fun r13 => cond r13 (K (.p21 true y3 y4 y5 y6 y7 y8 y9 r12.1 r12.2.1 r12.2.2.1 r12.2.2.2.1 r12.2.2.2.2.1 r12.2.2.2.2.2.1)) ((spec_l19In n y6 (IntKind.wrap .i64 ((IntKind.wrap .i64 (r12.2.2.1 - r12.2.2.2.1)) - (1 : Int)))).bind fun r14 => K (.p21 r14 y3 y4 y5 y6 y7 y8 y9 r12.1 r12.2.1 r12.2.2.1 r12.2.2.2.1 r12.2.2.2.2.1 r12.2.2.2.2.2.1)))))
  | .p21 y1 y2 y3 y4 y5 y6 y7 y8 y9 y10 y11 y12 y13 y14 => cond y1 ((spec_l19In n y3 y14).bind fun r17 => cond r17 ((spec_l19In n y4 y13).bind fun r18 => cond r18 ((spec_l19In n y6 y10).bind fun r19 => cond r19 ((spec_l19In n y7 y9).bind fun r20 => cond r20 ((spec_DayNumber n y9 y10 y11).bind fun (r21 : Int) => (spec_l9In n y8 r21).bind fun r22 => some (!r22)) (some false)) (some false)) (some false)) (some false)) (some false)
def spec_InInterval (n : Nat) (a0 : (Int) × ((List ((Int) × ((Int) × (Unit)))) × ((List ((Int) × ((Int) × (Unit)))) × ((List ((Int) × ((Int) × (Unit)))) × ((List ((Int) × ((Int) × (Unit)))) × ((List ((Int) × ((Int) × (Unit)))) × ((List (Int)) × (Unit)))))))) (a1 : Int) : Option (Tup [.bool]) := goRec spec_InInterval.step n (.p0 a0 a1)
def spec_InInterval.spec : Ctr := ⟨108, [.v (.pair (.int .i64) (.pair (.sl false (.pair (.int .i64) (.pair (.int .i64) .unit))) (.pair (.sl false (.pair (.int .i64) (.pair (.int .i64) .unit))) (.pair (.sl false (.pair (.int .i64) (.pair (.int .i64) .unit))) (.pair (.sl false (.pair (.int .i64) (.pair (.int .i64) .unit))) (.pair (.sl false (.pair (.int .i64) (.pair (.int .i64) .unit))) (.pair (.sl false (.int .i64)) .unit))))))), .v (.int .i64)], [.bool], [], fun n x => spec_InInterval n x.1 x.2.1⟩
theorem spec_InInterval.seg_eq : SegEq ty gl spec_InInterval.F spec_InInterval.md spec_InInterval.T spec_InInterval.spec spec_InInterval.lb spec_InInterval.st spec_InInterval.step := by
  intro n goto y; cases y <;> kernel_rfl
theorem spec_InInterval.text : Text Go.Proofs.Tryz.prog spec_InInterval.F spec_InInterval.spec := textOf Go.Proofs.Tryz.f108
theorem spec_InInterval.ok : CtrOK Go.Proofs.Tryz.prog gl spec_InInterval.spec :=
  ctr_okS tabs spec_InInterval.text spec_InInterval.seg_eq (fun n x => ⟨.p0 x.1 x.2.1, rfl, rfl, rfl⟩) (consC spec_l3Time.ok (consC spec_GoodInterval.ok (consC spec_DateOf.ok (consC spec_l19In.ok (consC spec_DayNumber.ok (consC spec_l9In.ok (nilC)))))))

/-! loop.example/g00039/spec.l21Muted -/
def spec_l21Muted.T : List Ctr := [spec_InInterval.spec]
def spec_l21Muted.md : List (Nat × List Md) := []
noncomputable def spec_l21Muted.F : Fun := ⟨(Go.Proofs.Tryz.f60.body).getD .skip, [.v (.pair (.sl false (.pair .str (.pair (.sl false (.pair .str (.pair (.int .i64) (.pair .str .unit)))) (.pair (.sl false .str) (.pair (.int .i64) (.pair (.int .i64) (.pair (.int .i64) (.pair (.sl false (.int .i64)) (.pair .bool (.pair (.int .i64) .unit)))))))))) (.pair (.sl false (.pair (.int .i64) (.pair (.sl false (.pair (.int .i64) (.pair (.int .i64) .unit))) (.pair (.sl false (.pair (.int .i64) (.pair (.int .i64) .unit))) (.pair (.sl false (.pair (.int .i64) (.pair (.int .i64) .unit))) (.pair (.sl false (.pair (.int .i64) (.pair (.int .i64) .unit))) (.pair (.sl false (.pair (.int .i64) (.pair (.int .i64) .unit))) (.pair (.sl false (.int .i64)) .unit)))))))) (.pair (.sl false (.pair .str (.pair (.sl false (.pair .str (.pair (.int .i64) (.pair .str .unit)))) (.pair (.int .i64) (.pair (.int .i64) .unit))))) (.pair (.sl false (.pair (.sl false (.pair .str (.pair (.int .i64) (.pair .str .unit)))) (.pair (.sl false (.pair .str (.pair (.int .i64) (.pair .str .unit)))) (.pair (.sl false .str) .unit)))) .unit)))), .v (.int .i64), .v (.int .i64)], [(.tmp 6, .bool)], [], 0, [(7, ⟨[2, 3, 14, 15, 16], [(14, (.int .i64))], [(3, 0, (.pair .str (.pair (.sl false (.pair .str (.pair (.int .i64) (.pair .str .unit)))) (.pair (.sl false .str) (.pair (.int .i64) (.pair (.int .i64) (.pair (.int .i64) (.pair (.sl false (.int .i64)) (.pair .bool (.pair (.int .i64) .unit)))))))))), (3, 1, (.pair (.int .i64) (.pair (.sl false (.pair (.int .i64) (.pair (.int .i64) .unit))) (.pair (.sl false (.pair (.int .i64) (.pair (.int .i64) .unit))) (.pair (.sl false (.pair (.int .i64) (.pair (.int .i64) .unit))) (.pair (.sl false (.pair (.int .i64) (.pair (.int .i64) .unit))) (.pair (.sl false (.pair (.int .i64) (.pair (.int .i64) .unit))) (.pair (.sl false (.int .i64)) .unit)))))))), (3, 2, (.pair .str (.pair (.sl false (.pair .str (.pair (.int .i64) (.pair .str .unit)))) (.pair (.int .i64) (.pair (.int .i64) .unit))))), (3, 3, (.pair (.sl false (.pair .str (.pair (.int .i64) (.pair .str .unit)))) (.pair (.sl false (.pair .str (.pair (.int .i64) (.pair .str .unit)))) (.pair (.sl false .str) .unit))))], false⟩)]⟩
inductive spec_l21Muted.Pt where
  | p0 (a0 : (List ((ByteArray) × ((List ((ByteArray) × ((Int) × ((ByteArray) × (Unit))))) × ((List (ByteArray)) × ((Int) × ((Int) × ((Int) × ((List (Int)) × ((Bool) × ((Int) × (Unit))))))))))) × ((List ((Int) × ((List ((Int) × ((Int) × (Unit)))) × ((List ((Int) × ((Int) × (Unit)))) × ((List ((Int) × ((Int) × (Unit)))) × ((List ((Int) × ((Int) × (Unit)))) × ((List ((Int) × ((Int) × (Unit)))) × ((List (Int)) × (Unit))))))))) × ((List ((ByteArray) × ((List ((ByteArray) × ((Int) × ((ByteArray) × (Unit))))) × ((Int) × ((Int) × (Unit)))))) × ((List ((List ((ByteArray) × ((Int) × ((ByteArray) × (Unit))))) × ((List ((ByteArray) × ((Int) × ((ByteArray) × (Unit))))) × ((List (ByteArray)) × (Unit))))) × (Unit))))) (a1 : Int) (a2 : Int)
  | p7 (y1 : Int) (y2 : List (Int)) (y3 : Int) (y4 : Int) (y5 : List ((ByteArray) × ((List ((ByteArray) × ((Int) × ((ByteArray) × (Unit))))) × ((List (ByteArray)) × ((Int) × ((Int) × ((Int) × ((List (Int)) × ((Bool) × ((Int) × (Unit))))))))))) (y6 : List ((Int) × ((List ((Int) × ((Int) × (Unit)))) × ((List ((Int) × ((Int) × (Unit)))) × ((List ((Int) × ((Int) × (Unit)))) × ((List ((Int) × ((Int) × (Unit)))) × ((List ((Int) × ((Int) × (Unit)))) × ((List (Int)) × (Unit))))))))) (y7 : List ((ByteArray) × ((List ((ByteArray) × ((Int) × ((ByteArray) × (Unit))))) × ((Int) × ((Int) × (Unit)))))) (y8 : List ((List ((ByteArray) × ((Int) × ((ByteArray) × (Unit))))) × ((List ((ByteArray) × ((Int) × ((ByteArray) × (Unit))))) × ((List (ByteArray)) × (Unit)))))
def spec_l21Muted.lb : spec_l21Muted.Pt → Nat
  | .p0 _ _ _ => 0
  | .p7 _ _ _ _ _ _ _ _ => 7
def spec_l21Muted.st : spec_l21Muted.Pt → St
  | .p0 a0 a1 a2 => enter [.v (.pair (.sl false (.pair .str (.pair (.sl false (.pair .str (.pair (.int .i64) (.pair .str .unit)))) (.pair (.sl false .str) (.pair (.int .i64) (.pair (.int .i64) (.pair (.int .i64) (.pair (.sl false (.int .i64)) (.pair .bool (.pair (.int .i64) .unit)))))))))) (.pair (.sl false (.pair (.int .i64) (.pair (.sl false (.pair (.int .i64) (.pair (.int .i64) .unit))) (.pair (.sl false (.pair (.int .i64) (.pair (.int .i64) .unit))) (.pair (.sl false (.pair (.int .i64) (.pair (.int .i64) .unit))) (.pair (.sl false (.pair (.int .i64) (.pair (.int .i64) .unit))) (.pair (.sl false (.pair (.int .i64) (.pair (.int .i64) .unit))) (.pair (.sl false (.int .i64)) .unit)))))))) (.pair (.sl false (.pair .str (.pair (.sl false (.pair .str (.pair (.int .i64) (.pair .str .unit)))) (.pair (.int .i64) (.pair (.int .i64) .unit))))) (.pair (.sl false (.pair (.sl false (.pair .str (.pair (.int .i64) (.pair .str .unit)))) (.pair (.sl false (.pair .str (.pair (.int .i64) (.pair .str .unit)))) (.pair (.sl false .str) .unit)))) .unit)))) a0, .v (.int .i64) a1, .v (.int .i64) a2] 0
  | .p7 y1 y2 y3 y4 y5 y6 y7 y8 => ⟨[(2, .im (.int .i64) y1), (3, .po 0 0), (14, .im (.sl false (.int .i64)) y2), (15, .im (.int .i64) y3), (16, .im (.int .i64) y4)], [(0, .obj [.im (.sl false (.pair .str (.pair (.sl false (.pair .str (.pair (.int .i64) (.pair .str .unit)))) (.pair (.sl false .str) (.pair (.int .i64) (.pair (.int .i64) (.pair (.int .i64) (.pair (.sl false (.int .i64)) (.pair .bool (.pair (.int .i64) .unit)))))))))) y5, .im (.sl false (.pair (.int .i64) (.pair (.sl false (.pair (.int .i64) (.pair (.int .i64) .unit))) (.pair (.sl false (.pair (.int .i64) (.pair (.int .i64) .unit))) (.pair (.sl false (.pair (.int .i64) (.pair (.int .i64) .unit))) (.pair (.sl false (.pair (.int .i64) (.pair (.int .i64) .unit))) (.pair (.sl false (.pair (.int .i64) (.pair (.int .i64) .unit))) (.pair (.sl false (.int .i64)) .unit)))))))) y6, .im (.sl false (.pair .str (.pair (.sl false (.pair .str (.pair (.int .i64) (.pair .str .unit)))) (.pair (.int .i64) (.pair (.int .i64) .unit))))) y7, .im (.sl false (.pair (.sl false (.pair .str (.pair (.int .i64) (.pair .str .unit)))) (.pair (.sl false (.pair .str (.pair (.int .i64) (.pair .str .unit)))) (.pair (.sl false .str) .unit)))) y8])], 1⟩
def spec_l21Muted.step (n : Nat) (K : spec_l21Muted.Pt → Option (Tup [.bool])) : spec_l21Muted.Pt → Option (Tup [.bool])
  | .p0 a0 a1 a2 => cond (inB a1 (List.length a0.1)) (K (.p7 a2 (List.getD a0.1 (Int.toNat a1) default).2.2.2.2.2.2.1 ((List.length (List.getD a0.1 (Int.toNat a1) default).2.2.2.2.2.2.1) : Int) (0 : Int) a0.1 a0.2.1 a0.2.2.1 a0.2.2.2.1)) (none)
  | .p7 y1 y2 y3 y4 y5 y6 y7 y8 => cond (decide (y4 < y3)) (cond (inB y4 (List.length y2)) (cond (inB (List.getD y2 (Int.toNat y4) default) (List.length y6)) ((spec_InInterval n (List.getD y6 (Int.toNat (List.getD y2 (Int.toNat y4) default)) default) y1).bind fun r11 => cond r11 (some true) (K (.p7 y1 y2 y3 (IntKind.wrap .i64 (y4 + (1 : Int))) y5 y6 y7 y8))) (none)) (none)) (some false)
def spec_l21Muted (n : Nat) (a0 : (List ((ByteArray) × ((List ((ByteArray) × ((Int) × ((ByteArray) × (Unit))))) × ((List (ByteArray)) × ((Int) × ((Int) × ((Int) × ((List (Int)) × ((Bool) × ((Int) × (Unit))))))))))) × ((List ((Int) × ((List ((Int) × ((Int) × (Unit)))) × ((List ((Int) × ((Int) × (Unit)))) × ((List ((Int) × ((Int) × (Unit)))) × ((List ((Int) × ((Int) × (Unit)))) × ((List ((Int) × ((Int) × (Unit)))) × ((List (Int)) × (Unit))))))))) × ((List ((ByteArray) × ((List ((ByteArray) × ((Int) × ((ByteArray) × (Unit))))) × ((Int) × ((Int) × (Unit)))))) × ((List ((List ((ByteArray) × ((Int) × ((ByteArray) × (Unit))))) × ((List ((ByteArray) × ((Int) × ((ByteArray) × (Unit))))) × ((List (ByteArray)) × (Unit))))) × (Unit))))) (a1 : Int) (a2 : Int) : Option (Tup [.bool]) := goRec spec_l21Muted.step n (.p0 a0 a1 a2)
def spec_l21Muted.spec : Ctr := ⟨60, [.v (.pair (.sl false (.pair .str (.pair (.sl false (.pair .str (.pair (.int .i64) (.pair .str .unit)))) (.pair (.sl false .str) (.pair (.int .i64) (.pair (.int .i64) (.pair (.int .i64) (.pair (.sl false (.int .i64)) (.pair .bool (.pair (.int .i64) .unit)))))))))) (.pair (.sl false (.pair (.int .i64) (.pair (.sl false (.pair (.int .i64) (.pair (.int .i64) .unit))) (.pair (.sl false (.pair (.int .i64) (.pair (.int .i64) .unit))) (.pair (.sl false (.pair (.int .i64) (.pair (.int .i64) .unit))) (.pair (.sl false (.pair (.int .i64) (.pair (.int .i64) .unit))) (.pair (.sl false (.pair (.int .i64) (.pair (.int .i64) .unit))) (.pair (.sl false (.int .i64)) .unit)))))))) (.pair (.sl false (.pair .str (.pair (.sl false (.pair .str (.pair (.int .i64) (.pair .str .unit)))) (.pair (.int .i64) (.pair (.int .i64) .unit))))) (.pair (.sl false (.pair (.sl false (.pair .str (.pair (.int .i64) (.pair .str .unit)))) (.pair (.sl false (.pair .str (.pair (.int .i64) (.pair .str .unit)))) (.pair (.sl false .str) .unit)))) .unit)))), .v (.int .i64), .v (.int .i64)], [.bool], [], fun n x => spec_l21Muted n x.1 x.2.1 x.2.2.1⟩
theorem spec_l21Muted.seg_eq : SegEq ty gl spec_l21Muted.F spec_l21Muted.md spec_l21Muted.T spec_l21Muted.spec spec_l21Muted.lb spec_l21Muted.st spec_l21Muted.step := by
  intro n goto y; cases y <;> kernel_rfl
theorem spec_l21Muted.text : Text Go.Proofs.Tryz.prog spec_l21Muted.F spec_l21Muted.spec := textOf Go.Proofs.Tryz.f60
theorem spec_l21Muted.ok : CtrOK Go.Proofs.Tryz.prog gl spec_l21Muted.spec :=
  ctr_okS tabs spec_l21Muted.text spec_l21Muted.seg_eq (fun n x => ⟨.p0 x.1 x.2.1 x.2.2.1, rfl, rfl, rfl⟩) (consC spec_InInterval.ok (nilC))

/-! loop.example/g00039/spec.MutedAt -/
def spec_MutedAt.T : List Ctr := [spec_l3Time.spec, spec_GoodNotify.spec, spec_l21Muted.spec]
def spec_MutedAt.md : List (Nat × List Md) := []
noncomputable def spec_MutedAt.F : Fun := ⟨(Go.Proofs.Tryz.f17.body).getD .skip, [.v (.pair (.sl false (.pair .str (.pair (.sl false (.pair .str (.pair (.int .i64) (.pair .str .unit)))) (.pair (.sl false .str) (.pair (.int .i64) (.pair (.int .i64) (.pair (.int .i64) (.pair (.sl false (.int .i64)) (.pair .bool (.pair (.int .i64) .unit)))))))))) (.pair (.sl false (.pair (.int .i64) (.pair (.sl false (.pair (.int .i64) (.pair (.int .i64) .unit))) (.pair (.sl false (.pair (.int .i64) (.pair (.int .i64) .unit))) (.pair (.sl false (.pair (.int .i64) (.pair (.int .i64) .unit))) (.pair (.sl false (.pair (.int .i64) (.pair (.int .i64) .unit))) (.pair (.sl false (.pair (.int .i64) (.pair (.int .i64) .unit))) (.pair (.sl false (.int .i64)) .unit)))))))) (.pair (.sl false (.pair .str (.pair (.sl false (.pair .str (.pair (.int .i64) (.pair .str .unit)))) (.pair (.int .i64) (.pair (.int .i64) .unit))))) (.pair (.sl false (.pair (.sl false (.pair .str (.pair (.int .i64) (.pair .str .unit)))) (.pair (.sl false (.pair .str (.pair (.int .i64) (.pair .str .unit)))) (.pair (.sl false .str) .unit)))) .unit)))), .v (.int .i64), .v (.int .i64)], [(.tmp 6, .bool)], [], 0, []⟩
inductive spec_MutedAt.Pt where
  | p0 (a0 : (List ((ByteArray) × ((List ((ByteArray) × ((Int) × ((ByteArray) × (Unit))))) × ((List (ByteArray)) × ((Int) × ((Int) × ((Int) × ((List (Int)) × ((Bool) × ((Int) × (Unit))))))))))) × ((List ((Int) × ((List ((Int) × ((Int) × (Unit)))) × ((List ((Int) × ((Int) × (Unit)))) × ((List ((Int) × ((Int) × (Unit)))) × ((List ((Int) × ((Int) × (Unit)))) × ((List ((Int) × ((Int) × (Unit)))) × ((List (Int)) × (Unit))))))))) × ((List ((ByteArray) × ((List ((ByteArray) × ((Int) × ((ByteArray) × (Unit))))) × ((Int) × ((Int) × (Unit)))))) × ((List ((List ((ByteArray) × ((Int) × ((ByteArray) × (Unit))))) × ((List ((ByteArray) × ((Int) × ((ByteArray) × (Unit))))) × ((List (ByteArray)) × (Unit))))) × (Unit))))) (a1 : Int) (a2 : Int)
def spec_MutedAt.lb : spec_MutedAt.Pt → Nat
  | .p0 _ _ _ => 0
def spec_MutedAt.st : spec_MutedAt.Pt → St
  | .p0 a0 a1 a2 => enter [.v (.pair (.sl false (.pair .str (.pair (.sl false (.pair .str (.pair (.int .i64) (.pair .str .unit)))) (.pair (.sl false .str) (.pair (.int .i64) (.pair (.int .i64) (.pair (.int .i64) (.pair (.sl false (.int .i64)) (.pair .bool (.pair (.int .i64) .unit)))))))))) (.pair (.sl false (.pair (.int .i64) (.pair (.sl false (.pair (.int .i64) (.pair (.int .i64) .unit))) (.pair (.sl false (.pair (.int .i64) (.pair (.int .i64) .unit))) (.pair (.sl false (.pair (.int .i64) (.pair (.int .i64) .unit))) (.pair (.sl false (.pair (.int .i64) (.pair (.int .i64) .unit))) (.pair (.sl false (.pair (.int .i64) (.pair (.int .i64) .unit))) (.pair (.sl false (.int .i64)) .unit)))))))) (.pair (.sl false (.pair .str (.pair (.sl false (.pair .str (.pair (.int .i64) (.pair .str .unit)))) (.pair (.int .i64) (.pair (.int .i64) .unit))))) (.pair (.sl false (.pair (.sl false (.pair .str (.pair (.int .i64) (.pair .str .unit)))) (.pair (.sl false (.pair .str (.pair (.int .i64) (.pair .str .unit)))) (.pair (.sl false .str) .unit)))) .unit)))) a0, .v (.int .i64) a1, .v (.int .i64) a2] 0
def spec_MutedAt.step (n : Nat) (K : spec_MutedAt.Pt → Option (Tup [.bool])) : spec_MutedAt.Pt → Option (Tup [.bool])
  | .p0 a0 a1 a2 => (spec_GoodNotify n a0).bind fun r6 => cond r6 (cond (decide ((0 : Int) ≤ a1)) (cond (decide (a1 < ((List.length a0.1) : Int))) ((spec_l3Time n a2).bind fun r7 => cond r7 ((spec_l21Muted n a0 a1 a2).bind fun r8 => some r8) (some false)) (some false)) (some false)) (some false)
def spec_MutedAt (n : Nat) (a0 : (List ((ByteArray) × ((List ((ByteArray) × ((Int) × ((ByteArray) × (Unit))))) × ((List (ByteArray)) × ((Int) × ((Int) × ((Int) × ((List (Int)) × ((Bool) × ((Int) × (Unit))))))))))) × ((List ((Int) × ((List ((Int) × ((Int) × (Unit)))) × ((List ((Int) × ((Int) × (Unit)))) × ((List ((Int) × ((Int) × (Unit)))) × ((List ((Int) × ((Int) × (Unit)))) × ((List ((Int) × ((Int) × (Unit)))) × ((List (Int)) × (Unit))))))))) × ((List ((ByteArray) × ((List ((ByteArray) × ((Int) × ((ByteArray) × (Unit))))) × ((Int) × ((Int) × (Unit)))))) × ((List ((List ((ByteArray) × ((Int) × ((ByteArray) × (Unit))))) × ((List ((ByteArray) × ((Int) × ((ByteArray) × (Unit))))) × ((List (ByteArray)) × (Unit))))) × (Unit))))) (a1 : Int) (a2 : Int) : Option (Tup [.bool]) := goRec spec_MutedAt.step n (.p0 a0 a1 a2)
def spec_MutedAt.spec : Ctr := ⟨17, [.v (.pair (.sl false (.pair .str (.pair (.sl false (.pair .str (.pair (.int .i64) (.pair .str .unit)))) (.pair (.sl false .str) (.pair (.int .i64) (.pair (.int .i64) (.pair (.int .i64) (.pair (.sl false (.int .i64)) (.pair .bool (.pair (.int .i64) .unit)))))))))) (.pair (.sl false (.pair (.int .i64) (.pair (.sl false (.pair (.int .i64) (.pair (.int .i64) .unit))) (.pair (.sl false (.pair (.int .i64) (.pair (.int .i64) .unit))) (.pair (.sl false (.pair (.int .i64) (.pair (.int .i64) .unit))) (.pair (.sl false (.pair (.int .i64) (.pair (.int .i64) .unit))) (.pair (.sl false (.pair (.int .i64) (.pair (.int .i64) .unit))) (.pair (.sl false (.int .i64)) .unit)))))))) (.pair (.sl false (.pair .str (.pair (.sl false (.pair .str (.pair (.int .i64) (.pair .str .unit)))) (.pair (.int .i64) (.pair (.int .i64) .unit))))) (.pair (.sl false (.pair (.sl false (.pair .str (.pair (.int .i64) (.pair .str .unit)))) (.pair (.sl false (.pair .str (.pair (.int .i64) (.pair .str .unit)))) (.pair (.sl false .str) .unit)))) .unit)))), .v (.int .i64), .v (.int .i64)], [.bool], [], fun n x => spec_MutedAt n x.1 x.2.1 x.2.2.1⟩
theorem spec_MutedAt.seg_eq : SegEq ty gl spec_MutedAt.F spec_MutedAt.md spec_MutedAt.T spec_MutedAt.spec spec_MutedAt.lb spec_MutedAt.st spec_MutedAt.step := by
  intro n goto y; cases y <;> kernel_rfl
theorem spec_MutedAt.text : Text Go.Proofs.Tryz.prog spec_MutedAt.F spec_MutedAt.spec := textOf Go.Proofs.Tryz.f17
theorem spec_MutedAt.ok : CtrOK Go.Proofs.Tryz.prog gl spec_MutedAt.spec :=
  ctr_okS tabs spec_MutedAt.text spec_MutedAt.seg_eq (fun n x => ⟨.p0 x.1 x.2.1 x.2.2.1, rfl, rfl, rfl⟩) (consC spec_l3Time.ok (consC spec_GoodNotify.ok (consC spec_l21Muted.ok (nilC))))

/-! loop.example/g00039/impl.depths$1 -/
def impl_depths_1.T : List Ctr := []
def impl_depths_1.md : List (Nat × List Md) := [(137, [.v, .p (.sl true (.int .i64)), .q (.sl false (.pair .str (.pair (.sl false (.pair .str (.pair (.int .i64) (.pair .str .unit)))) (.pair (.sl false .str) (.pair (.int .i64) (.pair (.int .i64) (.pair (.int .i64) (.pair (.sl false (.int .i64)) (.pair .bool (.pair (.int .i64) .unit)))))))))), .me 137 1]), (1000137, [.p (.sl true (.int .i64)), .q (.sl false (.pair .str (.pair (.sl false (.pair .str (.pair (.int .i64) (.pair .str .unit)))) (.pair (.sl false .str) (.pair (.int .i64) (.pair (.int .i64) (.pair (.int .i64) (.pair (.sl false (.int .i64)) (.pair .bool (.pair (.int .i64) .unit)))))))))), .me 137 1])]
noncomputable def impl_depths_1.F : Fun := ⟨(Go.Proofs.Tryz.f137.body).getD .skip, [.v (.int .i64), .p (.sl true (.int .i64)), .q (.sl false (.pair .str (.pair (.sl false (.pair .str (.pair (.int .i64) (.pair .str .unit)))) (.pair (.sl false .str) (.pair (.int .i64) (.pair (.int .i64) (.pair (.int .i64) (.pair (.sl false (.int .i64)) (.pair .bool (.pair (.int .i64) .unit)))))))))), .me 137 1], [(.tmp 5, .bool)], [some (.sl true (.int .i64))], 1, [(4, ⟨[0, 1, 2, 3, 15], [], [], false⟩), (16, ⟨[0, 3, 6, 31], [], [], false⟩), (27, ⟨[0, 3, 32, 33], [], [], false⟩)]⟩
inductive impl_depths_1.Pt where
  | p0 (a0 : Int) (a1 : List (Int)) (a2 : List ((ByteArray) × ((List ((ByteArray) × ((Int) × ((ByteArray) × (Unit))))) × ((List (ByteArray)) × ((Int) × ((Int) × ((Int) × ((List (Int)) × ((Bool) × ((Int) × (Unit))))))))))) (a3 : Unit)
  | p4 (y1 : Int) (y2 : Bool) (y3 : List ((ByteArray) × ((List ((ByteArray) × ((Int) × ((ByteArray) × (Unit))))) × ((List (ByteArray)) × ((Int) × ((Int) × ((Int) × ((List (Int)) × ((Bool) × ((Int) × (Unit))))))))))) (y4 : List (Int))
  | p16 (y1 : Int) (y2 : Int) (y3 : Bool) (y4 : List ((ByteArray) × ((List ((ByteArray) × ((Int) × ((ByteArray) × (Unit))))) × ((List (ByteArray)) × ((Int) × ((Int) × ((Int) × ((List (Int)) × ((Bool) × ((Int) × (Unit))))))))))) (y5 : List (Int))
  | p27 (y1 : Int) (y2 : Int) (y3 : Int) (y4 : List ((ByteArray) × ((List ((ByteArray) × ((Int) × ((ByteArray) × (Unit))))) × ((List (ByteArray)) × ((Int) × ((Int) × ((Int) × ((List (Int)) × ((Bool) × ((Int) × (Unit))))))))))) (y5 : List (Int))
def impl_depths_1.lb : impl_depths_1.Pt → Nat
  | .p0 _ _ _ _ => 0
  | .p4 _ _ _ _ => 4
  | .p16 _ _ _ _ _ => 16
  | .p27 _ _ _ _ _ => 27
def impl_depths_1.st : impl_depths_1.Pt → St
  | .p0 a0 a1 a2 a3 => enter [.v (.int .i64) a0, .p (.sl true (.int .i64)) a1, .q (.sl false (.pair .str (.pair (.sl false (.pair .str (.pair (.int .i64) (.pair .str .unit)))) (.pair (.sl false .str) (.pair (.int .i64) (.pair (.int .i64) (.pair (.int .i64) (.pair (.sl false (.int .i64)) (.pair .bool (.pair (.int .i64) .unit)))))))))) a2, .me 137 1] 1
  | .p4 y1 y2 y3 y4 => ⟨[(0, .im (.int .i64) y1), (1, .po 0 0), (2, .po 1 0), (3, .px 137 [.po 0 0, .po 1 0] 2), (15, .im .bool y2)], [(0, .obj [.hs 2 [] none 0]), (1, .imm (.sl false (.pair .str (.pair (.sl false (.pair .str (.pair (.int .i64) (.pair .str .unit)))) (.pair (.sl false .str) (.pair (.int .i64) (.pair (.int .i64) (.pair (.int .i64) (.pair (.sl false (.int .i64)) (.pair .bool (.pair (.int .i64) .unit)))))))))) y3), (2, .arr true (.int .i64) y4 0)], 3⟩
  | .p16 y1 y2 y3 y4 y5 => ⟨[(0, .im (.int .i64) y1), (3, .px 137 [.po 0 0, .po 1 0] 2), (6, .im (.int .i64) y2), (31, .im .bool y3)], [(0, .obj [.hs 2 [] none 0]), (1, .imm (.sl false (.pair .str (.pair (.sl false (.pair .str (.pair (.int .i64) (.pair .str .unit)))) (.pair (.sl false .str) (.pair (.int .i64) (.pair (.int .i64) (.pair (.int .i64) (.pair (.sl false (.int .i64)) (.pair .bool (.pair (.int .i64) .unit)))))))))) y4), (2, .arr true (.int .i64) y5 0)], 3⟩
  | .p27 y1 y2 y3 y4 y5 => ⟨[(0, .im (.int .i64) y1), (3, .px 137 [.po 0 0, .po 1 0] 2), (32, .im (.int .i64) y2), (33, .im (.int .i64) y3)], [(0, .obj [.hs 2 [] none 0]), (1, .imm (.sl false (.pair .str (.pair (.sl false (.pair .str (.pair (.int .i64) (.pair .str .unit)))) (.pair (.sl false .str) (.pair (.int .i64) (.pair (.int .i64) (.pair (.int .i64) (.pair (.sl false (.int .i64)) (.pair .bool (.pair (.int .i64) .unit)))))))))) y4), (2, .arr true (.int .i64) y5 0)], 3⟩
def impl_depths_1.step (n : Nat) (self : Ty.Els [.v (.int .i64), .p (.sl true (.int .i64)), .q (.sl false (.pair .str (.pair (.sl false (.pair .str (.pair (.int .i64) (.pair .str .unit)))) (.pair (.sl false .str) (.pair (.int .i64) (.pair (.int .i64) (.pair (.int .i64) (.pair (.sl false (.int .i64)) (.pair .bool (.pair (.int .i64) .unit)))))))))), .me 137 1] → Option (Tup [.bool, (.sl true (.int .i64))])) (K : impl_depths_1.Pt → Option (Tup [.bool, (.sl true (.int .i64))])) : impl_depths_1.Pt → Option (Tup [.bool, (.sl true (.int .i64))])
  | .p0 a0 a1 a2 a3 => cond (decide (((List.length a1) : Int) = ((List.length a2) : Int))) (K (.p4 a0 true a2 a1)) (K (.p4 a0 (decide ((8 : Int) ≤ a0)) a2 a1))
  | .p4 y1 y2 y3 y4 => cond y2 (some (false, y4)) (cond (inB ((List.length y4) : Int) (List.length y3)) (cond (room ((List.length y4) + (List.length [y1]))) (cond (decide ((List.getD y3 (Int.toNat ((List.length y4) : Int)) default).2.2.2.2.2.2.2.2.1 < (0 : Int))) (K (.p16 y1 (List.getD y3 (Int.toNat ((List.length y4) : Int)) default).2.2.2.2.2.2.2.2.1 true y3 (y4 ++ [y1]))) (K (.p16 y1 (List.getD y3 (Int.toNat ((List.length y4) : Int)) default).2.2.2.2.2.2.2.2.1 (decide ((40 : Int) < (List.getD y3 (Int.toNat ((List.length y4) : Int)) default).2.2.2.2.2.2.2.2.1)) y3 (y4 ++ [y1])))) (none)) (none))
  | .p16 y1 y2 y3 y4 y5 => cond y3 (some (false, y5)) (K (.p27 y1 y2 (0 : Int) y4 y5))
  | .p27 y1 y2 y3 y4 y5 => cond (decide (y3 < y2)) ((self ((IntKind.wrap .i64 (y1 + (1 : Int))), y5, (List.getD [y4] 0 default), (), ())).bind fun r8 => cond (!r8.1) (some (false, r8.2)) (K (.p27 y1 y2 (IntKind.wrap .i64 (y3 + (1 : Int))) y4 r8.2))) (some (true, y5))
def impl_depths_1 (n : Nat) (a0 : Int) (a1 : List (Int)) (a2 : List ((ByteArray) × ((List ((ByteArray) × ((Int) × ((ByteArray) × (Unit))))) × ((List (ByteArray)) × ((Int) × ((Int) × ((Int) × ((List (Int)) × ((Bool) × ((Int) × (Unit))))))))))) (a3 : Unit) : Option (Tup [.bool, (.sl true (.int .i64))]) := goRec (fun n K => impl_depths_1.step n (fun x => K (.p0 x.1 x.2.1 x.2.2.1 x.2.2.2.1)) K) n (.p0 a0 a1 a2 a3)
def impl_depths_1.spec : Ctr := ⟨137, [.v (.int .i64), .p (.sl true (.int .i64)), .q (.sl false (.pair .str (.pair (.sl false (.pair .str (.pair (.int .i64) (.pair .str .unit)))) (.pair (.sl false .str) (.pair (.int .i64) (.pair (.int .i64) (.pair (.int .i64) (.pair (.sl false (.int .i64)) (.pair .bool (.pair (.int .i64) .unit)))))))))), .me 137 1], [.bool], [(.sl true (.int .i64))], fun n x => impl_depths_1 n x.1 x.2.1 x.2.2.1 x.2.2.2.1⟩
theorem impl_depths_1.seg_eq (n : Nat) (φ : Ty.Els [.v (.int .i64), .p (.sl true (.int .i64)), .q (.sl false (.pair .str (.pair (.sl false (.pair .str (.pair (.int .i64) (.pair .str .unit)))) (.pair (.sl false .str) (.pair (.int .i64) (.pair (.int .i64) (.pair (.int .i64) (.pair (.sl false (.int .i64)) (.pair .bool (.pair (.int .i64) .unit)))))))))), .me 137 1] → Option (Tup [.bool, (.sl true (.int .i64))])) (goto : Nat → St → Option (Tup [.bool, (.sl true (.int .i64))])) (y : impl_depths_1.Pt) : seg ⟨ty, gl, impl_depths_1.md, calOf (impl_depths_1.spec.at φ :: impl_depths_1.T) n⟩ impl_depths_1.F.np impl_depths_1.F.ks goto (impl_depths_1.F.fin ⟨ty, gl, impl_depths_1.md, calOf impl_depths_1.T 0⟩ [.bool, (.sl true (.int .i64))]) impl_depths_1.F.c (impl_depths_1.lb y) (impl_depths_1.st y) = impl_depths_1.step n φ (fun z => goto (impl_depths_1.lb z) (impl_depths_1.st z)) y := by
  cases y <;> kernel_rfl
theorem impl_depths_1.text : Text Go.Proofs.Tryz.prog impl_depths_1.F impl_depths_1.spec := textOf Go.Proofs.Tryz.f137
theorem impl_depths_1.ok : CtrOK Go.Proofs.Tryz.prog gl impl_depths_1.spec :=
  ctr_rec (T := impl_depths_1.T) (F := impl_depths_1.F) (lb := impl_depths_1.lb) (st := impl_depths_1.st) (ent := fun x => .p0 x.1 x.2.1 x.2.2.1 x.2.2.2.1) (stp := impl_depths_1.step) (md := impl_depths_1.md) tabs impl_depths_1.text impl_depths_1.seg_eq (fun _ => ⟨rfl, rfl⟩) (fun _ _ => rfl) (nilC)

/-! loop.example/g00039/impl.depths -/
def impl_depths.T : List Ctr := [impl_depths_1.spec]
def impl_depths.md : List (Nat × List Md) := [(137, [.v, .p (.sl true (.int .i64)), .q (.sl false (.pair .str (.pair (.sl false (.pair .str (.pair (.int .i64) (.pair .str .unit)))) (.pair (.sl false .str) (.pair (.int .i64) (.pair (.int .i64) (.pair (.int .i64) (.pair (.sl false (.int .i64)) (.pair .bool (.pair (.int .i64) .unit)))))))))), .me 137 1]), (1000137, [.p (.sl true (.int .i64)), .q (.sl false (.pair .str (.pair (.sl false (.pair .str (.pair (.int .i64) (.pair .str .unit)))) (.pair (.sl false .str) (.pair (.int .i64) (.pair (.int .i64) (.pair (.int .i64) (.pair (.sl false (.int .i64)) (.pair .bool (.pair (.int .i64) .unit)))))))))), .me 137 1])]
noncomputable def impl_depths.F : Fun := ⟨(Go.Proofs.Tryz.f89.body).getD .skip, [.v (.sl false (.pair .str (.pair (.sl false (.pair .str (.pair (.int .i64) (.pair .str .unit)))) (.pair (.sl false .str) (.pair (.int .i64) (.pair (.int .i64) (.pair (.int .i64) (.pair (.sl false (.int .i64)) (.pair .bool (.pair (.int .i64) .unit))))))))))], [(.tmp 2, (.sl true (.int .i64)))], [], 0, [(4, ⟨[1, 12], [], [(1, 0, (.pair .str (.pair (.sl false (.pair .str (.pair (.int .i64) (.pair .str .unit)))) (.pair (.sl false .str) (.pair (.int .i64) (.pair (.int .i64) (.pair (.int .i64) (.pair (.sl false (.int .i64)) (.pair .bool (.pair (.int .i64) .unit))))))))))], false⟩)]⟩
inductive impl_depths.Pt where
  | p0 (a0 : List ((ByteArray) × ((List ((ByteArray) × ((Int) × ((ByteArray) × (Unit))))) × ((List (ByteArray)) × ((Int) × ((Int) × ((Int) × ((List (Int)) × ((Bool) × ((Int) × (Unit)))))))))))
  | p4 (y1 : Bool) (y2 : List ((ByteArray) × ((List ((ByteArray) × ((Int) × ((ByteArray) × (Unit))))) × ((List (ByteArray)) × ((Int) × ((Int) × ((Int) × ((List (Int)) × ((Bool) × ((Int) × (Unit)))))))))))
def impl_depths.lb : impl_depths.Pt → Nat
  | .p0 _ => 0
  | .p4 _ _ => 4
def impl_depths.st : impl_depths.Pt → St
  | .p0 a0 => enter [.v (.sl false (.pair .str (.pair (.sl false (.pair .str (.pair (.int .i64) (.pair .str .unit)))) (.pair (.sl false .str) (.pair (.int .i64) (.pair (.int .i64) (.pair (.int .i64) (.pair (.sl false (.int .i64)) (.pair .bool (.pair (.int .i64) .unit)))))))))) a0] 0
  | .p4 y1 y2 => ⟨[(1, .po 0 0), (12, .im .bool y1)], [(0, .obj [.im (.sl false (.pair .str (.pair (.sl false (.pair .str (.pair (.int .i64) (.pair .str .unit)))) (.pair (.sl false .str) (.pair (.int .i64) (.pair (.int .i64) (.pair (.int .i64) (.pair (.sl false (.int .i64)) (.pair .bool (.pair (.int .i64) .unit)))))))))) y2])], 1⟩
def impl_depths.step (n : Nat) (K : impl_depths.Pt → Option (Tup [(.sl true (.int .i64))])) : impl_depths.Pt → Option (Tup [(.sl true (.int .i64))])
  | .p0 a0 => cond (decide (((List.length a0) : Int) = (0 : Int))) (K (.p4 true a0)) (K (.p4 (decide ((40 : Int) < ((List.length a0) : Int))) a0))
  | .p4 y1 y2 => cond y1 (some ([] : List (Int))) ((impl_depths_1 n (0 : Int) ([] : List (Int)) y2 ()).bind fun r5 => cond (!r5.1) (some ([] : List (Int))) (cond (!(decide (((List.length r5.2) : Int) = ((List.length y2) : Int)))) (some ([] : List (Int))) (some r5.2)))
def impl_depths (n : Nat) (a0 : List ((ByteArray) × ((List ((ByteArray) × ((Int) × ((ByteArray) × (Unit))))) × ((List (ByteArray)) × ((Int) × ((Int) × ((Int) × ((List (Int)) × ((Bool) × ((Int) × (Unit))))))))))) : Option (Tup [(.sl true (.int .i64))]) := goRec impl_depths.step n (.p0 a0)
def impl_depths.spec : Ctr := ⟨89, [.v (.sl false (.pair .str (.pair (.sl false (.pair .str (.pair (.int .i64) (.pair .str .unit)))) (.pair (.sl false .str) (.pair (.int .i64) (.pair (.int .i64) (.pair (.int .i64) (.pair (.sl false (.int .i64)) (.pair .bool (.pair (.int .i64) .unit))))))))))], [(.sl true (.int .i64))], [], fun n x => impl_depths n x.1⟩
theorem impl_depths.seg_eq : SegEq ty gl impl_depths.F impl_depths.md impl_depths.T impl_depths.spec impl_depths.lb impl_depths.st impl_depths.step := by
  intro n goto y; cases y <;> kernel_rfl
theorem impl_depths.text : Text Go.Proofs.Tryz.prog impl_depths.F impl_depths.spec := textOf Go.Proofs.Tryz.f89
theorem impl_depths.ok : CtrOK Go.Proofs.Tryz.prog gl impl_depths.spec :=
  ctr_okS tabs impl_depths.text impl_depths.seg_eq (fun n x => ⟨.p0 x.1, rfl, rfl, rfl⟩) (consC impl_depths_1.ok (nilC))

/-! loop.example/g00039/impl.digitByte -/
def impl_digitByte.T : List Ctr := []
def impl_digitByte.md : List (Nat × List Md) := []
noncomputable def impl_digitByte.F : Fun := ⟨(Go.Proofs.Tryz.f138.body).getD .skip, [.v (.int .u8)], [(.tmp 2, .bool)], [], 0, []⟩
inductive impl_digitByte.Pt where
  | p0 (a0 : Int)
def impl_digitByte.lb : impl_digitByte.Pt → Nat
  | .p0 _ => 0
def impl_digitByte.st : impl_digitByte.Pt → St
  | .p0 a0 => enter [.v (.int .u8) a0] 0
def impl_digitByte.step (n : Nat) (K : impl_digitByte.Pt → Option (Tup [.bool])) : impl_digitByte.Pt → Option (Tup [.bool])
  | .p0 a0 => cond (decide ((48 : Int) ≤ a0)) (some (decide (a0 ≤ (57 : Int)))) (some false)
def impl_digitByte (n : Nat) (a0 : Int) : Option (Tup [.bool]) := goRec impl_digitByte.step n (.p0 a0)
def impl_digitByte.spec : Ctr := ⟨138, [.v (.int .u8)], [.bool], [], fun n x => impl_digitByte n x.1⟩
theorem impl_digitByte.seg_eq : SegEq ty gl impl_digitByte.F impl_digitByte.md impl_digitByte.T impl_digitByte.spec impl_digitByte.lb impl_digitByte.st impl_digitByte.step := by
  intro n goto y; cases y <;> kernel_rfl
theorem impl_digitByte.text : Text Go.Proofs.Tryz.prog impl_digitByte.F impl_digitByte.spec := textOf Go.Proofs.Tryz.f138
theorem impl_digitByte.ok : CtrOK Go.Proofs.Tryz.prog gl impl_digitByte.spec :=
  ctr_okS tabs impl_digitByte.text impl_digitByte.seg_eq (fun n x => ⟨.p0 x.1, rfl, rfl, rfl⟩) (nilC)

/-! loop.example/g00039/impl.letterByte -/
def impl_letterByte.T : List Ctr := []
def impl_letterByte.md : List (Nat × List Md) := []
noncomputable def impl_letterByte.F : Fun := ⟨(Go.Proofs.Tryz.f180.body).getD .skip, [.v (.int .u8)], [(.tmp 2, .bool)], [], 0, []⟩
inductive impl_letterByte.Pt where
  | p0 (a0 : Int)
def impl_letterByte.lb : impl_letterByte.Pt → Nat
  | .p0 _ => 0
def impl_letterByte.st : impl_letterByte.Pt → St
  | .p0 a0 => enter [.v (.int .u8) a0] 0
def impl_letterByte.step (n : Nat) (K : impl_letterByte.Pt → Option (Tup [.bool])) : impl_letterByte.Pt → Option (Tup [.bool])
  | .p0 a0 => cond (decide ((97 : Int) ≤ a0)) (cond (decide (a0 ≤ (122 : Int))) (some true) (cond (decide ((65 : Int) ≤ a0)) (some (decide (a0 ≤ (90 : Int)))) (some false))) (cond (decide ((65 : Int) ≤ a0)) (some (decide (a0 ≤ (90 : Int)))) (some false))
def impl_letterByte (n : Nat) (a0 : Int) : Option (Tup [.bool]) := goRec impl_letterByte.step n (.p0 a0)
def impl_letterByte.spec : Ctr := ⟨180, [.v (.int .u8)], [.bool], [], fun n x => impl_letterByte n x.1⟩
theorem impl_letterByte.seg_eq : SegEq ty gl impl_letterByte.F impl_letterByte.md impl_letterByte.T impl_letterByte.spec impl_letterByte.lb impl_letterByte.st impl_letterByte.step := by
  intro n goto y; cases y <;> kernel_rfl
theorem impl_letterByte.text : Text Go.Proofs.Tryz.prog impl_letterByte.F impl_letterByte.spec := textOf Go.Proofs.Tryz.f180
theorem impl_letterByte.ok : CtrOK Go.Proofs.Tryz.prog gl impl_letterByte.spec :=
  ctr_okS tabs impl_letterByte.text impl_letterByte.seg_eq (fun n x => ⟨.p0 x.1, rfl, rfl, rfl⟩) (nilC)

/-! loop.example/g00039/impl.wordByte -/
def impl_wordByte.T : List Ctr := [impl_digitByte.spec, impl_letterByte.spec]
def impl_wordByte.md : List (Nat × List Md) := []
noncomputable def impl_wordByte.F : Fun := ⟨(Go.Proofs.Tryz.f139.body).getD .skip, [.v (.int .u8)], [(.tmp 2, .bool)], [], 0, []⟩
inductive impl_wordByte.Pt where
  | p0 (a0 : Int)
def impl_wordByte.lb : impl_wordByte.Pt → Nat
  | .p0 _ => 0
def impl_wordByte.st : impl_wordByte.Pt → St
  | .p0 a0 => enter [.v (.int .u8) a0] 0
def impl_wordByte.step (n : Nat) (K : impl_wordByte.Pt → Option (Tup [.bool])) : impl_wordByte.Pt → Option (Tup [.bool])
  | .p0 a0 => (impl_letterByte n a0).bind fun r4 => cond r4 (some true) ((impl_digitByte n a0).bind fun r5 => cond r5 (some true) (some (decide (a0 = (95 : Int)))))
def impl_wordByte (n : Nat) (a0 : Int) : Option (Tup [.bool]) := goRec impl_wordByte.step n (.p0 a0)
def impl_wordByte.spec : Ctr := ⟨139, [.v (.int .u8)], [.bool], [], fun n x => impl_wordByte n x.1⟩
theorem impl_wordByte.seg_eq : SegEq ty gl impl_wordByte.F impl_wordByte.md impl_wordByte.T impl_wordByte.spec impl_wordByte.lb impl_wordByte.st impl_wordByte.step := by
  intro n goto y; cases y <;> kernel_rfl
theorem impl_wordByte.text : Text Go.Proofs.Tryz.prog impl_wordByte.F impl_wordByte.spec := textOf Go.Proofs.Tryz.f139
theorem impl_wordByte.ok : CtrOK Go.Proofs.Tryz.prog gl impl_wordByte.spec :=
  ctr_okS tabs impl_wordByte.text impl_wordByte.seg_eq (fun n x => ⟨.p0 x.1, rfl, rfl, rfl⟩) (consC impl_digitByte.ok (consC impl_letterByte.ok (nilC)))

/-! loop.example/g00039/impl.isName -/
def impl_isName.T : List Ctr := [impl_digitByte.spec, impl_wordByte.spec]
def impl_isName.md : List (Nat × List Md) := []
noncomputable def impl_isName.F : Fun := ⟨(Go.Proofs.Tryz.f92.body).getD .skip, [.v .str], [(.tmp 2, .bool)], [], 0, [(4, ⟨[0, 15], [], [], false⟩), (15, ⟨[0, 17, 18], [], [], false⟩)]⟩
inductive impl_isName.Pt where
  | p0 (a0 : ByteArray)
  | p4 (y1 : ByteArray) (y2 : Bool)
  | p15 (y1 : ByteArray) (y2 : Int) (y3 : Int)
def impl_isName.lb : impl_isName.Pt → Nat
  | .p0 _ => 0
  | .p4 _ _ => 4
  | .p15 _ _ _ => 15
def impl_isName.st : impl_isName.Pt → St
  | .p0 a0 => enter [.v .str a0] 0
  | .p4 y1 y2 => ⟨[(0, .im .str y1), (15, .im .bool y2)], [], 0⟩
  | .p15 y1 y2 y3 => ⟨[(0, .im .str y1), (17, .im (.int .i64) y2), (18, .im (.int .i64) y3)], [], 0⟩
def impl_isName.step (n : Nat) (K : impl_isName.Pt → Option (Tup [.bool])) : impl_isName.Pt → Option (Tup [.bool])
  | .p0 a0 => cond (seq a0 (⟨#[]⟩ : ByteArray)) (K (.p4 a0 true)) (cond (decide ((40 : Int) < ((ByteArray.size a0) : Int))) (K (.p4 a0 true)) (cond (inB (0 : Int) (ByteArray.size a0)) ((impl_digitByte n (bt a0 (0 : Int))).bind fun r4 => K (.p4 a0 r4)) (none)))
  | .p4 y1 y2 => cond y2 (some false) (K (.p15 y1 ((ByteArray.size y1) : Int) (0 : Int)))
  | .p15 y1 y2 y3 => cond (decide (y3 < y2)) (cond (inB y3 (ByteArray.size y1)) ((impl_wordByte n (bt y1 y3)).bind fun r6 => cond (!r6) (some false) (K (.p15 y1 y2 (IntKind.wrap .i64 (y3 + (1 : Int)))))) (none)) (some true)
def impl_isName (n : Nat) (a0 : ByteArray) : Option (Tup [.bool]) := goRec impl_isName.step n (.p0 a0)
def impl_isName.spec : Ctr := ⟨92, [.v .str], [.bool], [], fun n x => impl_isName n x.1⟩
theorem impl_isName.seg_eq : SegEq ty gl impl_isName.F impl_isName.md impl_isName.T impl_isName.spec impl_isName.lb impl_isName.st impl_isName.step := by
  intro n goto y; cases y <;> kernel_rfl
theorem impl_isName.text : Text Go.Proofs.Tryz.prog impl_isName.F impl_isName.spec := textOf Go.Proofs.Tryz.f92
theorem impl_isName.ok : CtrOK Go.Proofs.Tryz.prog gl impl_isName.spec :=
  ctr_okS tabs impl_isName.text impl_isName.seg_eq (fun n x => ⟨.p0 x.1, rfl, rfl, rfl⟩) (consC impl_digitByte.ok (consC impl_wordByte.ok (nilC)))

/-! loop.example/g00039/impl.printed -/
def impl_printed.T : List Ctr := []
def impl_printed.md : List (Nat × List Md) := []
noncomputable def impl_printed.F : Fun := ⟨(Go.Proofs.Tryz.f164.body).getD .skip, [.v .str, .v (.int .i64)], [(.tmp 4, .bool)], [], 0, [(15, ⟨[0, 11, 12], [], [], false⟩)]⟩
inductive impl_printed.Pt where
  | p0 (a0 : ByteArray) (a1 : Int)
  | p15 (y1 : ByteArray) (y2 : Int) (y3 : Int)
def impl_printed.lb : impl_printed.Pt → Nat
  | .p0 _ _ => 0
  | .p15 _ _ _ => 15
def impl_printed.st : impl_printed.Pt → St
  | .p0 a0 a1 => enter [.v .str a0, .v (.int .i64) a1] 0
  | .p15 y1 y2 y3 => ⟨[(0, .im .str y1), (11, .im (.int .i64) y2), (12, .im (.int .i64) y3)], [], 0⟩
def impl_printed.step (n : Nat) (K : impl_printed.Pt → Option (Tup [.bool])) : impl_printed.Pt → Option (Tup [.bool])
  | .p0 a0 a1 => cond (decide (a1 < ((ByteArray.size a0) : Int))) (some false) (K (.p15 a0 ((ByteArray.size a0) : Int) (0 : Int)))
  | .p15 y1 y2 y3 => cond (decide (y3 < y2)) (cond (inB y3 (ByteArray.size y1)) (cond (decide ((bt y1 y3) < (32 : Int))) (some false) (cond (inB y3 (ByteArray.size y1)) (cond (decide ((126 : Int) < (bt y1 y3))) (some false) (K (.p15 y1 y2 (IntKind.wrap .i64 (y3 + (1 : Int)))))) (none))) (none)) (some true)
def impl_printed (n : Nat) (a0 : ByteArray) (a1 : Int) : Option (Tup [.bool]) := goRec impl_printed.step n (.p0 a0 a1)
def impl_printed.spec : Ctr := ⟨164, [.v .str, .v (.int .i64)], [.bool], [], fun n x => impl_printed n x.1 x.2.1⟩
theorem impl_printed.seg_eq : SegEq ty gl impl_printed.F impl_printed.md impl_printed.T impl_printed.spec impl_printed.lb impl_printed.st impl_printed.step := by
  intro n goto y; cases y <;> kernel_rfl
theorem impl_printed.text : Text Go.Proofs.Tryz.prog impl_printed.F impl_printed.spec := textOf Go.Proofs.Tryz.f164
theorem impl_printed.ok : CtrOK Go.Proofs.Tryz.prog gl impl_printed.spec :=
  ctr_okS tabs impl_printed.text impl_printed.seg_eq (fun n x => ⟨.p0 x.1 x.2.1, rfl, rfl, rfl⟩) (nilC)

end Go.NU
