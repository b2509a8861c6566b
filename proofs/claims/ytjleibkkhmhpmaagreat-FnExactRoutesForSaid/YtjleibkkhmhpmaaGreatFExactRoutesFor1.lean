/- The functions that the law reaches, each as a Lean function and with its contract, part 1. -/
import Derived.Test.YtjleibkkhmhpmaaGreatV1
import Derived.Test.YtjleibkkhmhpmaaGreatV2
import Derived.Test.YtjleibkkhmhpmaaGreatV3
import Derived.Lib.Bytealg
import Derived.Shelf.Lays
import Derived.Shelf.Small.Strs
import Derived.Shelf.Sort.Plain
import Derived.Shelf.Slices.In.SortNone
import Derived.Sort.OwnSortedInts
import Derived.Test.YtjleibkkhmhpmaaGreatProg
open Go Go.VM
namespace Go.RF
set_option maxRecDepth 100000
set_option linter.unusedVariables false
set_option linter.unusedSimpArgs false
def ty : List (Nat × U) := [(1, .oth), (2, (.int .i64)), (3, (.int .i64)), (4, .bool), (5, (.int .u8)), (6, (.int .u8)), (7, (.pair (.int .i64) (.pair (.int .i64) (.pair .bool (.pair (.int .u8) .unit))))), (8, (.pair (.int .i64) (.pair (.int .i64) (.pair .bool (.pair (.int .u8) .unit))))), (9, .str), (10, .str), (11, .str), (12, (.int .u64)), (13, (.pair .str (.pair (.int .u64) .unit))), (14, (.pair .str (.pair (.int .u64) .unit))), (15, .oth), (16, .oth), (17, .oth), (18, (.pair .oth .unit)), (19, (.pair .oth .unit)), (20, .oth), (21, (.int .i32)), (22, (.sl false (.pair .str (.pair (.sl false (.pair .str (.pair (.int .i64) (.pair .str .unit)))) (.pair (.sl false .str) (.pair (.int .i64) (.pair (.int .i64) (.pair (.int .i64) (.pair (.sl false (.int .i64)) (.pair .bool (.pair (.int .i64) .unit))))))))))), (23, (.sl false (.pair (.int .i64) (.pair (.sl false (.pair (.int .i64) (.pair (.int .i64) .unit))) (.pair (.sl false (.pair (.int .i64) (.pair (.int .i64) .unit))) (.pair (.sl false (.pair (.int .i64) (.pair (.int .i64) .unit))) (.pair (.sl false (.pair (.int .i64) (.pair (.int .i64) .unit))) (.pair (.sl false (.pair (.int .i64) (.pair (.int .i64) .unit))) (.pair (.sl false (.int .i64)) .unit))))))))), (24, (.sl false (.pair .str (.pair (.sl false (.pair .str (.pair (.int .i64) (.pair .str .unit)))) (.pair (.int .i64) (.pair (.int .i64) .unit)))))), (25, (.sl false (.pair (.sl false (.pair .str (.pair (.int .i64) (.pair .str .unit)))) (.pair (.sl false (.pair .str (.pair (.int .i64) (.pair .str .unit)))) (.pair (.sl false .str) .unit))))), (26, (.pair (.sl false (.pair .str (.pair (.sl false (.pair .str (.pair (.int .i64) (.pair .str .unit)))) (.pair (.sl false .str) (.pair (.int .i64) (.pair (.int .i64) (.pair (.int .i64) (.pair (.sl false (.int .i64)) (.pair .bool (.pair (.int .i64) .unit)))))))))) (.pair (.sl false (.pair (.int .i64) (.pair (.sl false (.pair (.int .i64) (.pair (.int .i64) .unit))) (.pair (.sl false (.pair (.int .i64) (.pair (.int .i64) .unit))) (.pair (.sl false (.pair (.int .i64) (.pair (.int .i64) .unit))) (.pair (.sl false (.pair (.int .i64) (.pair (.int .i64) .unit))) (.pair (.sl false (.pair (.int .i64) (.pair (.int .i64) .unit))) (.pair (.sl false (.int .i64)) .unit)))))))) (.pair (.sl false (.pair .str (.pair (.sl false (.pair .str (.pair (.int .i64) (.pair .str .unit)))) (.pair (.int .i64) (.pair (.int .i64) .unit))))) (.pair (.sl false (.pair (.sl false (.pair .str (.pair (.int .i64) (.pair .str .unit)))) (.pair (.sl false (.pair .str (.pair (.int .i64) (.pair .str .unit)))) (.pair (.sl false .str) .unit)))) .unit))))), (27, (.pair (.sl false (.pair .str (.pair (.sl false (.pair .str (.pair (.int .i64) (.pair .str .unit)))) (.pair (.sl false .str) (.pair (.int .i64) (.pair (.int .i64) (.pair (.int .i64) (.pair (.sl false (.int .i64)) (.pair .bool (.pair (.int .i64) .unit)))))))))) (.pair (.sl false (.pair (.int .i64) (.pair (.sl false (.pair (.int .i64) (.pair (.int .i64) .unit))) (.pair (.sl false (.pair (.int .i64) (.pair (.int .i64) .unit))) (.pair (.sl false (.pair (.int .i64) (.pair (.int .i64) .unit))) (.pair (.sl false (.pair (.int .i64) (.pair (.int .i64) .unit))) (.pair (.sl false (.pair (.int .i64) (.pair (.int .i64) .unit))) (.pair (.sl false (.int .i64)) .unit)))))))) (.pair (.sl false (.pair .str (.pair (.sl false (.pair .str (.pair (.int .i64) (.pair .str .unit)))) (.pair (.int .i64) (.pair (.int .i64) .unit))))) (.pair (.sl false (.pair (.sl false (.pair .str (.pair (.int .i64) (.pair .str .unit)))) (.pair (.sl false (.pair .str (.pair (.int .i64) (.pair .str .unit)))) (.pair (.sl false .str) .unit)))) .unit))))), (28, .oth), (29, .oth), (30, (.sl false (.pair .str (.pair (.sl false (.pair .str (.pair (.int .i64) (.pair .str .unit)))) (.pair (.sl false .str) (.pair (.int .i64) (.pair (.int .i64) (.pair (.int .i64) (.pair (.sl false (.int .i64)) (.pair .bool (.pair (.int .i64) .unit))))))))))), (31, (.sl false (.pair (.int .i64) (.pair (.sl false (.pair (.int .i64) (.pair (.int .i64) .unit))) (.pair (.sl false (.pair (.int .i64) (.pair (.int .i64) .unit))) (.pair (.sl false (.pair (.int .i64) (.pair (.int .i64) .unit))) (.pair (.sl false (.pair (.int .i64) (.pair (.int .i64) .unit))) (.pair (.sl false (.pair (.int .i64) (.pair (.int .i64) .unit))) (.pair (.sl false (.int .i64)) .unit))))))))), (32, (.sl false (.pair .str (.pair (.sl false (.pair .str (.pair (.int .i64) (.pair .str .unit)))) (.pair (.int .i64) (.pair (.int .i64) .unit)))))), (33, (.sl false (.pair (.sl false (.pair .str (.pair (.int .i64) (.pair .str .unit)))) (.pair (.sl false (.pair .str (.pair (.int .i64) (.pair .str .unit)))) (.pair (.sl false .str) .unit))))), (34, (.pair (.sl false (.pair .str (.pair (.sl false (.pair .str (.pair (.int .i64) (.pair .str .unit)))) (.pair (.sl false .str) (.pair (.int .i64) (.pair (.int .i64) (.pair (.int .i64) (.pair (.sl false (.int .i64)) (.pair .bool (.pair (.int .i64) .unit)))))))))) (.pair (.sl false (.pair (.int .i64) (.pair (.sl false (.pair (.int .i64) (.pair (.int .i64) .unit))) (.pair (.sl false (.pair (.int .i64) (.pair (.int .i64) .unit))) (.pair (.sl false (.pair (.int .i64) (.pair (.int .i64) .unit))) (.pair (.sl false (.pair (.int .i64) (.pair (.int .i64) .unit))) (.pair (.sl false (.pair (.int .i64) (.pair (.int .i64) .unit))) (.pair (.sl false (.int .i64)) .unit)))))))) (.pair (.sl false (.pair .str (.pair (.sl false (.pair .str (.pair (.int .i64) (.pair .str .unit)))) (.pair (.int .i64) (.pair (.int .i64) .unit))))) (.pair (.sl false (.pair (.sl false (.pair .str (.pair (.int .i64) (.pair .str .unit)))) (.pair (.sl false (.pair .str (.pair (.int .i64) (.pair .str .unit)))) (.pair (.sl false .str) .unit)))) .unit))))), (35, (.pair (.sl false (.pair .str (.pair (.sl false (.pair .str (.pair (.int .i64) (.pair .str .unit)))) (.pair (.sl false .str) (.pair (.int .i64) (.pair (.int .i64) (.pair (.int .i64) (.pair (.sl false (.int .i64)) (.pair .bool (.pair (.int .i64) .unit)))))))))) (.pair (.sl false (.pair (.int .i64) (.pair (.sl false (.pair (.int .i64) (.pair (.int .i64) .unit))) (.pair (.sl false (.pair (.int .i64) (.pair (.int .i64) .unit))) (.pair (.sl false (.pair (.int .i64) (.pair (.int .i64) .unit))) (.pair (.sl false (.pair (.int .i64) (.pair (.int .i64) .unit))) (.pair (.sl false (.pair (.int .i64) (.pair (.int .i64) .unit))) (.pair (.sl false (.int .i64)) .unit)))))))) (.pair (.sl false (.pair .str (.pair (.sl false (.pair .str (.pair (.int .i64) (.pair .str .unit)))) (.pair (.int .i64) (.pair (.int .i64) .unit))))) (.pair (.sl false (.pair (.sl false (.pair .str (.pair (.int .i64) (.pair .str .unit)))) (.pair (.sl false (.pair .str (.pair (.int .i64) (.pair .str .unit)))) (.pair (.sl false .str) .unit)))) .unit))))), (36, .oth), (37, .oth), (38, .oth), (39, (.sl false (.pair (.int .i64) (.pair (.int .i64) (.pair (.int .i64) (.pair (.int .i64) .unit)))))), (40, (.pair (.int .i64) (.pair (.int .i64) (.pair (.sl false (.pair (.int .i64) (.pair (.int .i64) (.pair (.int .i64) (.pair (.int .i64) .unit))))) (.pair (.sl false (.pair (.int .i64) (.pair (.int .i64) (.pair (.int .i64) (.pair (.int .i64) .unit))))) .unit))))), (41, (.pair (.int .i64) (.pair (.int .i64) (.pair (.sl false (.pair (.int .i64) (.pair (.int .i64) (.pair (.int .i64) (.pair (.int .i64) .unit))))) (.pair (.sl false (.pair (.int .i64) (.pair (.int .i64) (.pair (.int .i64) (.pair (.int .i64) .unit))))) .unit))))), (42, .oth), (43, .oth), (44, (.sl false (.pair (.int .i64) (.pair (.int .i64) (.pair (.int .i64) (.pair (.int .i64) .unit)))))), (45, (.pair (.int .i64) (.pair (.int .i64) (.pair (.sl false (.pair (.int .i64) (.pair (.int .i64) (.pair (.int .i64) (.pair (.int .i64) .unit))))) (.pair (.sl false (.pair (.int .i64) (.pair (.int .i64) (.pair (.int .i64) (.pair (.int .i64) .unit))))) .unit))))), (46, (.pair (.int .i64) (.pair (.int .i64) (.pair (.sl false (.pair (.int .i64) (.pair (.int .i64) (.pair (.int .i64) (.pair (.int .i64) .unit))))) (.pair (.sl false (.pair (.int .i64) (.pair (.int .i64) (.pair (.int .i64) (.pair (.int .i64) .unit))))) .unit))))), (47, .oth), (48, .oth), (49, .oth), (50, .oth), (51, .oth), (52, (.sl false (.pair .str (.pair .str .unit)))), (53, .oth), (54, .oth), (55, (.sl false (.int .i64))), (56, .oth), (57, .oth), (58, (.sl false (.pair .str (.pair .str .unit)))), (59, .oth), (60, .oth), (61, .oth), (62, .oth), (63, .oth), (64, .oth), (65, .oth), (66, .oth), (67, .oth), (68, .oth), (69, .oth), (70, .oth), (71, .oth), (72, .oth), (73, (.sl false (.pair (.int .i64) (.pair (.int .i64) .unit)))), (74, (.pair (.int .i64) (.pair (.sl false (.pair (.int .i64) (.pair (.int .i64) .unit))) (.pair (.sl false (.pair (.int .i64) (.pair (.int .i64) .unit))) (.pair (.sl false (.pair (.int .i64) (.pair (.int .i64) .unit))) (.pair (.sl false (.pair (.int .i64) (.pair (.int .i64) .unit))) (.pair (.sl false (.pair (.int .i64) (.pair (.int .i64) .unit))) (.pair (.sl false (.int .i64)) .unit)))))))), (75, (.pair (.int .i64) (.pair (.sl false (.pair (.int .i64) (.pair (.int .i64) .unit))) (.pair (.sl false (.pair (.int .i64) (.pair (.int .i64) .unit))) (.pair (.sl false (.pair (.int .i64) (.pair (.int .i64) .unit))) (.pair (.sl false (.pair (.int .i64) (.pair (.int .i64) .unit))) (.pair (.sl false (.pair (.int .i64) (.pair (.int .i64) .unit))) (.pair (.sl false (.int .i64)) .unit)))))))), (76, .oth), (77, (.sl false (.pair .str (.pair (.int .i64) (.pair .str .unit))))), (78, (.sl false .str)), (79, (.pair .str (.pair (.sl false (.pair .str (.pair (.int .i64) (.pair .str .unit)))) (.pair (.sl false .str) (.pair (.int .i64) (.pair (.int .i64) (.pair (.int .i64) (.pair (.sl false (.int .i64)) (.pair .bool (.pair (.int .i64) .unit)))))))))), (80, (.pair .str (.pair (.sl false (.pair .str (.pair (.int .i64) (.pair .str .unit)))) (.pair (.sl false .str) (.pair (.int .i64) (.pair (.int .i64) (.pair (.int .i64) (.pair (.sl false (.int .i64)) (.pair .bool (.pair (.int .i64) .unit)))))))))), (81, .oth), (82, .oth), (83, .oth), (84, .oth), (85, .oth), (86, .oth), (87, .oth), (88, .oth), (89, .oth), (90, .oth), (91, .oth), (92, .oth), (93, .oth), (94, .oth), (95, .oth), (96, (.sl false (.pair .str (.pair (.int .i64) (.pair .str .unit))))), (97, (.pair .str (.pair (.sl false (.pair .str (.pair (.int .i64) (.pair .str .unit)))) (.pair (.sl false .str) (.pair (.int .i64) (.pair (.int .i64) (.pair (.int .i64) (.pair (.sl false (.int .i64)) (.pair .bool (.pair (.int .i64) .unit)))))))))), (98, (.pair .str (.pair (.sl false (.pair .str (.pair (.int .i64) (.pair .str .unit)))) (.pair (.sl false .str) (.pair (.int .i64) (.pair (.int .i64) (.pair (.int .i64) (.pair (.sl false (.int .i64)) (.pair .bool (.pair (.int .i64) .unit)))))))))), (99, .oth), (100, (.pair .str (.pair .str .unit))), (101, (.pair .str (.pair .str .unit))), (102, .oth), (103, .oth), (104, .oth), (105, (.pair .str (.pair .str .unit))), (106, .oth), (107, .oth), (108, .oth), (109, .oth), (110, .oth), (111, .oth), (112, .oth), (113, .oth), (114, (.sl false (.pair (.int .i64) (.pair (.int .i64) .unit)))), (115, (.pair (.int .i64) (.pair (.sl false (.pair (.int .i64) (.pair (.int .i64) .unit))) (.pair (.sl false (.pair (.int .i64) (.pair (.int .i64) .unit))) (.pair (.sl false (.pair (.int .i64) (.pair (.int .i64) .unit))) (.pair (.sl false (.pair (.int .i64) (.pair (.int .i64) .unit))) (.pair (.sl false (.pair (.int .i64) (.pair (.int .i64) .unit))) (.pair (.sl false (.int .i64)) .unit)))))))), (116, (.pair (.int .i64) (.pair (.sl false (.pair (.int .i64) (.pair (.int .i64) .unit))) (.pair (.sl false (.pair (.int .i64) (.pair (.int .i64) .unit))) (.pair (.sl false (.pair (.int .i64) (.pair (.int .i64) .unit))) (.pair (.sl false (.pair (.int .i64) (.pair (.int .i64) .unit))) (.pair (.sl false (.pair (.int .i64) (.pair (.int .i64) .unit))) (.pair (.sl false (.int .i64)) .unit)))))))), (117, .oth), (118, (.pair .str (.pair (.sl false (.pair .str (.pair (.int .i64) (.pair .str .unit)))) (.pair (.int .i64) (.pair (.int .i64) .unit))))), (119, (.pair .str (.pair (.sl false (.pair .str (.pair (.int .i64) (.pair .str .unit)))) (.pair (.int .i64) (.pair (.int .i64) .unit))))), (120, .oth), (121, (.pair (.sl false (.pair .str (.pair (.int .i64) (.pair .str .unit)))) (.pair (.sl false (.pair .str (.pair (.int .i64) (.pair .str .unit)))) (.pair (.sl false .str) .unit)))), (122, (.pair (.sl false (.pair .str (.pair (.int .i64) (.pair .str .unit)))) (.pair (.sl false (.pair .str (.pair (.int .i64) (.pair .str .unit)))) (.pair (.sl false .str) .unit)))), (123, .oth), (124, (.pair .str (.pair (.sl false (.pair .str (.pair (.int .i64) (.pair .str .unit)))) (.pair (.int .i64) (.pair (.int .i64) .unit))))), (125, (.pair .str (.pair (.sl false (.pair .str (.pair (.int .i64) (.pair .str .unit)))) (.pair (.int .i64) (.pair (.int .i64) .unit))))), (126, .oth), (127, .oth), (128, .oth), (129, (.pair (.sl false (.pair .str (.pair (.int .i64) (.pair .str .unit)))) (.pair (.sl false (.pair .str (.pair (.int .i64) (.pair .str .unit)))) (.pair (.sl false .str) .unit)))), (130, (.pair (.sl false (.pair .str (.pair (.int .i64) (.pair .str .unit)))) (.pair (.sl false (.pair .str (.pair (.int .i64) (.pair .str .unit)))) (.pair (.sl false .str) .unit)))), (131, .oth), (132, (.pair (.int .i64) (.pair (.int .i64) .unit))), (133, (.pair (.int .i64) (.pair (.int .i64) .unit))), (134, .oth), (135, .oth), (136, .oth), (137, .oth), (138, .oth), (139, .oth), (140, .oth), (141, .oth), (142, .oth), (143, .oth), (144, .oth), (145, .oth), (146, (.pair (.int .i64) (.pair (.int .i64) (.pair (.int .i64) (.pair (.int .i64) .unit))))), (147, (.pair (.int .i64) (.pair (.int .i64) (.pair (.int .i64) (.pair (.int .i64) .unit))))), (148, .oth), (149, (.pair (.int .i64) (.pair (.int .i64) (.pair (.int .i64) (.pair (.int .i64) .unit))))), (150, .oth), (151, .oth), (152, .oth), (153, .oth), (154, .oth), (155, .oth), (156, .oth), (157, .oth), (158, .oth), (159, .oth), (160, .oth), (161, .oth), (162, .oth), (163, .oth), (164, (.int .u64)), (165, .oth), (166, .oth), (167, (.sl false (.int .u8))), (168, (.pair .str (.pair (.int .i64) (.pair .str .unit)))), (169, (.pair .str (.pair (.int .i64) (.pair .str .unit)))), (170, .oth), (171, .oth), (172, .oth), (173, .oth), (174, .oth), (175, .oth), (176, .oth), (177, .oth), (178, .oth), (179, .oth), (180, .oth), (181, .oth), (182, (.pair (.int .i64) (.pair (.int .i64) (.pair (.int .i64) (.pair (.int .i64) (.pair (.int .i64) (.pair (.int .i64) .unit))))))), (183, (.pair (.int .i64) (.pair (.int .i64) (.pair (.int .i64) (.pair (.int .i64) (.pair (.int .i64) (.pair (.int .i64) .unit))))))), (184, .oth), (185, .oth), (186, .oth), (187, .oth), (188, .oth), (189, .oth), (190, .oth), (191, (.pair .str (.pair (.int .i64) (.pair .str .unit)))), (192, .oth), (193, .oth), (194, .oth), (195, .oth), (196, .oth), (197, .oth), (198, (.int .i64)), (200, .oth), (201, .oth), (202, .oth), (203, .oth), (205, .oth), (206, .oth), (207, (.int .u32)), (208, .oth), (209, (.int .u64)), (210, .oth), (211, (.sl false (.sl false (.int .i64)))), (213, .oth), (214, .oth), (215, (.pair (.int .i64) (.pair (.int .i64) .unit))), (216, .oth), (217, .oth), (218, .oth), (219, .oth), (220, .oth), (221, .oth), (222, (.int .u64)), (223, .oth), (224, .oth), (225, .oth), (226, .oth), (227, .oth), (228, (.sl false (.sl false (.pair (.int .u8) (.pair .bool (.pair .bool .unit)))))), (230, .oth), (231, (.ar 13 (.int .i64))), (232, (.sl false .bool)), (233, .oth), (235, .oth), (236, .oth), (238, .oth), (239, (.pair (.int .u8) (.pair .bool (.pair .bool .unit)))), (240, (.pair (.int .u8) (.pair .bool (.pair .bool .unit)))), (241, (.sl false (.pair (.int .u8) (.pair .bool (.pair .bool .unit))))), (242, .oth), (243, .oth), (244, .oth), (245, (.sl false (.sl false .bool))), (246, .oth), (247, (.pair .oth (.pair .oth (.pair .oth (.pair .str .unit))))), (248, (.pair .oth (.pair .oth (.pair .oth (.pair .str .unit))))), (249, (.ar 0 .oth)), (252, .oth), (253, (.int .u8)), (254, (.int .u8)), (255, .oth), (256, .oth), (257, (.int .i32)), (258, (.int .i32)), (259, (.pair (.int .u64) (.pair (.int .u64) (.pair (.int .u32) (.pair (.int .u8) (.pair (.int .u8) (.pair (.int .u8) (.pair (.int .u8) (.pair .oth (.pair .oth (.pair (.int .i32) (.pair (.int .i32) .unit)))))))))))), (260, (.pair (.int .u64) (.pair (.int .u64) (.pair (.int .u32) (.pair (.int .u8) (.pair (.int .u8) (.pair (.int .u8) (.pair (.int .u8) (.pair .oth (.pair .oth (.pair (.int .i32) (.pair (.int .i32) .unit)))))))))))), (261, .oth)]
def gl : List (Nat × TV) := []
theorem tabs : Tabs Go.Proofs.Tryz.prog ty gl := tabs_of (by kernel_rfl) (by kernel_rfl)
/-! loop.example/g00039/laws.szMatcher -/
def laws_szMatcher.T : List Ctr := []
def laws_szMatcher.md : List (Nat × List Md) := []
noncomputable def laws_szMatcher.F : Fun := ⟨(Go.Proofs.Tryz.f160.body).getD .skip, [.v (.pair .str (.pair (.int .i64) (.pair .str .unit))), .v (.int .i64)], [(.tmp 4, (.int .i64))], [], 0, []⟩
inductive laws_szMatcher.Pt where
  | p0 (a0 : (ByteArray) × ((Int) × ((ByteArray) × (Unit)))) (a1 : Int)
def laws_szMatcher.lb : laws_szMatcher.Pt → Nat
  | .p0 _ _ => 0
def laws_szMatcher.st : laws_szMatcher.Pt → St
  | .p0 a0 a1 => enter [.v (.pair .str (.pair (.int .i64) (.pair .str .unit))) a0, .v (.int .i64) a1] 0
def laws_szMatcher.step (n : Nat) (K : laws_szMatcher.Pt → Option (Tup [(.int .i64)])) : laws_szMatcher.Pt → Option (Tup [(.int .i64)])
  | .p0 a0 a1 => cond (decide ((IntKind.wrap .i64 (a1 - ((ByteArray.size a0.1) : Int))) < (0 : Int))) (some (-(1 : Int))) (cond (decide ((IntKind.wrap .i64 ((IntKind.wrap .i64 (a1 - ((ByteArray.size a0.1) : Int))) - ((ByteArray.size a0.2.2.1) : Int))) < (0 : Int))) (some (-(1 : Int))) (some (IntKind.wrap .i64 ((IntKind.wrap .i64 (a1 - ((ByteArray.size a0.1) : Int))) - ((ByteArray.size a0.2.2.1) : Int)))))
def laws_szMatcher (n : Nat) (a0 : (ByteArray) × ((Int) × ((ByteArray) × (Unit)))) (a1 : Int) : Option (Tup [(.int .i64)]) := goRec laws_szMatcher.step n (.p0 a0 a1)
def laws_szMatcher.spec : Ctr := ⟨160, [.v (.pair .str (.pair (.int .i64) (.pair .str .unit))), .v (.int .i64)], [(.int .i64)], [], fun n x => laws_szMatcher n x.1 x.2.1⟩
theorem laws_szMatcher.seg_eq (n : Nat) (goto : Nat → St → Option (Tup [(.int .i64)])) (y : laws_szMatcher.Pt) : seg ⟨ty, gl, laws_szMatcher.md, calOf laws_szMatcher.T n⟩ laws_szMatcher.F.np laws_szMatcher.F.ks goto (laws_szMatcher.F.fin ⟨ty, gl, laws_szMatcher.md, calOf laws_szMatcher.T 0⟩ [(.int .i64)]) laws_szMatcher.F.c (laws_szMatcher.lb y) (laws_szMatcher.st y) = laws_szMatcher.step n (fun z => goto (laws_szMatcher.lb z) (laws_szMatcher.st z)) y := by
  cases y <;> kernel_rfl
theorem laws_szMatcher.text : Text Go.Proofs.Tryz.prog laws_szMatcher.F laws_szMatcher.spec := ⟨⟨Go.Proofs.Tryz.f160, by kernel_rfl, by kernel_rfl, by decide +kernel, by kernel_rfl, by kernel_rfl, of_decide_eq_true (by kernel_rfl)⟩, fun _ => rfl, fun _ => rfl, rfl⟩
theorem laws_szMatcher.ok : CtrOK Go.Proofs.Tryz.prog gl laws_szMatcher.spec :=
  ctr_ok (T := laws_szMatcher.T) (F := laws_szMatcher.F) (lb := laws_szMatcher.lb) (st := laws_szMatcher.st) (step := laws_szMatcher.step) (md := laws_szMatcher.md) tabs laws_szMatcher.text laws_szMatcher.seg_eq (fun n x => ⟨.p0 x.1 x.2.1, rfl, rfl, rfl⟩) (nilC)

/-! loop.example/g00039/laws.szMatcherS -/
def laws_szMatcherS.T : List Ctr := [laws_szMatcher.spec]
def laws_szMatcherS.md : List (Nat × List Md) := []
noncomputable def laws_szMatcherS.F : Fun := ⟨(Go.Proofs.Tryz.f112.body).getD .skip, [.v (.sl false (.pair .str (.pair (.int .i64) (.pair .str .unit)))), .v (.int .i64)], [(.tmp 4, (.int .i64))], [], 0, [(17, ⟨[0, 1, 5], [], [], false⟩)]⟩
inductive laws_szMatcherS.Pt where
  | p0 (a0 : List ((ByteArray) × ((Int) × ((ByteArray) × (Unit))))) (a1 : Int)
  | p17 (y1 : List ((ByteArray) × ((Int) × ((ByteArray) × (Unit))))) (y2 : Int) (y3 : Int)
def laws_szMatcherS.lb : laws_szMatcherS.Pt → Nat
  | .p0 _ _ => 0
  | .p17 _ _ _ => 17
def laws_szMatcherS.st : laws_szMatcherS.Pt → St
  | .p0 a0 a1 => enter [.v (.sl false (.pair .str (.pair (.int .i64) (.pair .str .unit)))) a0, .v (.int .i64) a1] 0
  | .p17 y1 y2 y3 => ⟨[(0, .im (.sl false (.pair .str (.pair (.int .i64) (.pair .str .unit)))) y1), (1, .im (.int .i64) y2), (5, .im (.int .i64) y3)], [], 0⟩
def laws_szMatcherS.step (n : Nat) (K : laws_szMatcherS.Pt → Option (Tup [(.int .i64)])) : laws_szMatcherS.Pt → Option (Tup [(.int .i64)])
  | .p0 a0 a1 => cond (decide ((IntKind.wrap .i64 (a1 - ((List.length a0) : Int))) < (0 : Int))) (some (-(1 : Int))) (K (.p17 a0 (IntKind.wrap .i64 (a1 - ((List.length a0) : Int))) (0 : Int)))
  | .p17 y1 y2 y3 => cond (decide (y3 < ((List.length y1) : Int))) (cond (inB y3 (List.length y1)) ((laws_szMatcher n (List.getD y1 (Int.toNat y3) default) y2).bind fun (r6 : Int) => cond (decide (r6 < (0 : Int))) (some (-(1 : Int))) (K (.p17 y1 r6 (IntKind.wrap .i64 (y3 + (1 : Int)))))) (none)) (some y2)
def laws_szMatcherS (n : Nat) (a0 : List ((ByteArray) × ((Int) × ((ByteArray) × (Unit))))) (a1 : Int) : Option (Tup [(.int .i64)]) := goRec laws_szMatcherS.step n (.p0 a0 a1)
def laws_szMatcherS.spec : Ctr := ⟨112, [.v (.sl false (.pair .str (.pair (.int .i64) (.pair .str .unit)))), .v (.int .i64)], [(.int .i64)], [], fun n x => laws_szMatcherS n x.1 x.2.1⟩
theorem laws_szMatcherS.seg_eq (n : Nat) (goto : Nat → St → Option (Tup [(.int .i64)])) (y : laws_szMatcherS.Pt) : seg ⟨ty, gl, laws_szMatcherS.md, calOf laws_szMatcherS.T n⟩ laws_szMatcherS.F.np laws_szMatcherS.F.ks goto (laws_szMatcherS.F.fin ⟨ty, gl, laws_szMatcherS.md, calOf laws_szMatcherS.T 0⟩ [(.int .i64)]) laws_szMatcherS.F.c (laws_szMatcherS.lb y) (laws_szMatcherS.st y) = laws_szMatcherS.step n (fun z => goto (laws_szMatcherS.lb z) (laws_szMatcherS.st z)) y := by
  cases y <;> kernel_rfl
theorem laws_szMatcherS.text : Text Go.Proofs.Tryz.prog laws_szMatcherS.F laws_szMatcherS.spec := ⟨⟨Go.Proofs.Tryz.f112, by kernel_rfl, by kernel_rfl, by decide +kernel, by kernel_rfl, by kernel_rfl, of_decide_eq_true (by kernel_rfl)⟩, fun _ => rfl, fun _ => rfl, rfl⟩
theorem laws_szMatcherS.ok : CtrOK Go.Proofs.Tryz.prog gl laws_szMatcherS.spec :=
  ctr_ok (T := laws_szMatcherS.T) (F := laws_szMatcherS.F) (lb := laws_szMatcherS.lb) (st := laws_szMatcherS.st) (step := laws_szMatcherS.step) (md := laws_szMatcherS.md) tabs laws_szMatcherS.text laws_szMatcherS.seg_eq (fun n x => ⟨.p0 x.1 x.2.1, rfl, rfl, rfl⟩) (consC laws_szMatcher.ok (nilC))

/-! loop.example/g00039/laws.szStringS -/
def laws_szStringS.T : List Ctr := []
def laws_szStringS.md : List (Nat × List Md) := []
noncomputable def laws_szStringS.F : Fun := ⟨(Go.Proofs.Tryz.f113.body).getD .skip, [.v (.sl false .str), .v (.int .i64)], [(.tmp 4, (.int .i64))], [], 0, [(17, ⟨[0, 1, 5], [], [], false⟩)]⟩
inductive laws_szStringS.Pt where
  | p0 (a0 : List (ByteArray)) (a1 : Int)
  | p17 (y1 : List (ByteArray)) (y2 : Int) (y3 : Int)
def laws_szStringS.lb : laws_szStringS.Pt → Nat
  | .p0 _ _ => 0
  | .p17 _ _ _ => 17
def laws_szStringS.st : laws_szStringS.Pt → St
  | .p0 a0 a1 => enter [.v (.sl false .str) a0, .v (.int .i64) a1] 0
  | .p17 y1 y2 y3 => ⟨[(0, .im (.sl false .str) y1), (1, .im (.int .i64) y2), (5, .im (.int .i64) y3)], [], 0⟩
def laws_szStringS.step (n : Nat) (K : laws_szStringS.Pt → Option (Tup [(.int .i64)])) : laws_szStringS.Pt → Option (Tup [(.int .i64)])
  | .p0 a0 a1 => cond (decide ((IntKind.wrap .i64 (a1 - ((List.length a0) : Int))) < (0 : Int))) (some (-(1 : Int))) (K (.p17 a0 (IntKind.wrap .i64 (a1 - ((List.length a0) : Int))) (0 : Int)))
  | .p17 y1 y2 y3 => cond (decide (y3 < ((List.length y1) : Int))) (cond (inB y3 (List.length y1)) (cond (decide ((IntKind.wrap .i64 (y2 - ((ByteArray.size (List.getD y1 (Int.toNat y3) default)) : Int))) < (0 : Int))) (some (-(1 : Int))) (K (.p17 y1 (IntKind.wrap .i64 (y2 - ((ByteArray.size (List.getD y1 (Int.toNat y3) default)) : Int))) (IntKind.wrap .i64 (y3 + (1 : Int)))))) (none)) (some y2)
def laws_szStringS (n : Nat) (a0 : List (ByteArray)) (a1 : Int) : Option (Tup [(.int .i64)]) := goRec laws_szStringS.step n (.p0 a0 a1)
def laws_szStringS.spec : Ctr := ⟨113, [.v (.sl false .str), .v (.int .i64)], [(.int .i64)], [], fun n x => laws_szStringS n x.1 x.2.1⟩
theorem laws_szStringS.seg_eq (n : Nat) (goto : Nat → St → Option (Tup [(.int .i64)])) (y : laws_szStringS.Pt) : seg ⟨ty, gl, laws_szStringS.md, calOf laws_szStringS.T n⟩ laws_szStringS.F.np laws_szStringS.F.ks goto (laws_szStringS.F.fin ⟨ty, gl, laws_szStringS.md, calOf laws_szStringS.T 0⟩ [(.int .i64)]) laws_szStringS.F.c (laws_szStringS.lb y) (laws_szStringS.st y) = laws_szStringS.step n (fun z => goto (laws_szStringS.lb z) (laws_szStringS.st z)) y := by
  cases y <;> kernel_rfl
theorem laws_szStringS.text : Text Go.Proofs.Tryz.prog laws_szStringS.F laws_szStringS.spec := ⟨⟨Go.Proofs.Tryz.f113, by kernel_rfl, by kernel_rfl, by decide +kernel, by kernel_rfl, by kernel_rfl, of_decide_eq_true (by kernel_rfl)⟩, fun _ => rfl, fun _ => rfl, rfl⟩
theorem laws_szStringS.ok : CtrOK Go.Proofs.Tryz.prog gl laws_szStringS.spec :=
  ctr_ok (T := laws_szStringS.T) (F := laws_szStringS.F) (lb := laws_szStringS.lb) (st := laws_szStringS.st) (step := laws_szStringS.step) (md := laws_szStringS.md) tabs laws_szStringS.text laws_szStringS.seg_eq (fun n x => ⟨.p0 x.1 x.2.1, rfl, rfl, rfl⟩) (nilC)

/-! loop.example/g00039/laws.szIntS -/
def laws_szIntS.T : List Ctr := []
def laws_szIntS.md : List (Nat × List Md) := []
noncomputable def laws_szIntS.F : Fun := ⟨(Go.Proofs.Tryz.f114.body).getD .skip, [.v (.sl false (.int .i64)), .v (.int .i64)], [(.tmp 4, (.int .i64))], [], 0, []⟩
inductive laws_szIntS.Pt where
  | p0 (a0 : List (Int)) (a1 : Int)
def laws_szIntS.lb : laws_szIntS.Pt → Nat
  | .p0 _ _ => 0
def laws_szIntS.st : laws_szIntS.Pt → St
  | .p0 a0 a1 => enter [.v (.sl false (.int .i64)) a0, .v (.int .i64) a1] 0
def laws_szIntS.step (n : Nat) (K : laws_szIntS.Pt → Option (Tup [(.int .i64)])) : laws_szIntS.Pt → Option (Tup [(.int .i64)])
  | .p0 a0 a1 => cond (decide ((IntKind.wrap .i64 (a1 - ((List.length a0) : Int))) < (0 : Int))) (some (-(1 : Int))) (some (IntKind.wrap .i64 (a1 - ((List.length a0) : Int))))
def laws_szIntS (n : Nat) (a0 : List (Int)) (a1 : Int) : Option (Tup [(.int .i64)]) := goRec laws_szIntS.step n (.p0 a0 a1)
def laws_szIntS.spec : Ctr := ⟨114, [.v (.sl false (.int .i64)), .v (.int .i64)], [(.int .i64)], [], fun n x => laws_szIntS n x.1 x.2.1⟩
theorem laws_szIntS.seg_eq (n : Nat) (goto : Nat → St → Option (Tup [(.int .i64)])) (y : laws_szIntS.Pt) : seg ⟨ty, gl, laws_szIntS.md, calOf laws_szIntS.T n⟩ laws_szIntS.F.np laws_szIntS.F.ks goto (laws_szIntS.F.fin ⟨ty, gl, laws_szIntS.md, calOf laws_szIntS.T 0⟩ [(.int .i64)]) laws_szIntS.F.c (laws_szIntS.lb y) (laws_szIntS.st y) = laws_szIntS.step n (fun z => goto (laws_szIntS.lb z) (laws_szIntS.st z)) y := by
  cases y <;> kernel_rfl
theorem laws_szIntS.text : Text Go.Proofs.Tryz.prog laws_szIntS.F laws_szIntS.spec := ⟨⟨Go.Proofs.Tryz.f114, by kernel_rfl, by kernel_rfl, by decide +kernel, by kernel_rfl, by kernel_rfl, of_decide_eq_true (by kernel_rfl)⟩, fun _ => rfl, fun _ => rfl, rfl⟩
theorem laws_szIntS.ok : CtrOK Go.Proofs.Tryz.prog gl laws_szIntS.spec :=
  ctr_ok (T := laws_szIntS.T) (F := laws_szIntS.F) (lb := laws_szIntS.lb) (st := laws_szIntS.st) (step := laws_szIntS.step) (md := laws_szIntS.md) tabs laws_szIntS.text laws_szIntS.seg_eq (fun n x => ⟨.p0 x.1 x.2.1, rfl, rfl, rfl⟩) (nilC)

/-! loop.example/g00039/laws.szRoute -/
def laws_szRoute.T : List Ctr := [laws_szMatcherS.spec, laws_szStringS.spec, laws_szIntS.spec]
def laws_szRoute.md : List (Nat × List Md) := []
noncomputable def laws_szRoute.F : Fun := ⟨(Go.Proofs.Tryz.f62.body).getD .skip, [.v (.pair .str (.pair (.sl false (.pair .str (.pair (.int .i64) (.pair .str .unit)))) (.pair (.sl false .str) (.pair (.int .i64) (.pair (.int .i64) (.pair (.int .i64) (.pair (.sl false (.int .i64)) (.pair .bool (.pair (.int .i64) .unit))))))))), .v (.int .i64)], [(.tmp 4, (.int .i64))], [], 0, []⟩
inductive laws_szRoute.Pt where
  | p0 (a0 : (ByteArray) × ((List ((ByteArray) × ((Int) × ((ByteArray) × (Unit))))) × ((List (ByteArray)) × ((Int) × ((Int) × ((Int) × ((List (Int)) × ((Bool) × ((Int) × (Unit)))))))))) (a1 : Int)
def laws_szRoute.lb : laws_szRoute.Pt → Nat
  | .p0 _ _ => 0
def laws_szRoute.st : laws_szRoute.Pt → St
  | .p0 a0 a1 => enter [.v (.pair .str (.pair (.sl false (.pair .str (.pair (.int .i64) (.pair .str .unit)))) (.pair (.sl false .str) (.pair (.int .i64) (.pair (.int .i64) (.pair (.int .i64) (.pair (.sl false (.int .i64)) (.pair .bool (.pair (.int .i64) .unit))))))))) a0, .v (.int .i64) a1] 0
def laws_szRoute.step (n : Nat) (K : laws_szRoute.Pt → Option (Tup [(.int .i64)])) : laws_szRoute.Pt → Option (Tup [(.int .i64)])
  | .p0 a0 a1 => cond (decide ((IntKind.wrap .i64 (a1 - ((ByteArray.size a0.1) : Int))) < (0 : Int))) (some (-(1 : Int))) ((laws_szMatcherS n a0.2.1 (IntKind.wrap .i64 (a1 - ((ByteArray.size a0.1) : Int)))).bind fun (r5 : Int) => cond (decide (r5 < (0 : Int))) (some (-(1 : Int))) ((laws_szStringS n a0.2.2.1 r5).bind fun (r6 : Int) => cond (decide (r6 < (0 : Int))) (some (-(1 : Int))) ((laws_szIntS n a0.2.2.2.2.2.2.1 r6).bind fun (r7 : Int) => cond (decide (r7 < (0 : Int))) (some (-(1 : Int))) (some r7))))
def laws_szRoute (n : Nat) (a0 : (ByteArray) × ((List ((ByteArray) × ((Int) × ((ByteArray) × (Unit))))) × ((List (ByteArray)) × ((Int) × ((Int) × ((Int) × ((List (Int)) × ((Bool) × ((Int) × (Unit)))))))))) (a1 : Int) : Option (Tup [(.int .i64)]) := goRec laws_szRoute.step n (.p0 a0 a1)
def laws_szRoute.spec : Ctr := ⟨62, [.v (.pair .str (.pair (.sl false (.pair .str (.pair (.int .i64) (.pair .str .unit)))) (.pair (.sl false .str) (.pair (.int .i64) (.pair (.int .i64) (.pair (.int .i64) (.pair (.sl false (.int .i64)) (.pair .bool (.pair (.int .i64) .unit))))))))), .v (.int .i64)], [(.int .i64)], [], fun n x => laws_szRoute n x.1 x.2.1⟩
theorem laws_szRoute.seg_eq (n : Nat) (goto : Nat → St → Option (Tup [(.int .i64)])) (y : laws_szRoute.Pt) : seg ⟨ty, gl, laws_szRoute.md, calOf laws_szRoute.T n⟩ laws_szRoute.F.np laws_szRoute.F.ks goto (laws_szRoute.F.fin ⟨ty, gl, laws_szRoute.md, calOf laws_szRoute.T 0⟩ [(.int .i64)]) laws_szRoute.F.c (laws_szRoute.lb y) (laws_szRoute.st y) = laws_szRoute.step n (fun z => goto (laws_szRoute.lb z) (laws_szRoute.st z)) y := by
  cases y <;> kernel_rfl
theorem laws_szRoute.text : Text Go.Proofs.Tryz.prog laws_szRoute.F laws_szRoute.spec := ⟨⟨Go.Proofs.Tryz.f62, by kernel_rfl, by kernel_rfl, by decide +kernel, by kernel_rfl, by kernel_rfl, of_decide_eq_true (by kernel_rfl)⟩, fun _ => rfl, fun _ => rfl, rfl⟩
theorem laws_szRoute.ok : CtrOK Go.Proofs.Tryz.prog gl laws_szRoute.spec :=
  ctr_ok (T := laws_szRoute.T) (F := laws_szRoute.F) (lb := laws_szRoute.lb) (st := laws_szRoute.st) (step := laws_szRoute.step) (md := laws_szRoute.md) tabs laws_szRoute.text laws_szRoute.seg_eq (fun n x => ⟨.p0 x.1 x.2.1, rfl, rfl, rfl⟩) (consC laws_szMatcherS.ok (consC laws_szStringS.ok (consC laws_szIntS.ok (nilC))))

/-! loop.example/g00039/laws.szRouteS -/
def laws_szRouteS.T : List Ctr := [laws_szRoute.spec]
def laws_szRouteS.md : List (Nat × List Md) := []
noncomputable def laws_szRouteS.F : Fun := ⟨(Go.Proofs.Tryz.f19.body).getD .skip, [.v (.sl false (.pair .str (.pair (.sl false (.pair .str (.pair (.int .i64) (.pair .str .unit)))) (.pair (.sl false .str) (.pair (.int .i64) (.pair (.int .i64) (.pair (.int .i64) (.pair (.sl false (.int .i64)) (.pair .bool (.pair (.int .i64) .unit)))))))))), .v (.int .i64)], [(.tmp 4, (.int .i64))], [], 0, [(17, ⟨[0, 1, 5], [], [], false⟩)]⟩
inductive laws_szRouteS.Pt where
  | p0 (a0 : List ((ByteArray) × ((List ((ByteArray) × ((Int) × ((ByteArray) × (Unit))))) × ((List (ByteArray)) × ((Int) × ((Int) × ((Int) × ((List (Int)) × ((Bool) × ((Int) × (Unit))))))))))) (a1 : Int)
  | p17 (y1 : List ((ByteArray) × ((List ((ByteArray) × ((Int) × ((ByteArray) × (Unit))))) × ((List (ByteArray)) × ((Int) × ((Int) × ((Int) × ((List (Int)) × ((Bool) × ((Int) × (Unit))))))))))) (y2 : Int) (y3 : Int)
def laws_szRouteS.lb : laws_szRouteS.Pt → Nat
  | .p0 _ _ => 0
  | .p17 _ _ _ => 17
def laws_szRouteS.st : laws_szRouteS.Pt → St
  | .p0 a0 a1 => enter [.v (.sl false (.pair .str (.pair (.sl false (.pair .str (.pair (.int .i64) (.pair .str .unit)))) (.pair (.sl false .str) (.pair (.int .i64) (.pair (.int .i64) (.pair (.int .i64) (.pair (.sl false (.int .i64)) (.pair .bool (.pair (.int .i64) .unit)))))))))) a0, .v (.int .i64) a1] 0
  | .p17 y1 y2 y3 => ⟨[(0, .im (.sl false (.pair .str (.pair (.sl false (.pair .str (.pair (.int .i64) (.pair .str .unit)))) (.pair (.sl false .str) (.pair (.int .i64) (.pair (.int .i64) (.pair (.int .i64) (.pair (.sl false (.int .i64)) (.pair .bool (.pair (.int .i64) .unit)))))))))) y1), (1, .im (.int .i64) y2), (5, .im (.int .i64) y3)], [], 0⟩
def laws_szRouteS.step (n : Nat) (K : laws_szRouteS.Pt → Option (Tup [(.int .i64)])) : laws_szRouteS.Pt → Option (Tup [(.int .i64)])
  | .p0 a0 a1 => cond (decide ((IntKind.wrap .i64 (a1 - ((List.length a0) : Int))) < (0 : Int))) (some (-(1 : Int))) (K (.p17 a0 (IntKind.wrap .i64 (a1 - ((List.length a0) : Int))) (0 : Int)))
  | .p17 y1 y2 y3 => cond (decide (y3 < ((List.length y1) : Int))) (cond (inB y3 (List.length y1)) ((laws_szRoute n (List.getD y1 (Int.toNat y3) default) y2).bind fun (r6 : Int) => cond (decide (r6 < (0 : Int))) (some (-(1 : Int))) (K (.p17 y1 r6 (IntKind.wrap .i64 (y3 + (1 : Int)))))) (none)) (some y2)
def laws_szRouteS (n : Nat) (a0 : List ((ByteArray) × ((List ((ByteArray) × ((Int) × ((ByteArray) × (Unit))))) × ((List (ByteArray)) × ((Int) × ((Int) × ((Int) × ((List (Int)) × ((Bool) × ((Int) × (Unit))))))))))) (a1 : Int) : Option (Tup [(.int .i64)]) := goRec laws_szRouteS.step n (.p0 a0 a1)
def laws_szRouteS.spec : Ctr := ⟨19, [.v (.sl false (.pair .str (.pair (.sl false (.pair .str (.pair (.int .i64) (.pair .str .unit)))) (.pair (.sl false .str) (.pair (.int .i64) (.pair (.int .i64) (.pair (.int .i64) (.pair (.sl false (.int .i64)) (.pair .bool (.pair (.int .i64) .unit)))))))))), .v (.int .i64)], [(.int .i64)], [], fun n x => laws_szRouteS n x.1 x.2.1⟩
theorem laws_szRouteS.seg_eq (n : Nat) (goto : Nat → St → Option (Tup [(.int .i64)])) (y : laws_szRouteS.Pt) : seg ⟨ty, gl, laws_szRouteS.md, calOf laws_szRouteS.T n⟩ laws_szRouteS.F.np laws_szRouteS.F.ks goto (laws_szRouteS.F.fin ⟨ty, gl, laws_szRouteS.md, calOf laws_szRouteS.T 0⟩ [(.int .i64)]) laws_szRouteS.F.c (laws_szRouteS.lb y) (laws_szRouteS.st y) = laws_szRouteS.step n (fun z => goto (laws_szRouteS.lb z) (laws_szRouteS.st z)) y := by
  cases y <;> kernel_rfl
theorem laws_szRouteS.text : Text Go.Proofs.Tryz.prog laws_szRouteS.F laws_szRouteS.spec := ⟨⟨Go.Proofs.Tryz.f19, by kernel_rfl, by kernel_rfl, by decide +kernel, by kernel_rfl, by kernel_rfl, of_decide_eq_true (by kernel_rfl)⟩, fun _ => rfl, fun _ => rfl, rfl⟩
theorem laws_szRouteS.ok : CtrOK Go.Proofs.Tryz.prog gl laws_szRouteS.spec :=
  ctr_ok (T := laws_szRouteS.T) (F := laws_szRouteS.F) (lb := laws_szRouteS.lb) (st := laws_szRouteS.st) (step := laws_szRouteS.step) (md := laws_szRouteS.md) tabs laws_szRouteS.text laws_szRouteS.seg_eq (fun n x => ⟨.p0 x.1 x.2.1, rfl, rfl, rfl⟩) (consC laws_szRoute.ok (nilC))

/-! loop.example/g00039/laws.szLabel -/
def laws_szLabel.T : List Ctr := []
def laws_szLabel.md : List (Nat × List Md) := []
noncomputable def laws_szLabel.F : Fun := ⟨(Go.Proofs.Tryz.f63.body).getD .skip, [.v (.pair .str (.pair .str .unit)), .v (.int .i64)], [(.tmp 4, (.int .i64))], [], 0, []⟩
inductive laws_szLabel.Pt where
  | p0 (a0 : (ByteArray) × ((ByteArray) × (Unit))) (a1 : Int)
def laws_szLabel.lb : laws_szLabel.Pt → Nat
  | .p0 _ _ => 0
def laws_szLabel.st : laws_szLabel.Pt → St
  | .p0 a0 a1 => enter [.v (.pair .str (.pair .str .unit)) a0, .v (.int .i64) a1] 0
def laws_szLabel.step (n : Nat) (K : laws_szLabel.Pt → Option (Tup [(.int .i64)])) : laws_szLabel.Pt → Option (Tup [(.int .i64)])
  | .p0 a0 a1 => cond (decide ((IntKind.wrap .i64 (a1 - ((ByteArray.size a0.1) : Int))) < (0 : Int))) (some (-(1 : Int))) (cond (decide ((IntKind.wrap .i64 ((IntKind.wrap .i64 (a1 - ((ByteArray.size a0.1) : Int))) - ((ByteArray.size a0.2.1) : Int))) < (0 : Int))) (some (-(1 : Int))) (some (IntKind.wrap .i64 ((IntKind.wrap .i64 (a1 - ((ByteArray.size a0.1) : Int))) - ((ByteArray.size a0.2.1) : Int)))))
def laws_szLabel (n : Nat) (a0 : (ByteArray) × ((ByteArray) × (Unit))) (a1 : Int) : Option (Tup [(.int .i64)]) := goRec laws_szLabel.step n (.p0 a0 a1)
def laws_szLabel.spec : Ctr := ⟨63, [.v (.pair .str (.pair .str .unit)), .v (.int .i64)], [(.int .i64)], [], fun n x => laws_szLabel n x.1 x.2.1⟩
theorem laws_szLabel.seg_eq (n : Nat) (goto : Nat → St → Option (Tup [(.int .i64)])) (y : laws_szLabel.Pt) : seg ⟨ty, gl, laws_szLabel.md, calOf laws_szLabel.T n⟩ laws_szLabel.F.np laws_szLabel.F.ks goto (laws_szLabel.F.fin ⟨ty, gl, laws_szLabel.md, calOf laws_szLabel.T 0⟩ [(.int .i64)]) laws_szLabel.F.c (laws_szLabel.lb y) (laws_szLabel.st y) = laws_szLabel.step n (fun z => goto (laws_szLabel.lb z) (laws_szLabel.st z)) y := by
  cases y <;> kernel_rfl
theorem laws_szLabel.text : Text Go.Proofs.Tryz.prog laws_szLabel.F laws_szLabel.spec := ⟨⟨Go.Proofs.Tryz.f63, by kernel_rfl, by kernel_rfl, by decide +kernel, by kernel_rfl, by kernel_rfl, of_decide_eq_true (by kernel_rfl)⟩, fun _ => rfl, fun _ => rfl, rfl⟩
theorem laws_szLabel.ok : CtrOK Go.Proofs.Tryz.prog gl laws_szLabel.spec :=
  ctr_ok (T := laws_szLabel.T) (F := laws_szLabel.F) (lb := laws_szLabel.lb) (st := laws_szLabel.st) (step := laws_szLabel.step) (md := laws_szLabel.md) tabs laws_szLabel.text laws_szLabel.seg_eq (fun n x => ⟨.p0 x.1 x.2.1, rfl, rfl, rfl⟩) (nilC)

/-! loop.example/g00039/laws.szLabelS -/
def laws_szLabelS.T : List Ctr := [laws_szLabel.spec]
def laws_szLabelS.md : List (Nat × List Md) := []
noncomputable def laws_szLabelS.F : Fun := ⟨(Go.Proofs.Tryz.f20.body).getD .skip, [.v (.sl false (.pair .str (.pair .str .unit))), .v (.int .i64)], [(.tmp 4, (.int .i64))], [], 0, [(17, ⟨[0, 1, 5], [], [], false⟩)]⟩
inductive laws_szLabelS.Pt where
  | p0 (a0 : List ((ByteArray) × ((ByteArray) × (Unit)))) (a1 : Int)
  | p17 (y1 : List ((ByteArray) × ((ByteArray) × (Unit)))) (y2 : Int) (y3 : Int)
def laws_szLabelS.lb : laws_szLabelS.Pt → Nat
  | .p0 _ _ => 0
  | .p17 _ _ _ => 17
def laws_szLabelS.st : laws_szLabelS.Pt → St
  | .p0 a0 a1 => enter [.v (.sl false (.pair .str (.pair .str .unit))) a0, .v (.int .i64) a1] 0
  | .p17 y1 y2 y3 => ⟨[(0, .im (.sl false (.pair .str (.pair .str .unit))) y1), (1, .im (.int .i64) y2), (5, .im (.int .i64) y3)], [], 0⟩
def laws_szLabelS.step (n : Nat) (K : laws_szLabelS.Pt → Option (Tup [(.int .i64)])) : laws_szLabelS.Pt → Option (Tup [(.int .i64)])
  | .p0 a0 a1 => cond (decide ((IntKind.wrap .i64 (a1 - ((List.length a0) : Int))) < (0 : Int))) (some (-(1 : Int))) (K (.p17 a0 (IntKind.wrap .i64 (a1 - ((List.length a0) : Int))) (0 : Int)))
  | .p17 y1 y2 y3 => cond (decide (y3 < ((List.length y1) : Int))) (cond (inB y3 (List.length y1)) ((laws_szLabel n (List.getD y1 (Int.toNat y3) default) y2).bind fun (r6 : Int) => cond (decide (r6 < (0 : Int))) (some (-(1 : Int))) (K (.p17 y1 r6 (IntKind.wrap .i64 (y3 + (1 : Int)))))) (none)) (some y2)
def laws_szLabelS (n : Nat) (a0 : List ((ByteArray) × ((ByteArray) × (Unit)))) (a1 : Int) : Option (Tup [(.int .i64)]) := goRec laws_szLabelS.step n (.p0 a0 a1)
def laws_szLabelS.spec : Ctr := ⟨20, [.v (.sl false (.pair .str (.pair .str .unit))), .v (.int .i64)], [(.int .i64)], [], fun n x => laws_szLabelS n x.1 x.2.1⟩
theorem laws_szLabelS.seg_eq (n : Nat) (goto : Nat → St → Option (Tup [(.int .i64)])) (y : laws_szLabelS.Pt) : seg ⟨ty, gl, laws_szLabelS.md, calOf laws_szLabelS.T n⟩ laws_szLabelS.F.np laws_szLabelS.F.ks goto (laws_szLabelS.F.fin ⟨ty, gl, laws_szLabelS.md, calOf laws_szLabelS.T 0⟩ [(.int .i64)]) laws_szLabelS.F.c (laws_szLabelS.lb y) (laws_szLabelS.st y) = laws_szLabelS.step n (fun z => goto (laws_szLabelS.lb z) (laws_szLabelS.st z)) y := by
  cases y <;> kernel_rfl
theorem laws_szLabelS.text : Text Go.Proofs.Tryz.prog laws_szLabelS.F laws_szLabelS.spec := ⟨⟨Go.Proofs.Tryz.f20, by kernel_rfl, by kernel_rfl, by decide +kernel, by kernel_rfl, by kernel_rfl, of_decide_eq_true (by kernel_rfl)⟩, fun _ => rfl, fun _ => rfl, rfl⟩
theorem laws_szLabelS.ok : CtrOK Go.Proofs.Tryz.prog gl laws_szLabelS.spec :=
  ctr_ok (T := laws_szLabelS.T) (F := laws_szLabelS.F) (lb := laws_szLabelS.lb) (st := laws_szLabelS.st) (step := laws_szLabelS.step) (md := laws_szLabelS.md) tabs laws_szLabelS.text laws_szLabelS.seg_eq (fun n x => ⟨.p0 x.1 x.2.1, rfl, rfl, rfl⟩) (consC laws_szLabel.ok (nilC))

/-! loop.example/g00039/laws.toMatcher -/
def laws_toMatcher.T : List Ctr := []
def laws_toMatcher.md : List (Nat × List Md) := []
noncomputable def laws_toMatcher.F : Fun := ⟨(Go.Proofs.Tryz.f163.body).getD .skip, [.v (.pair .str (.pair (.int .i64) (.pair .str .unit)))], [(.cell 2 169, (.pair .str (.pair (.int .i64) (.pair .str .unit))))], [], 0, []⟩
inductive laws_toMatcher.Pt where
  | p0 (a0 : (ByteArray) × ((Int) × ((ByteArray) × (Unit))))
def laws_toMatcher.lb : laws_toMatcher.Pt → Nat
  | .p0 _ => 0
def laws_toMatcher.st : laws_toMatcher.Pt → St
  | .p0 a0 => enter [.v (.pair .str (.pair (.int .i64) (.pair .str .unit))) a0] 0
def laws_toMatcher.step (n : Nat) (K : laws_toMatcher.Pt → Option (Tup [(.pair .str (.pair (.int .i64) (.pair .str .unit)))])) : laws_toMatcher.Pt → Option (Tup [(.pair .str (.pair (.int .i64) (.pair .str .unit)))])
  | .p0 a0 => some a0
def laws_toMatcher (n : Nat) (a0 : (ByteArray) × ((Int) × ((ByteArray) × (Unit)))) : Option (Tup [(.pair .str (.pair (.int .i64) (.pair .str .unit)))]) := goRec laws_toMatcher.step n (.p0 a0)
def laws_toMatcher.spec : Ctr := ⟨163, [.v (.pair .str (.pair (.int .i64) (.pair .str .unit)))], [(.pair .str (.pair (.int .i64) (.pair .str .unit)))], [], fun n x => laws_toMatcher n x.1⟩
theorem laws_toMatcher.seg_eq (n : Nat) (goto : Nat → St → Option (Tup [(.pair .str (.pair (.int .i64) (.pair .str .unit)))])) (y : laws_toMatcher.Pt) : seg ⟨ty, gl, laws_toMatcher.md, calOf laws_toMatcher.T n⟩ laws_toMatcher.F.np laws_toMatcher.F.ks goto (laws_toMatcher.F.fin ⟨ty, gl, laws_toMatcher.md, calOf laws_toMatcher.T 0⟩ [(.pair .str (.pair (.int .i64) (.pair .str .unit)))]) laws_toMatcher.F.c (laws_toMatcher.lb y) (laws_toMatcher.st y) = laws_toMatcher.step n (fun z => goto (laws_toMatcher.lb z) (laws_toMatcher.st z)) y := by
  cases y <;> kernel_rfl
theorem laws_toMatcher.text : Text Go.Proofs.Tryz.prog laws_toMatcher.F laws_toMatcher.spec := ⟨⟨Go.Proofs.Tryz.f163, by kernel_rfl, by kernel_rfl, by decide +kernel, by kernel_rfl, by kernel_rfl, of_decide_eq_true (by kernel_rfl)⟩, fun _ => rfl, fun _ => rfl, rfl⟩
theorem laws_toMatcher.ok : CtrOK Go.Proofs.Tryz.prog gl laws_toMatcher.spec :=
  ctr_ok (T := laws_toMatcher.T) (F := laws_toMatcher.F) (lb := laws_toMatcher.lb) (st := laws_toMatcher.st) (step := laws_toMatcher.step) (md := laws_toMatcher.md) tabs laws_toMatcher.text laws_toMatcher.seg_eq (fun n x => ⟨.p0 x.1, rfl, rfl, rfl⟩) (nilC)

/-! loop.example/g00039/laws.toMatcherS -/
def laws_toMatcherS.T : List Ctr := [laws_toMatcher.spec]
def laws_toMatcherS.md : List (Nat × List Md) := []
noncomputable def laws_toMatcherS.F : Fun := ⟨(Go.Proofs.Tryz.f117.body).getD .skip, [.v (.sl false (.pair .str (.pair (.int .i64) (.pair .str .unit))))], [(.tmp 2, (.sl false (.pair .str (.pair (.int .i64) (.pair .str .unit)))))], [], 0, [(9, ⟨[0, 3, 4], [(3, (.pair .str (.pair (.int .i64) (.pair .str .unit))))], [], false⟩)]⟩
inductive laws_toMatcherS.Pt where
  | p0 (a0 : List ((ByteArray) × ((Int) × ((ByteArray) × (Unit)))))
  | p9 (y1 : List ((ByteArray) × ((Int) × ((ByteArray) × (Unit))))) (y2 : Int) (y3 : List ((ByteArray) × ((Int) × ((ByteArray) × (Unit)))))
def laws_toMatcherS.lb : laws_toMatcherS.Pt → Nat
  | .p0 _ => 0
  | .p9 _ _ _ => 9
def laws_toMatcherS.st : laws_toMatcherS.Pt → St
  | .p0 a0 => enter [.v (.sl false (.pair .str (.pair (.int .i64) (.pair .str .unit)))) a0] 0
  | .p9 y1 y2 y3 => ⟨[(0, .im (.sl false (.pair .str (.pair (.int .i64) (.pair .str .unit)))) y1), (3, .hs 0 [] none 0), (4, .im (.int .i64) y2)], [(0, .arr false (.pair .str (.pair (.int .i64) (.pair .str .unit))) y3 0)], 1⟩
def laws_toMatcherS.step (n : Nat) (K : laws_toMatcherS.Pt → Option (Tup [(.sl false (.pair .str (.pair (.int .i64) (.pair .str .unit))))])) : laws_toMatcherS.Pt → Option (Tup [(.sl false (.pair .str (.pair (.int .i64) (.pair .str .unit))))])
  | .p0 a0 => cond (inC ((List.length a0) : Int) ((List.length a0) : Int) 1000000000) (K (.p9 a0 (0 : Int) (List.replicate (Int.toNat ((List.length a0) : Int)) (default : (ByteArray) × ((Int) × ((ByteArray) × (Unit))))))) (none)
  | .p9 y1 y2 y3 => cond (decide (y2 < ((List.length y1) : Int))) (cond (inB y2 (List.length y1)) ((laws_toMatcher n (List.getD y1 (Int.toNat y2) default)).bind fun r6 => cond (inB y2 (List.length y3)) (K (.p9 y1 (IntKind.wrap .i64 (y2 + (1 : Int))) (List.set y3 (0 + (Int.toNat y2)) r6))) (none)) (none)) (some y3)
def laws_toMatcherS (n : Nat) (a0 : List ((ByteArray) × ((Int) × ((ByteArray) × (Unit))))) : Option (Tup [(.sl false (.pair .str (.pair (.int .i64) (.pair .str .unit))))]) := goRec laws_toMatcherS.step n (.p0 a0)
def laws_toMatcherS.spec : Ctr := ⟨117, [.v (.sl false (.pair .str (.pair (.int .i64) (.pair .str .unit))))], [(.sl false (.pair .str (.pair (.int .i64) (.pair .str .unit))))], [], fun n x => laws_toMatcherS n x.1⟩
theorem laws_toMatcherS.seg_eq (n : Nat) (goto : Nat → St → Option (Tup [(.sl false (.pair .str (.pair (.int .i64) (.pair .str .unit))))])) (y : laws_toMatcherS.Pt) : seg ⟨ty, gl, laws_toMatcherS.md, calOf laws_toMatcherS.T n⟩ laws_toMatcherS.F.np laws_toMatcherS.F.ks goto (laws_toMatcherS.F.fin ⟨ty, gl, laws_toMatcherS.md, calOf laws_toMatcherS.T 0⟩ [(.sl false (.pair .str (.pair (.int .i64) (.pair .str .unit))))]) laws_toMatcherS.F.c (laws_toMatcherS.lb y) (laws_toMatcherS.st y) = laws_toMatcherS.step n (fun z => goto (laws_toMatcherS.lb z) (laws_toMatcherS.st z)) y := by
  cases y <;> kernel_rfl
theorem laws_toMatcherS.text : Text Go.Proofs.Tryz.prog laws_toMatcherS.F laws_toMatcherS.spec := ⟨⟨Go.Proofs.Tryz.f117, by kernel_rfl, by kernel_rfl, by decide +kernel, by kernel_rfl, by kernel_rfl, of_decide_eq_true (by kernel_rfl)⟩, fun _ => rfl, fun _ => rfl, rfl⟩
theorem laws_toMatcherS.ok : CtrOK Go.Proofs.Tryz.prog gl laws_toMatcherS.spec :=
  ctr_ok (T := laws_toMatcherS.T) (F := laws_toMatcherS.F) (lb := laws_toMatcherS.lb) (st := laws_toMatcherS.st) (step := laws_toMatcherS.step) (md := laws_toMatcherS.md) tabs laws_toMatcherS.text laws_toMatcherS.seg_eq (fun n x => ⟨.p0 x.1, rfl, rfl, rfl⟩) (consC laws_toMatcher.ok (nilC))

/-! loop.example/g00039/laws.toStringS -/
def laws_toStringS.T : List Ctr := []
def laws_toStringS.md : List (Nat × List Md) := []
noncomputable def laws_toStringS.F : Fun := ⟨(Go.Proofs.Tryz.f118.body).getD .skip, [.v (.sl false .str)], [(.tmp 2, (.sl false .str))], [], 0, [(9, ⟨[0, 3, 4], [(3, .str)], [], false⟩)]⟩
inductive laws_toStringS.Pt where
  | p0 (a0 : List (ByteArray))
  | p9 (y1 : List (ByteArray)) (y2 : Int) (y3 : List (ByteArray))
def laws_toStringS.lb : laws_toStringS.Pt → Nat
  | .p0 _ => 0
  | .p9 _ _ _ => 9
def laws_toStringS.st : laws_toStringS.Pt → St
  | .p0 a0 => enter [.v (.sl false .str) a0] 0
  | .p9 y1 y2 y3 => ⟨[(0, .im (.sl false .str) y1), (3, .hs 0 [] none 0), (4, .im (.int .i64) y2)], [(0, .arr false .str y3 0)], 1⟩
def laws_toStringS.step (n : Nat) (K : laws_toStringS.Pt → Option (Tup [(.sl false .str)])) : laws_toStringS.Pt → Option (Tup [(.sl false .str)])
  | .p0 a0 => cond (inC ((List.length a0) : Int) ((List.length a0) : Int) 1000000000) (K (.p9 a0 (0 : Int) (List.replicate (Int.toNat ((List.length a0) : Int)) (default : ByteArray)))) (none)
  | .p9 y1 y2 y3 => cond (decide (y2 < ((List.length y1) : Int))) (cond (inB y2 (List.length y1)) (cond (inB y2 (List.length y3)) (K (.p9 y1 (IntKind.wrap .i64 (y2 + (1 : Int))) (List.set y3 (0 + (Int.toNat y2)) (List.getD y1 (Int.toNat y2) default)))) (none)) (none)) (some y3)
def laws_toStringS (n : Nat) (a0 : List (ByteArray)) : Option (Tup [(.sl false .str)]) := goRec laws_toStringS.step n (.p0 a0)
def laws_toStringS.spec : Ctr := ⟨118, [.v (.sl false .str)], [(.sl false .str)], [], fun n x => laws_toStringS n x.1⟩
theorem laws_toStringS.seg_eq (n : Nat) (goto : Nat → St → Option (Tup [(.sl false .str)])) (y : laws_toStringS.Pt) : seg ⟨ty, gl, laws_toStringS.md, calOf laws_toStringS.T n⟩ laws_toStringS.F.np laws_toStringS.F.ks goto (laws_toStringS.F.fin ⟨ty, gl, laws_toStringS.md, calOf laws_toStringS.T 0⟩ [(.sl false .str)]) laws_toStringS.F.c (laws_toStringS.lb y) (laws_toStringS.st y) = laws_toStringS.step n (fun z => goto (laws_toStringS.lb z) (laws_toStringS.st z)) y := by
  cases y <;> kernel_rfl
theorem laws_toStringS.text : Text Go.Proofs.Tryz.prog laws_toStringS.F laws_toStringS.spec := ⟨⟨Go.Proofs.Tryz.f118, by kernel_rfl, by kernel_rfl, by decide +kernel, by kernel_rfl, by kernel_rfl, of_decide_eq_true (by kernel_rfl)⟩, fun _ => rfl, fun _ => rfl, rfl⟩
theorem laws_toStringS.ok : CtrOK Go.Proofs.Tryz.prog gl laws_toStringS.spec :=
  ctr_ok (T := laws_toStringS.T) (F := laws_toStringS.F) (lb := laws_toStringS.lb) (st := laws_toStringS.st) (step := laws_toStringS.step) (md := laws_toStringS.md) tabs laws_toStringS.text laws_toStringS.seg_eq (fun n x => ⟨.p0 x.1, rfl, rfl, rfl⟩) (nilC)

/-! loop.example/g00039/laws.toIntS -/
def laws_toIntS.T : List Ctr := []
def laws_toIntS.md : List (Nat × List Md) := []
noncomputable def laws_toIntS.F : Fun := ⟨(Go.Proofs.Tryz.f119.body).getD .skip, [.v (.sl false (.int .i64))], [(.tmp 2, (.sl false (.int .i64)))], [], 0, [(9, ⟨[0, 3, 4], [(3, (.int .i64))], [], false⟩)]⟩
inductive laws_toIntS.Pt where
  | p0 (a0 : List (Int))
  | p9 (y1 : List (Int)) (y2 : Int) (y3 : List (Int))
def laws_toIntS.lb : laws_toIntS.Pt → Nat
  | .p0 _ => 0
  | .p9 _ _ _ => 9
def laws_toIntS.st : laws_toIntS.Pt → St
  | .p0 a0 => enter [.v (.sl false (.int .i64)) a0] 0
  | .p9 y1 y2 y3 => ⟨[(0, .im (.sl false (.int .i64)) y1), (3, .hs 0 [] none 0), (4, .im (.int .i64) y2)], [(0, .arr false (.int .i64) y3 0)], 1⟩
def laws_toIntS.step (n : Nat) (K : laws_toIntS.Pt → Option (Tup [(.sl false (.int .i64))])) : laws_toIntS.Pt → Option (Tup [(.sl false (.int .i64))])
  | .p0 a0 => cond (inC ((List.length a0) : Int) ((List.length a0) : Int) 1000000000) (K (.p9 a0 (0 : Int) (List.replicate (Int.toNat ((List.length a0) : Int)) (default : Int)))) (none)
  | .p9 y1 y2 y3 => cond (decide (y2 < ((List.length y1) : Int))) (cond (inB y2 (List.length y1)) (cond (inB y2 (List.length y3)) (K (.p9 y1 (IntKind.wrap .i64 (y2 + (1 : Int))) (List.set y3 (0 + (Int.toNat y2)) (List.getD y1 (Int.toNat y2) default)))) (none)) (none)) (some y3)
def laws_toIntS (n : Nat) (a0 : List (Int)) : Option (Tup [(.sl false (.int .i64))]) := goRec laws_toIntS.step n (.p0 a0)
def laws_toIntS.spec : Ctr := ⟨119, [.v (.sl false (.int .i64))], [(.sl false (.int .i64))], [], fun n x => laws_toIntS n x.1⟩
theorem laws_toIntS.seg_eq (n : Nat) (goto : Nat → St → Option (Tup [(.sl false (.int .i64))])) (y : laws_toIntS.Pt) : seg ⟨ty, gl, laws_toIntS.md, calOf laws_toIntS.T n⟩ laws_toIntS.F.np laws_toIntS.F.ks goto (laws_toIntS.F.fin ⟨ty, gl, laws_toIntS.md, calOf laws_toIntS.T 0⟩ [(.sl false (.int .i64))]) laws_toIntS.F.c (laws_toIntS.lb y) (laws_toIntS.st y) = laws_toIntS.step n (fun z => goto (laws_toIntS.lb z) (laws_toIntS.st z)) y := by
  cases y <;> kernel_rfl
theorem laws_toIntS.text : Text Go.Proofs.Tryz.prog laws_toIntS.F laws_toIntS.spec := ⟨⟨Go.Proofs.Tryz.f119, by kernel_rfl, by kernel_rfl, by decide +kernel, by kernel_rfl, by kernel_rfl, of_decide_eq_true (by kernel_rfl)⟩, fun _ => rfl, fun _ => rfl, rfl⟩
theorem laws_toIntS.ok : CtrOK Go.Proofs.Tryz.prog gl laws_toIntS.spec :=
  ctr_ok (T := laws_toIntS.T) (F := laws_toIntS.F) (lb := laws_toIntS.lb) (st := laws_toIntS.st) (step := laws_toIntS.step) (md := laws_toIntS.md) tabs laws_toIntS.text laws_toIntS.seg_eq (fun n x => ⟨.p0 x.1, rfl, rfl, rfl⟩) (nilC)

/-! loop.example/g00039/laws.toRoute -/
def laws_toRoute.T : List Ctr := [laws_toMatcherS.spec, laws_toStringS.spec, laws_toIntS.spec]
def laws_toRoute.md : List (Nat × List Md) := []
noncomputable def laws_toRoute.F : Fun := ⟨(Go.Proofs.Tryz.f66.body).getD .skip, [.v (.pair .str (.pair (.sl false (.pair .str (.pair (.int .i64) (.pair .str .unit)))) (.pair (.sl false .str) (.pair (.int .i64) (.pair (.int .i64) (.pair (.int .i64) (.pair (.sl false (.int .i64)) (.pair .bool (.pair (.int .i64) .unit)))))))))], [(.cell 2 80, (.pair .str (.pair (.sl false (.pair .str (.pair (.int .i64) (.pair .str .unit)))) (.pair (.sl false .str) (.pair (.int .i64) (.pair (.int .i64) (.pair (.int .i64) (.pair (.sl false (.int .i64)) (.pair .bool (.pair (.int .i64) .unit))))))))))], [], 0, []⟩
inductive laws_toRoute.Pt where
  | p0 (a0 : (ByteArray) × ((List ((ByteArray) × ((Int) × ((ByteArray) × (Unit))))) × ((List (ByteArray)) × ((Int) × ((Int) × ((Int) × ((List (Int)) × ((Bool) × ((Int) × (Unit))))))))))
def laws_toRoute.lb : laws_toRoute.Pt → Nat
  | .p0 _ => 0
def laws_toRoute.st : laws_toRoute.Pt → St
  | .p0 a0 => enter [.v (.pair .str (.pair (.sl false (.pair .str (.pair (.int .i64) (.pair .str .unit)))) (.pair (.sl false .str) (.pair (.int .i64) (.pair (.int .i64) (.pair (.int .i64) (.pair (.sl false (.int .i64)) (.pair .bool (.pair (.int .i64) .unit))))))))) a0] 0
def laws_toRoute.step (n : Nat) (K : laws_toRoute.Pt → Option (Tup [(.pair .str (.pair (.sl false (.pair .str (.pair (.int .i64) (.pair .str .unit)))) (.pair (.sl false .str) (.pair (.int .i64) (.pair (.int .i64) (.pair (.int .i64) (.pair (.sl false (.int .i64)) (.pair .bool (.pair (.int .i64) .unit)))))))))])) : laws_toRoute.Pt → Option (Tup [(.pair .str (.pair (.sl false (.pair .str (.pair (.int .i64) (.pair .str .unit)))) (.pair (.sl false .str) (.pair (.int .i64) (.pair (.int .i64) (.pair (.int .i64) (.pair (.sl false (.int .i64)) (.pair .bool (.pair (.int .i64) .unit)))))))))])
  | .p0 a0 => (laws_toMatcherS n a0.2.1).bind fun r4 => (laws_toStringS n a0.2.2.1).bind fun r5 => (laws_toIntS n a0.2.2.2.2.2.2.1).bind fun r6 => some (a0.1, (r4, (r5, (a0.2.2.2.1, (a0.2.2.2.2.1, (a0.2.2.2.2.2.1, (r6, a0.2.2.2.2.2.2.2)))))))
def laws_toRoute (n : Nat) (a0 : (ByteArray) × ((List ((ByteArray) × ((Int) × ((ByteArray) × (Unit))))) × ((List (ByteArray)) × ((Int) × ((Int) × ((Int) × ((List (Int)) × ((Bool) × ((Int) × (Unit)))))))))) : Option (Tup [(.pair .str (.pair (.sl false (.pair .str (.pair (.int .i64) (.pair .str .unit)))) (.pair (.sl false .str) (.pair (.int .i64) (.pair (.int .i64) (.pair (.int .i64) (.pair (.sl false (.int .i64)) (.pair .bool (.pair (.int .i64) .unit)))))))))]) := goRec laws_toRoute.step n (.p0 a0)
def laws_toRoute.spec : Ctr := ⟨66, [.v (.pair .str (.pair (.sl false (.pair .str (.pair (.int .i64) (.pair .str .unit)))) (.pair (.sl false .str) (.pair (.int .i64) (.pair (.int .i64) (.pair (.int .i64) (.pair (.sl false (.int .i64)) (.pair .bool (.pair (.int .i64) .unit)))))))))], [(.pair .str (.pair (.sl false (.pair .str (.pair (.int .i64) (.pair .str .unit)))) (.pair (.sl false .str) (.pair (.int .i64) (.pair (.int .i64) (.pair (.int .i64) (.pair (.sl false (.int .i64)) (.pair .bool (.pair (.int .i64) .unit)))))))))], [], fun n x => laws_toRoute n x.1⟩
theorem laws_toRoute.seg_eq (n : Nat) (goto : Nat → St → Option (Tup [(.pair .str (.pair (.sl false (.pair .str (.pair (.int .i64) (.pair .str .unit)))) (.pair (.sl false .str) (.pair (.int .i64) (.pair (.int .i64) (.pair (.int .i64) (.pair (.sl false (.int .i64)) (.pair .bool (.pair (.int .i64) .unit)))))))))])) (y : laws_toRoute.Pt) : seg ⟨ty, gl, laws_toRoute.md, calOf laws_toRoute.T n⟩ laws_toRoute.F.np laws_toRoute.F.ks goto (laws_toRoute.F.fin ⟨ty, gl, laws_toRoute.md, calOf laws_toRoute.T 0⟩ [(.pair .str (.pair (.sl false (.pair .str (.pair (.int .i64) (.pair .str .unit)))) (.pair (.sl false .str) (.pair (.int .i64) (.pair (.int .i64) (.pair (.int .i64) (.pair (.sl false (.int .i64)) (.pair .bool (.pair (.int .i64) .unit)))))))))]) laws_toRoute.F.c (laws_toRoute.lb y) (laws_toRoute.st y) = laws_toRoute.step n (fun z => goto (laws_toRoute.lb z) (laws_toRoute.st z)) y := by
  cases y <;> kernel_rfl
theorem laws_toRoute.text : Text Go.Proofs.Tryz.prog laws_toRoute.F laws_toRoute.spec := ⟨⟨Go.Proofs.Tryz.f66, by kernel_rfl, by kernel_rfl, by decide +kernel, by kernel_rfl, by kernel_rfl, of_decide_eq_true (by kernel_rfl)⟩, fun _ => rfl, fun _ => rfl, rfl⟩
theorem laws_toRoute.ok : CtrOK Go.Proofs.Tryz.prog gl laws_toRoute.spec :=
  ctr_ok (T := laws_toRoute.T) (F := laws_toRoute.F) (lb := laws_toRoute.lb) (st := laws_toRoute.st) (step := laws_toRoute.step) (md := laws_toRoute.md) tabs laws_toRoute.text laws_toRoute.seg_eq (fun n x => ⟨.p0 x.1, rfl, rfl, rfl⟩) (consC laws_toMatcherS.ok (consC laws_toStringS.ok (consC laws_toIntS.ok (nilC))))

/-! loop.example/g00039/laws.toRouteS -/
def laws_toRouteS.T : List Ctr := [laws_toRoute.spec]
def laws_toRouteS.md : List (Nat × List Md) := []
noncomputable def laws_toRouteS.F : Fun := ⟨(Go.Proofs.Tryz.f22.body).getD .skip, [.v (.sl false (.pair .str (.pair (.sl false (.pair .str (.pair (.int .i64) (.pair .str .unit)))) (.pair (.sl false .str) (.pair (.int .i64) (.pair (.int .i64) (.pair (.int .i64) (.pair (.sl false (.int .i64)) (.pair .bool (.pair (.int .i64) .unit))))))))))], [(.tmp 2, (.sl false (.pair .str (.pair (.sl false (.pair .str (.pair (.int .i64) (.pair .str .unit)))) (.pair (.sl false .str) (.pair (.int .i64) (.pair (.int .i64) (.pair (.int .i64) (.pair (.sl false (.int .i64)) (.pair .bool (.pair (.int .i64) .unit)))))))))))], [], 0, [(9, ⟨[0, 3, 4], [(3, (.pair .str (.pair (.sl false (.pair .str (.pair (.int .i64) (.pair .str .unit)))) (.pair (.sl false .str) (.pair (.int .i64) (.pair (.int .i64) (.pair (.int .i64) (.pair (.sl false (.int .i64)) (.pair .bool (.pair (.int .i64) .unit))))))))))], [], false⟩)]⟩
inductive laws_toRouteS.Pt where
  | p0 (a0 : List ((ByteArray) × ((List ((ByteArray) × ((Int) × ((ByteArray) × (Unit))))) × ((List (ByteArray)) × ((Int) × ((Int) × ((Int) × ((List (Int)) × ((Bool) × ((Int) × (Unit)))))))))))
  | p9 (y1 : List ((ByteArray) × ((List ((ByteArray) × ((Int) × ((ByteArray) × (Unit))))) × ((List (ByteArray)) × ((Int) × ((Int) × ((Int) × ((List (Int)) × ((Bool) × ((Int) × (Unit))))))))))) (y2 : Int) (y3 : List ((ByteArray) × ((List ((ByteArray) × ((Int) × ((ByteArray) × (Unit))))) × ((List (ByteArray)) × ((Int) × ((Int) × ((Int) × ((List (Int)) × ((Bool) × ((Int) × (Unit)))))))))))
def laws_toRouteS.lb : laws_toRouteS.Pt → Nat
  | .p0 _ => 0
  | .p9 _ _ _ => 9
def laws_toRouteS.st : laws_toRouteS.Pt → St
  | .p0 a0 => enter [.v (.sl false (.pair .str (.pair (.sl false (.pair .str (.pair (.int .i64) (.pair .str .unit)))) (.pair (.sl false .str) (.pair (.int .i64) (.pair (.int .i64) (.pair (.int .i64) (.pair (.sl false (.int .i64)) (.pair .bool (.pair (.int .i64) .unit)))))))))) a0] 0
  | .p9 y1 y2 y3 => ⟨[(0, .im (.sl false (.pair .str (.pair (.sl false (.pair .str (.pair (.int .i64) (.pair .str .unit)))) (.pair (.sl false .str) (.pair (.int .i64) (.pair (.int .i64) (.pair (.int .i64) (.pair (.sl false (.int .i64)) (.pair .bool (.pair (.int .i64) .unit)))))))))) y1), (3, .hs 0 [] none 0), (4, .im (.int .i64) y2)], [(0, .arr false (.pair .str (.pair (.sl false (.pair .str (.pair (.int .i64) (.pair .str .unit)))) (.pair (.sl false .str) (.pair (.int .i64) (.pair (.int .i64) (.pair (.int .i64) (.pair (.sl false (.int .i64)) (.pair .bool (.pair (.int .i64) .unit))))))))) y3 0)], 1⟩
def laws_toRouteS.step (n : Nat) (K : laws_toRouteS.Pt → Option (Tup [(.sl false (.pair .str (.pair (.sl false (.pair .str (.pair (.int .i64) (.pair .str .unit)))) (.pair (.sl false .str) (.pair (.int .i64) (.pair (.int .i64) (.pair (.int .i64) (.pair (.sl false (.int .i64)) (.pair .bool (.pair (.int .i64) .unit))))))))))])) : laws_toRouteS.Pt → Option (Tup [(.sl false (.pair .str (.pair (.sl false (.pair .str (.pair (.int .i64) (.pair .str .unit)))) (.pair (.sl false .str) (.pair (.int .i64) (.pair (.int .i64) (.pair (.int .i64) (.pair (.sl false (.int .i64)) (.pair .bool (.pair (.int .i64) .unit))))))))))])
  | .p0 a0 => cond (inC ((List.length a0) : Int) ((List.length a0) : Int) 1000000000) (K (.p9 a0 (0 : Int) (List.replicate (Int.toNat ((List.length a0) : Int)) (default : (ByteArray) × ((List ((ByteArray) × ((Int) × ((ByteArray) × (Unit))))) × ((List (ByteArray)) × ((Int) × ((Int) × ((Int) × ((List (Int)) × ((Bool) × ((Int) × (Unit))))))))))))) (none)
  | .p9 y1 y2 y3 => cond (decide (y2 < ((List.length y1) : Int))) (cond (inB y2 (List.length y1)) ((laws_toRoute n (List.getD y1 (Int.toNat y2) default)).bind fun r6 => cond (inB y2 (List.length y3)) (K (.p9 y1 (IntKind.wrap .i64 (y2 + (1 : Int))) (List.set y3 (0 + (Int.toNat y2)) r6))) (none)) (none)) (some y3)
def laws_toRouteS (n : Nat) (a0 : List ((ByteArray) × ((List ((ByteArray) × ((Int) × ((ByteArray) × (Unit))))) × ((List (ByteArray)) × ((Int) × ((Int) × ((Int) × ((List (Int)) × ((Bool) × ((Int) × (Unit))))))))))) : Option (Tup [(.sl false (.pair .str (.pair (.sl false (.pair .str (.pair (.int .i64) (.pair .str .unit)))) (.pair (.sl false .str) (.pair (.int .i64) (.pair (.int .i64) (.pair (.int .i64) (.pair (.sl false (.int .i64)) (.pair .bool (.pair (.int .i64) .unit))))))))))]) := goRec laws_toRouteS.step n (.p0 a0)
def laws_toRouteS.spec : Ctr := ⟨22, [.v (.sl false (.pair .str (.pair (.sl false (.pair .str (.pair (.int .i64) (.pair .str .unit)))) (.pair (.sl false .str) (.pair (.int .i64) (.pair (.int .i64) (.pair (.int .i64) (.pair (.sl false (.int .i64)) (.pair .bool (.pair (.int .i64) .unit))))))))))], [(.sl false (.pair .str (.pair (.sl false (.pair .str (.pair (.int .i64) (.pair .str .unit)))) (.pair (.sl false .str) (.pair (.int .i64) (.pair (.int .i64) (.pair (.int .i64) (.pair (.sl false (.int .i64)) (.pair .bool (.pair (.int .i64) .unit))))))))))], [], fun n x => laws_toRouteS n x.1⟩
theorem laws_toRouteS.seg_eq (n : Nat) (goto : Nat → St → Option (Tup [(.sl false (.pair .str (.pair (.sl false (.pair .str (.pair (.int .i64) (.pair .str .unit)))) (.pair (.sl false .str) (.pair (.int .i64) (.pair (.int .i64) (.pair (.int .i64) (.pair (.sl false (.int .i64)) (.pair .bool (.pair (.int .i64) .unit))))))))))])) (y : laws_toRouteS.Pt) : seg ⟨ty, gl, laws_toRouteS.md, calOf laws_toRouteS.T n⟩ laws_toRouteS.F.np laws_toRouteS.F.ks goto (laws_toRouteS.F.fin ⟨ty, gl, laws_toRouteS.md, calOf laws_toRouteS.T 0⟩ [(.sl false (.pair .str (.pair (.sl false (.pair .str (.pair (.int .i64) (.pair .str .unit)))) (.pair (.sl false .str) (.pair (.int .i64) (.pair (.int .i64) (.pair (.int .i64) (.pair (.sl false (.int .i64)) (.pair .bool (.pair (.int .i64) .unit))))))))))]) laws_toRouteS.F.c (laws_toRouteS.lb y) (laws_toRouteS.st y) = laws_toRouteS.step n (fun z => goto (laws_toRouteS.lb z) (laws_toRouteS.st z)) y := by
  cases y <;> kernel_rfl
theorem laws_toRouteS.text : Text Go.Proofs.Tryz.prog laws_toRouteS.F laws_toRouteS.spec := ⟨⟨Go.Proofs.Tryz.f22, by kernel_rfl, by kernel_rfl, by decide +kernel, by kernel_rfl, by kernel_rfl, of_decide_eq_true (by kernel_rfl)⟩, fun _ => rfl, fun _ => rfl, rfl⟩
theorem laws_toRouteS.ok : CtrOK Go.Proofs.Tryz.prog gl laws_toRouteS.spec :=
  ctr_ok (T := laws_toRouteS.T) (F := laws_toRouteS.F) (lb := laws_toRouteS.lb) (st := laws_toRouteS.st) (step := laws_toRouteS.step) (md := laws_toRouteS.md) tabs laws_toRouteS.text laws_toRouteS.seg_eq (fun n x => ⟨.p0 x.1, rfl, rfl, rfl⟩) (consC laws_toRoute.ok (nilC))

/-! loop.example/g00039/laws.toLabel -/
def laws_toLabel.T : List Ctr := []
def laws_toLabel.md : List (Nat × List Md) := []
noncomputable def laws_toLabel.F : Fun := ⟨(Go.Proofs.Tryz.f67.body).getD .skip, [.v (.pair .str (.pair .str .unit))], [(.cell 2 105, (.pair .str (.pair .str .unit)))], [], 0, []⟩
inductive laws_toLabel.Pt where
  | p0 (a0 : (ByteArray) × ((ByteArray) × (Unit)))
def laws_toLabel.lb : laws_toLabel.Pt → Nat
  | .p0 _ => 0
def laws_toLabel.st : laws_toLabel.Pt → St
  | .p0 a0 => enter [.v (.pair .str (.pair .str .unit)) a0] 0
def laws_toLabel.step (n : Nat) (K : laws_toLabel.Pt → Option (Tup [(.pair .str (.pair .str .unit))])) : laws_toLabel.Pt → Option (Tup [(.pair .str (.pair .str .unit))])
  | .p0 a0 => some a0
def laws_toLabel (n : Nat) (a0 : (ByteArray) × ((ByteArray) × (Unit))) : Option (Tup [(.pair .str (.pair .str .unit))]) := goRec laws_toLabel.step n (.p0 a0)
def laws_toLabel.spec : Ctr := ⟨67, [.v (.pair .str (.pair .str .unit))], [(.pair .str (.pair .str .unit))], [], fun n x => laws_toLabel n x.1⟩
theorem laws_toLabel.seg_eq (n : Nat) (goto : Nat → St → Option (Tup [(.pair .str (.pair .str .unit))])) (y : laws_toLabel.Pt) : seg ⟨ty, gl, laws_toLabel.md, calOf laws_toLabel.T n⟩ laws_toLabel.F.np laws_toLabel.F.ks goto (laws_toLabel.F.fin ⟨ty, gl, laws_toLabel.md, calOf laws_toLabel.T 0⟩ [(.pair .str (.pair .str .unit))]) laws_toLabel.F.c (laws_toLabel.lb y) (laws_toLabel.st y) = laws_toLabel.step n (fun z => goto (laws_toLabel.lb z) (laws_toLabel.st z)) y := by
  cases y <;> kernel_rfl
theorem laws_toLabel.text : Text Go.Proofs.Tryz.prog laws_toLabel.F laws_toLabel.spec := ⟨⟨Go.Proofs.Tryz.f67, by kernel_rfl, by kernel_rfl, by decide +kernel, by kernel_rfl, by kernel_rfl, of_decide_eq_true (by kernel_rfl)⟩, fun _ => rfl, fun _ => rfl, rfl⟩
theorem laws_toLabel.ok : CtrOK Go.Proofs.Tryz.prog gl laws_toLabel.spec :=
  ctr_ok (T := laws_toLabel.T) (F := laws_toLabel.F) (lb := laws_toLabel.lb) (st := laws_toLabel.st) (step := laws_toLabel.step) (md := laws_toLabel.md) tabs laws_toLabel.text laws_toLabel.seg_eq (fun n x => ⟨.p0 x.1, rfl, rfl, rfl⟩) (nilC)

/-! loop.example/g00039/laws.toLabelS -/
def laws_toLabelS.T : List Ctr := [laws_toLabel.spec]
def laws_toLabelS.md : List (Nat × List Md) := []
noncomputable def laws_toLabelS.F : Fun := ⟨(Go.Proofs.Tryz.f23.body).getD .skip, [.v (.sl false (.pair .str (.pair .str .unit)))], [(.tmp 2, (.sl false (.pair .str (.pair .str .unit))))], [], 0, [(9, ⟨[0, 3, 4], [(3, (.pair .str (.pair .str .unit)))], [], false⟩)]⟩
inductive laws_toLabelS.Pt where
  | p0 (a0 : List ((ByteArray) × ((ByteArray) × (Unit))))
  | p9 (y1 : List ((ByteArray) × ((ByteArray) × (Unit)))) (y2 : Int) (y3 : List ((ByteArray) × ((ByteArray) × (Unit))))
def laws_toLabelS.lb : laws_toLabelS.Pt → Nat
  | .p0 _ => 0
  | .p9 _ _ _ => 9
def laws_toLabelS.st : laws_toLabelS.Pt → St
  | .p0 a0 => enter [.v (.sl false (.pair .str (.pair .str .unit))) a0] 0
  | .p9 y1 y2 y3 => ⟨[(0, .im (.sl false (.pair .str (.pair .str .unit))) y1), (3, .hs 0 [] none 0), (4, .im (.int .i64) y2)], [(0, .arr false (.pair .str (.pair .str .unit)) y3 0)], 1⟩
def laws_toLabelS.step (n : Nat) (K : laws_toLabelS.Pt → Option (Tup [(.sl false (.pair .str (.pair .str .unit)))])) : laws_toLabelS.Pt → Option (Tup [(.sl false (.pair .str (.pair .str .unit)))])
  | .p0 a0 => cond (inC ((List.length a0) : Int) ((List.length a0) : Int) 1000000000) (K (.p9 a0 (0 : Int) (List.replicate (Int.toNat ((List.length a0) : Int)) (default : (ByteArray) × ((ByteArray) × (Unit)))))) (none)
  | .p9 y1 y2 y3 => cond (decide (y2 < ((List.length y1) : Int))) (cond (inB y2 (List.length y1)) ((laws_toLabel n (List.getD y1 (Int.toNat y2) default)).bind fun r6 => cond (inB y2 (List.length y3)) (K (.p9 y1 (IntKind.wrap .i64 (y2 + (1 : Int))) (List.set y3 (0 + (Int.toNat y2)) r6))) (none)) (none)) (some y3)
def laws_toLabelS (n : Nat) (a0 : List ((ByteArray) × ((ByteArray) × (Unit)))) : Option (Tup [(.sl false (.pair .str (.pair .str .unit)))]) := goRec laws_toLabelS.step n (.p0 a0)
def laws_toLabelS.spec : Ctr := ⟨23, [.v (.sl false (.pair .str (.pair .str .unit)))], [(.sl false (.pair .str (.pair .str .unit)))], [], fun n x => laws_toLabelS n x.1⟩
theorem laws_toLabelS.seg_eq (n : Nat) (goto : Nat → St → Option (Tup [(.sl false (.pair .str (.pair .str .unit)))])) (y : laws_toLabelS.Pt) : seg ⟨ty, gl, laws_toLabelS.md, calOf laws_toLabelS.T n⟩ laws_toLabelS.F.np laws_toLabelS.F.ks goto (laws_toLabelS.F.fin ⟨ty, gl, laws_toLabelS.md, calOf laws_toLabelS.T 0⟩ [(.sl false (.pair .str (.pair .str .unit)))]) laws_toLabelS.F.c (laws_toLabelS.lb y) (laws_toLabelS.st y) = laws_toLabelS.step n (fun z => goto (laws_toLabelS.lb z) (laws_toLabelS.st z)) y := by
  cases y <;> kernel_rfl
theorem laws_toLabelS.text : Text Go.Proofs.Tryz.prog laws_toLabelS.F laws_toLabelS.spec := ⟨⟨Go.Proofs.Tryz.f23, by kernel_rfl, by kernel_rfl, by decide +kernel, by kernel_rfl, by kernel_rfl, of_decide_eq_true (by kernel_rfl)⟩, fun _ => rfl, fun _ => rfl, rfl⟩
theorem laws_toLabelS.ok : CtrOK Go.Proofs.Tryz.prog gl laws_toLabelS.spec :=
  ctr_ok (T := laws_toLabelS.T) (F := laws_toLabelS.F) (lb := laws_toLabelS.lb) (st := laws_toLabelS.st) (step := laws_toLabelS.step) (md := laws_toLabelS.md) tabs laws_toLabelS.text laws_toLabelS.seg_eq (fun n x => ⟨.p0 x.1, rfl, rfl, rfl⟩) (consC laws_toLabel.ok (nilC))

/-! loop.example/g00039/spec.l2Digit -/
def spec_l2Digit.T : List Ctr := []
def spec_l2Digit.md : List (Nat × List Md) := []
noncomputable def spec_l2Digit.F : Fun := ⟨(Go.Proofs.Tryz.f130.body).getD .skip, [.v (.int .u8)], [(.tmp 2, .bool)], [], 0, []⟩
inductive spec_l2Digit.Pt where
  | p0 (a0 : Int)
def spec_l2Digit.lb : spec_l2Digit.Pt → Nat
  | .p0 _ => 0
def spec_l2Digit.st : spec_l2Digit.Pt → St
  | .p0 a0 => enter [.v (.int .u8) a0] 0
def spec_l2Digit.step (n : Nat) (K : spec_l2Digit.Pt → Option (Tup [.bool])) : spec_l2Digit.Pt → Option (Tup [.bool])
  | .p0 a0 => cond (decide ((48 : Int) ≤ a0)) (some (decide (a0 ≤ (57 : Int)))) (some false)
def spec_l2Digit (n : Nat) (a0 : Int) : Option (Tup [.bool]) := goRec spec_l2Digit.step n (.p0 a0)
def spec_l2Digit.spec : Ctr := ⟨130, [.v (.int .u8)], [.bool], [], fun n x => spec_l2Digit n x.1⟩
theorem spec_l2Digit.seg_eq (n : Nat) (goto : Nat → St → Option (Tup [.bool])) (y : spec_l2Digit.Pt) : seg ⟨ty, gl, spec_l2Digit.md, calOf spec_l2Digit.T n⟩ spec_l2Digit.F.np spec_l2Digit.F.ks goto (spec_l2Digit.F.fin ⟨ty, gl, spec_l2Digit.md, calOf spec_l2Digit.T 0⟩ [.bool]) spec_l2Digit.F.c (spec_l2Digit.lb y) (spec_l2Digit.st y) = spec_l2Digit.step n (fun z => goto (spec_l2Digit.lb z) (spec_l2Digit.st z)) y := by
  cases y <;> kernel_rfl
theorem spec_l2Digit.text : Text Go.Proofs.Tryz.prog spec_l2Digit.F spec_l2Digit.spec := ⟨⟨Go.Proofs.Tryz.f130, by kernel_rfl, by kernel_rfl, by decide +kernel, by kernel_rfl, by kernel_rfl, of_decide_eq_true (by kernel_rfl)⟩, fun _ => rfl, fun _ => rfl, rfl⟩
theorem spec_l2Digit.ok : CtrOK Go.Proofs.Tryz.prog gl spec_l2Digit.spec :=
  ctr_ok (T := spec_l2Digit.T) (F := spec_l2Digit.F) (lb := spec_l2Digit.lb) (st := spec_l2Digit.st) (step := spec_l2Digit.step) (md := spec_l2Digit.md) tabs spec_l2Digit.text spec_l2Digit.seg_eq (fun n x => ⟨.p0 x.1, rfl, rfl, rfl⟩) (nilC)

/-! loop.example/g00039/spec.l2Letter -/
def spec_l2Letter.T : List Ctr := []
def spec_l2Letter.md : List (Nat × List Md) := []
noncomputable def spec_l2Letter.F : Fun := ⟨(Go.Proofs.Tryz.f131.body).getD .skip, [.v (.int .u8)], [(.tmp 2, .bool)], [], 0, []⟩
inductive spec_l2Letter.Pt where
  | p0 (a0 : Int)
def spec_l2Letter.lb : spec_l2Letter.Pt → Nat
  | .p0 _ => 0
def spec_l2Letter.st : spec_l2Letter.Pt → St
  | .p0 a0 => enter [.v (.int .u8) a0] 0
def spec_l2Letter.step (n : Nat) (K : spec_l2Letter.Pt → Option (Tup [.bool])) : spec_l2Letter.Pt → Option (Tup [.bool])
  | .p0 a0 => cond (decide ((97 : Int) ≤ a0)) (cond (decide (a0 ≤ (122 : Int))) (some true) (cond (decide ((65 : Int) ≤ a0)) (some (decide (a0 ≤ (90 : Int)))) (some false))) (cond (decide ((65 : Int) ≤ a0)) (some (decide (a0 ≤ (90 : Int)))) (some false))
def spec_l2Letter (n : Nat) (a0 : Int) : Option (Tup [.bool]) := goRec spec_l2Letter.step n (.p0 a0)
def spec_l2Letter.spec : Ctr := ⟨131, [.v (.int .u8)], [.bool], [], fun n x => spec_l2Letter n x.1⟩
theorem spec_l2Letter.seg_eq (n : Nat) (goto : Nat → St → Option (Tup [.bool])) (y : spec_l2Letter.Pt) : seg ⟨ty, gl, spec_l2Letter.md, calOf spec_l2Letter.T n⟩ spec_l2Letter.F.np spec_l2Letter.F.ks goto (spec_l2Letter.F.fin ⟨ty, gl, spec_l2Letter.md, calOf spec_l2Letter.T 0⟩ [.bool]) spec_l2Letter.F.c (spec_l2Letter.lb y) (spec_l2Letter.st y) = spec_l2Letter.step n (fun z => goto (spec_l2Letter.lb z) (spec_l2Letter.st z)) y := by
  cases y <;> kernel_rfl
theorem spec_l2Letter.text : Text Go.Proofs.Tryz.prog spec_l2Letter.F spec_l2Letter.spec := ⟨⟨Go.Proofs.Tryz.f131, by kernel_rfl, by kernel_rfl, by decide +kernel, by kernel_rfl, by kernel_rfl, of_decide_eq_true (by kernel_rfl)⟩, fun _ => rfl, fun _ => rfl, rfl⟩
theorem spec_l2Letter.ok : CtrOK Go.Proofs.Tryz.prog gl spec_l2Letter.spec :=
  ctr_ok (T := spec_l2Letter.T) (F := spec_l2Letter.F) (lb := spec_l2Letter.lb) (st := spec_l2Letter.st) (step := spec_l2Letter.step) (md := spec_l2Letter.md) tabs spec_l2Letter.text spec_l2Letter.seg_eq (fun n x => ⟨.p0 x.1, rfl, rfl, rfl⟩) (nilC)

/-! loop.example/g00039/spec.l2Name -/
def spec_l2Name.T : List Ctr := [spec_l2Digit.spec, spec_l2Letter.spec]
def spec_l2Name.md : List (Nat × List Md) := []
noncomputable def spec_l2Name.F : Fun := ⟨(Go.Proofs.Tryz.f80.body).getD .skip, [.v .str], [(.tmp 2, .bool)], [], 0, [(4, ⟨[0, 16], [], [], false⟩), (15, ⟨[0, 3], [], [], false⟩), (24, ⟨[0, 3, 40], [], [], false⟩)]⟩
inductive spec_l2Name.Pt where
  | p0 (a0 : ByteArray)
  | p4 (y1 : ByteArray) (y2 : Bool)
  | p15 (y1 : ByteArray) (y2 : Int)
  | p24 (y1 : ByteArray) (y2 : Int) (y3 : Bool)
def spec_l2Name.lb : spec_l2Name.Pt → Nat
  | .p0 _ => 0
  | .p4 _ _ => 4
  | .p15 _ _ => 15
  | .p24 _ _ _ => 24
def spec_l2Name.st : spec_l2Name.Pt → St
  | .p0 a0 => enter [.v .str a0] 0
  | .p4 y1 y2 => ⟨[(0, .im .str y1), (16, .im .bool y2)], [], 0⟩
  | .p15 y1 y2 => ⟨[(0, .im .str y1), (3, .im (.int .i64) y2)], [], 0⟩
  | .p24 y1 y2 y3 => ⟨[(0, .im .str y1), (3, .im (.int .i64) y2), (40, .im .bool y3)], [], 0⟩
def spec_l2Name.step (n : Nat) (K : spec_l2Name.Pt → Option (Tup [.bool])) : spec_l2Name.Pt → Option (Tup [.bool])
  | .p0 a0 => cond (decide (((ByteArray.size a0) : Int) < (1 : Int))) (K (.p4 a0 true)) (cond (decide ((40 : Int) < ((ByteArray.size a0) : Int))) (K (.p4 a0 true)) (cond (inB (0 : Int) (ByteArray.size a0)) ((spec_l2Digit n (bt a0 (0 : Int))).bind fun r4 => K (.p4 a0 r4)) (none)))
  | .p4 y1 y2 => cond y2 (some false) (K (.p15 y1 (0 : Int)))
  | .p15 y1 y2 => cond (decide (y2 < ((ByteArray.size y1) : Int))) (cond (inB y2 (ByteArray.size y1)) ((spec_l2Letter n (bt y1 y2)).bind fun r5 => cond (!r5) (cond (inB y2 (ByteArray.size y1)) ((spec_l2Digit n (bt y1 y2)).bind fun r6 => cond (!r6) (cond (inB y2 (ByteArray.size y1)) (K (.p24 y1 y2 (!(decide ((bt y1 y2) = (95 : Int)))))) (none)) (K (.p24 y1 y2 false))) (none)) (K (.p24 y1 y2 false))) (none)) (some true)
  | .p24 y1 y2 y3 => cond y3 (some false) (K (.p15 y1 (IntKind.wrap .i64 (y2 + (1 : Int)))))
def spec_l2Name (n : Nat) (a0 : ByteArray) : Option (Tup [.bool]) := goRec spec_l2Name.step n (.p0 a0)
def spec_l2Name.spec : Ctr := ⟨80, [.v .str], [.bool], [], fun n x => spec_l2Name n x.1⟩
theorem spec_l2Name.seg_eq (n : Nat) (goto : Nat → St → Option (Tup [.bool])) (y : spec_l2Name.Pt) : seg ⟨ty, gl, spec_l2Name.md, calOf spec_l2Name.T n⟩ spec_l2Name.F.np spec_l2Name.F.ks goto (spec_l2Name.F.fin ⟨ty, gl, spec_l2Name.md, calOf spec_l2Name.T 0⟩ [.bool]) spec_l2Name.F.c (spec_l2Name.lb y) (spec_l2Name.st y) = spec_l2Name.step n (fun z => goto (spec_l2Name.lb z) (spec_l2Name.st z)) y := by
  cases y <;> kernel_rfl
theorem spec_l2Name.text : Text Go.Proofs.Tryz.prog spec_l2Name.F spec_l2Name.spec := ⟨⟨Go.Proofs.Tryz.f80, by kernel_rfl, by kernel_rfl, by decide +kernel, by kernel_rfl, by kernel_rfl, of_decide_eq_true (by kernel_rfl)⟩, fun _ => rfl, fun _ => rfl, rfl⟩
theorem spec_l2Name.ok : CtrOK Go.Proofs.Tryz.prog gl spec_l2Name.spec :=
  ctr_ok (T := spec_l2Name.T) (F := spec_l2Name.F) (lb := spec_l2Name.lb) (st := spec_l2Name.st) (step := spec_l2Name.step) (md := spec_l2Name.md) tabs spec_l2Name.text spec_l2Name.seg_eq (fun n x => ⟨.p0 x.1, rfl, rfl, rfl⟩) (consC spec_l2Digit.ok (consC spec_l2Letter.ok (nilC)))

/-! loop.example/g00039/spec.l2Printed -/
def spec_l2Printed.T : List Ctr := []
def spec_l2Printed.md : List (Nat × List Md) := []
noncomputable def spec_l2Printed.F : Fun := ⟨(Go.Proofs.Tryz.f132.body).getD .skip, [.v .str], [(.tmp 2, .bool)], [], 0, [(7, ⟨[0, 3], [], [], false⟩)]⟩
inductive spec_l2Printed.Pt where
  | p0 (a0 : ByteArray)
  | p7 (y1 : ByteArray) (y2 : Int)
def spec_l2Printed.lb : spec_l2Printed.Pt → Nat
  | .p0 _ => 0
  | .p7 _ _ => 7
def spec_l2Printed.st : spec_l2Printed.Pt → St
  | .p0 a0 => enter [.v .str a0] 0
  | .p7 y1 y2 => ⟨[(0, .im .str y1), (3, .im (.int .i64) y2)], [], 0⟩
def spec_l2Printed.step (n : Nat) (K : spec_l2Printed.Pt → Option (Tup [.bool])) : spec_l2Printed.Pt → Option (Tup [.bool])
  | .p0 a0 => K (.p7 a0 (0 : Int))
  | .p7 y1 y2 => cond (decide (y2 < ((ByteArray.size y1) : Int))) (cond (inB y2 (ByteArray.size y1)) (cond (decide ((bt y1 y2) < (32 : Int))) (some false) (cond (inB y2 (ByteArray.size y1)) (cond (decide ((126 : Int) < (bt y1 y2))) (some false) (K (.p7 y1 (IntKind.wrap .i64 (y2 + (1 : Int)))))) (none))) (none)) (some true)
def spec_l2Printed (n : Nat) (a0 : ByteArray) : Option (Tup [.bool]) := goRec spec_l2Printed.step n (.p0 a0)
def spec_l2Printed.spec : Ctr := ⟨132, [.v .str], [.bool], [], fun n x => spec_l2Printed n x.1⟩
theorem spec_l2Printed.seg_eq (n : Nat) (goto : Nat → St → Option (Tup [.bool])) (y : spec_l2Printed.Pt) : seg ⟨ty, gl, spec_l2Printed.md, calOf spec_l2Printed.T n⟩ spec_l2Printed.F.np spec_l2Printed.F.ks goto (spec_l2Printed.F.fin ⟨ty, gl, spec_l2Printed.md, calOf spec_l2Printed.T 0⟩ [.bool]) spec_l2Printed.F.c (spec_l2Printed.lb y) (spec_l2Printed.st y) = spec_l2Printed.step n (fun z => goto (spec_l2Printed.lb z) (spec_l2Printed.st z)) y := by
  cases y <;> kernel_rfl
theorem spec_l2Printed.text : Text Go.Proofs.Tryz.prog spec_l2Printed.F spec_l2Printed.spec := ⟨⟨Go.Proofs.Tryz.f132, by kernel_rfl, by kernel_rfl, by decide +kernel, by kernel_rfl, by kernel_rfl, of_decide_eq_true (by kernel_rfl)⟩, fun _ => rfl, fun _ => rfl, rfl⟩
theorem spec_l2Printed.ok : CtrOK Go.Proofs.Tryz.prog gl spec_l2Printed.spec :=
  ctr_ok (T := spec_l2Printed.T) (F := spec_l2Printed.F) (lb := spec_l2Printed.lb) (st := spec_l2Printed.st) (step := spec_l2Printed.step) (md := spec_l2Printed.md) tabs spec_l2Printed.text spec_l2Printed.seg_eq (fun n x => ⟨.p0 x.1, rfl, rfl, rfl⟩) (nilC)

/-! loop.example/g00039/spec.l2Alternatives -/
def spec_l2Alternatives.T : List Ctr := [spec_l2Printed.spec]
def spec_l2Alternatives.md : List (Nat × List Md) := []
noncomputable def spec_l2Alternatives.F : Fun := ⟨(Go.Proofs.Tryz.f178.body).getD .skip, [.v .str], [(.tmp 2, (.sl false (.sl false (.int .i64)))), (.tmp 3, .bool)], [], 0, [(8, ⟨[0, 4, 5, 14], [(4, (.sl false (.int .i64))), (5, (.int .i64))], [], false⟩), (19, ⟨[0, 4, 5, 6], [(4, (.sl false (.int .i64))), (5, (.int .i64))], [], false⟩), (51, ⟨[0, 4, 5, 6, 78], [(4, (.sl false (.int .i64))), (5, (.int .i64))], [], false⟩)]⟩
inductive spec_l2Alternatives.Pt where
  | p0 (a0 : ByteArray)
  | p8 (y1 : ByteArray) (y2 : Bool) (y3 : List (List (Int))) (y4 : List (Int))
  | p19 (y1 : ByteArray) (y2 : Int) (y3 : List (List (Int))) (y4 : List (Int))
  | p51 (y1 : ByteArray) (y2 : Int) (y3 : Bool) (y4 : List (List (Int))) (y5 : List (Int))
def spec_l2Alternatives.lb : spec_l2Alternatives.Pt → Nat
  | .p0 _ => 0
  | .p8 _ _ _ _ => 8
  | .p19 _ _ _ _ => 19
  | .p51 _ _ _ _ _ => 51
def spec_l2Alternatives.st : spec_l2Alternatives.Pt → St
  | .p0 a0 => enter [.v .str a0] 0
  | .p8 y1 y2 y3 y4 => ⟨[(0, .im .str y1), (4, .hs 0 [] none 0), (5, .hs 1 [] none 0), (14, .im .bool y2)], [(0, .arr true (.sl false (.int .i64)) y3 0), (1, .arr true (.int .i64) y4 0)], 2⟩
  | .p19 y1 y2 y3 y4 => ⟨[(0, .im .str y1), (4, .hs 0 [] none 0), (5, .hs 1 [] none 0), (6, .im (.int .i64) y2)], [(0, .arr true (.sl false (.int .i64)) y3 0), (1, .arr true (.int .i64) y4 0)], 2⟩
  | .p51 y1 y2 y3 y4 y5 => ⟨[(0, .im .str y1), (4, .hs 0 [] none 0), (5, .hs 1 [] none 0), (6, .im (.int .i64) y2), (78, .im .bool y3)], [(0, .arr true (.sl false (.int .i64)) y4 0), (1, .arr true (.int .i64) y5 0)], 2⟩
def spec_l2Alternatives.step (n : Nat) (K : spec_l2Alternatives.Pt → Option (Tup [(.sl false (.sl false (.int .i64))), .bool])) : spec_l2Alternatives.Pt → Option (Tup [(.sl false (.sl false (.int .i64))), .bool])
  | .p0 a0 => cond (decide ((100 : Int) < ((ByteArray.size a0) : Int))) (K (.p8 a0 true ([] : List (List (Int))) ([] : List (Int)))) ((spec_l2Printed n a0).bind fun r4 => K (.p8 a0 (!r4) ([] : List (List (Int))) ([] : List (Int))))
  | .p8 y1 y2 y3 y4 => cond y2 (some (([] : List (List (Int))), false)) (K (.p19 y1 (0 : Int) y3 y4))
  | .p19 y1 y2 y3 y4 => cond (decide (y2 < ((ByteArray.size y1) : Int))) (cond (inB y2 (ByteArray.size y1)) (cond (decide ((bt y1 y2) = (124 : Int))) (cond (room ((List.length y3) + (List.length [y4]))) (K (.p19 y1 (IntKind.wrap .i64 (y2 + (1 : Int))) (y3 ++ [y4]) ([] : List (Int)))) (none)) (cond (decide ((bt y1 y2) = (42 : Int))) (cond (room ((List.length y4) + (List.length [(-(1 : Int))]))) (K (.p19 y1 (IntKind.wrap .i64 (y2 + (1 : Int))) y3 (y4 ++ [(-(1 : Int))]))) (none)) (cond (decide ((bt y1 y2) = (63 : Int))) (cond (room ((List.length y4) + (List.length [(-(2 : Int))]))) (K (.p19 y1 (IntKind.wrap .i64 (y2 + (1 : Int))) y3 (y4 ++ [(-(2 : Int))]))) (none)) (cond (decide ((bt y1 y2) = (92 : Int))) (cond (decide ((IntKind.wrap .i64 (y2 + (1 : Int))) = ((ByteArray.size y1) : Int))) (K (.p51 y1 (IntKind.wrap .i64 (y2 + (1 : Int))) true y3 y4)) (cond (inB (IntKind.wrap .i64 (y2 + (1 : Int))) (ByteArray.size y1)) (cond (!(decide ((bt y1 (IntKind.wrap .i64 (y2 + (1 : Int)))) = (42 : Int)))) (cond (inB (IntKind.wrap .i64 (y2 + (1 : Int))) (ByteArray.size y1)) (cond (!(decide ((bt y1 (IntKind.wrap .i64 (y2 + (1 : Int)))) = (63 : Int)))) (cond (inB (IntKind.wrap .i64 (y2 + (1 : Int))) (ByteArray.size y1)) (cond (!(decide ((bt y1 (IntKind.wrap .i64 (y2 + (1 : Int)))) = (124 : Int)))) (cond (inB (IntKind.wrap .i64 (y2 + (1 : Int))) (ByteArray.size y1)) (K (.p51 y1 (IntKind.wrap .i64 (y2 + (1 : Int))) (!(decide ((bt y1 (IntKind.wrap .i64 (y2 + (1 : Int)))) = (92 : Int)))) y3 y4)) (none)) (K (.p51 y1 (IntKind.wrap .i64 (y2 + (1 : Int))) false y3 y4))) (none)) (K (.p51 y1 (IntKind.wrap .i64 (y2 + (1 : Int))) false y3 y4))) (none)) (K (.p51 y1 (IntKind.wrap .i64 (y2 + (1 : Int))) false y3 y4))) (none))) (cond (inB y2 (ByteArray.size y1)) (cond (room ((List.length y4) + (List.length [(IntKind.wrap .i64 (bt y1 y2))]))) (K (.p19 y1 (IntKind.wrap .i64 (y2 + (1 : Int))) y3 (y4 ++ [(IntKind.wrap .i64 (bt y1 y2))]))) (none)) (none)))))) (none)) (cond (room ((List.length y3) + (List.length [y4]))) (some ((y3 ++ [y4]), true)) (none))
  | .p51 y1 y2 y3 y4 y5 => cond y3 (some (([] : List (List (Int))), false)) (cond (inB y2 (ByteArray.size y1)) (cond (room ((List.length y5) + (List.length [(IntKind.wrap .i64 (bt y1 y2))]))) (K (.p19 y1 (IntKind.wrap .i64 (y2 + (1 : Int))) y4 (y5 ++ [(IntKind.wrap .i64 (bt y1 y2))]))) (none)) (none))
def spec_l2Alternatives (n : Nat) (a0 : ByteArray) : Option (Tup [(.sl false (.sl false (.int .i64))), .bool]) := goRec spec_l2Alternatives.step n (.p0 a0)
def spec_l2Alternatives.spec : Ctr := ⟨178, [.v .str], [(.sl false (.sl false (.int .i64))), .bool], [], fun n x => spec_l2Alternatives n x.1⟩
theorem spec_l2Alternatives.seg_eq (n : Nat) (goto : Nat → St → Option (Tup [(.sl false (.sl false (.int .i64))), .bool])) (y : spec_l2Alternatives.Pt) : seg ⟨ty, gl, spec_l2Alternatives.md, calOf spec_l2Alternatives.T n⟩ spec_l2Alternatives.F.np spec_l2Alternatives.F.ks goto (spec_l2Alternatives.F.fin ⟨ty, gl, spec_l2Alternatives.md, calOf spec_l2Alternatives.T 0⟩ [(.sl false (.sl false (.int .i64))), .bool]) spec_l2Alternatives.F.c (spec_l2Alternatives.lb y) (spec_l2Alternatives.st y) = spec_l2Alternatives.step n (fun z => goto (spec_l2Alternatives.lb z) (spec_l2Alternatives.st z)) y := by
  cases y <;> kernel_rfl
theorem spec_l2Alternatives.text : Text Go.Proofs.Tryz.prog spec_l2Alternatives.F spec_l2Alternatives.spec := ⟨⟨Go.Proofs.Tryz.f178, by kernel_rfl, by kernel_rfl, by decide +kernel, by kernel_rfl, by kernel_rfl, of_decide_eq_true (by kernel_rfl)⟩, fun _ => rfl, fun _ => rfl, rfl⟩
theorem spec_l2Alternatives.ok : CtrOK Go.Proofs.Tryz.prog gl spec_l2Alternatives.spec :=
  ctr_ok (T := spec_l2Alternatives.T) (F := spec_l2Alternatives.F) (lb := spec_l2Alternatives.lb) (st := spec_l2Alternatives.st) (step := spec_l2Alternatives.step) (md := spec_l2Alternatives.md) tabs spec_l2Alternatives.text spec_l2Alternatives.seg_eq (fun n x => ⟨.p0 x.1, rfl, rfl, rfl⟩) (consC spec_l2Printed.ok (nilC))

/-! loop.example/g00039/spec.GoodPattern -/
def spec_GoodPattern.T : List Ctr := [spec_l2Alternatives.spec]
def spec_GoodPattern.md : List (Nat × List Md) := []
noncomputable def spec_GoodPattern.F : Fun := ⟨(Go.Proofs.Tryz.f133.body).getD .skip, [.v .str], [(.tmp 2, .bool)], [], 0, []⟩
inductive spec_GoodPattern.Pt where
  | p0 (a0 : ByteArray)
def spec_GoodPattern.lb : spec_GoodPattern.Pt → Nat
  | .p0 _ => 0
def spec_GoodPattern.st : spec_GoodPattern.Pt → St
  | .p0 a0 => enter [.v .str a0] 0
def spec_GoodPattern.step (n : Nat) (K : spec_GoodPattern.Pt → Option (Tup [.bool])) : spec_GoodPattern.Pt → Option (Tup [.bool])
  | .p0 a0 => (spec_l2Alternatives n a0).bind fun r4 => some r4.2
def spec_GoodPattern (n : Nat) (a0 : ByteArray) : Option (Tup [.bool]) := goRec spec_GoodPattern.step n (.p0 a0)
def spec_GoodPattern.spec : Ctr := ⟨133, [.v .str], [.bool], [], fun n x => spec_GoodPattern n x.1⟩
theorem spec_GoodPattern.seg_eq (n : Nat) (goto : Nat → St → Option (Tup [.bool])) (y : spec_GoodPattern.Pt) : seg ⟨ty, gl, spec_GoodPattern.md, calOf spec_GoodPattern.T n⟩ spec_GoodPattern.F.np spec_GoodPattern.F.ks goto (spec_GoodPattern.F.fin ⟨ty, gl, spec_GoodPattern.md, calOf spec_GoodPattern.T 0⟩ [.bool]) spec_GoodPattern.F.c (spec_GoodPattern.lb y) (spec_GoodPattern.st y) = spec_GoodPattern.step n (fun z => goto (spec_GoodPattern.lb z) (spec_GoodPattern.st z)) y := by
  cases y <;> kernel_rfl
theorem spec_GoodPattern.text : Text Go.Proofs.Tryz.prog spec_GoodPattern.F spec_GoodPattern.spec := ⟨⟨Go.Proofs.Tryz.f133, by kernel_rfl, by kernel_rfl, by decide +kernel, by kernel_rfl, by kernel_rfl, of_decide_eq_true (by kernel_rfl)⟩, fun _ => rfl, fun _ => rfl, rfl⟩
theorem spec_GoodPattern.ok : CtrOK Go.Proofs.Tryz.prog gl spec_GoodPattern.spec :=
  ctr_ok (T := spec_GoodPattern.T) (F := spec_GoodPattern.F) (lb := spec_GoodPattern.lb) (st := spec_GoodPattern.st) (step := spec_GoodPattern.step) (md := spec_GoodPattern.md) tabs spec_GoodPattern.text spec_GoodPattern.seg_eq (fun n x => ⟨.p0 x.1, rfl, rfl, rfl⟩) (consC spec_l2Alternatives.ok (nilC))

/-! loop.example/g00039/spec.GoodMatchers -/
def spec_GoodMatchers.T : List Ctr := [spec_l2Name.spec, spec_l2Printed.spec, spec_GoodPattern.spec]
def spec_GoodMatchers.md : List (Nat × List Md) := []
noncomputable def spec_GoodMatchers.F : Fun := ⟨(Go.Proofs.Tryz.f81.body).getD .skip, [.v (.sl false (.pair .str (.pair (.int .i64) (.pair .str .unit))))], [(.tmp 2, .bool)], [], 0, [(15, ⟨[8, 9, 10], [(8, (.pair .str (.pair (.int .i64) (.pair .str .unit))))], [], false⟩), (26, ⟨[8, 9, 10, 50], [(8, (.pair .str (.pair (.int .i64) (.pair .str .unit))))], [], false⟩)]⟩
inductive spec_GoodMatchers.Pt where
  | p0 (a0 : List ((ByteArray) × ((Int) × ((ByteArray) × (Unit)))))
  | p15 (y1 : List ((ByteArray) × ((Int) × ((ByteArray) × (Unit))))) (y2 : Int) (y3 : Int)
  | p26 (y1 : List ((ByteArray) × ((Int) × ((ByteArray) × (Unit))))) (y2 : Int) (y3 : Int) (y4 : Bool)
def spec_GoodMatchers.lb : spec_GoodMatchers.Pt → Nat
  | .p0 _ => 0
  | .p15 _ _ _ => 15
  | .p26 _ _ _ _ => 26
def spec_GoodMatchers.st : spec_GoodMatchers.Pt → St
  | .p0 a0 => enter [.v (.sl false (.pair .str (.pair (.int .i64) (.pair .str .unit)))) a0] 0
  | .p15 y1 y2 y3 => ⟨[(8, .im (.sl false (.pair .str (.pair (.int .i64) (.pair .str .unit)))) y1), (9, .im (.int .i64) y2), (10, .im (.int .i64) y3)], [], 0⟩
  | .p26 y1 y2 y3 y4 => ⟨[(8, .im (.sl false (.pair .str (.pair (.int .i64) (.pair .str .unit)))) y1), (9, .im (.int .i64) y2), (10, .im (.int .i64) y3), (50, .im .bool y4)], [], 0⟩
def spec_GoodMatchers.step (n : Nat) (K : spec_GoodMatchers.Pt → Option (Tup [.bool])) : spec_GoodMatchers.Pt → Option (Tup [.bool])
  | .p0 a0 => cond (decide ((10 : Int) < ((List.length a0) : Int))) (some false) (K (.p15 a0 ((List.length a0) : Int) (0 : Int)))
  | .p15 y1 y2 y3 => cond (decide (y3 < y2)) (cond (inB y3 (List.length y1)) ((spec_l2Name n (List.getD y1 (Int.toNat y3) default).1).bind fun r6 => cond (!r6) (K (.p26 y1 y2 y3 true)) (cond (decide ((List.getD y1 (Int.toNat y3) default).2.1 < (1 : Int))) (K (.p26 y1 y2 y3 true)) (cond (decide ((4 : Int) < (List.getD y1 (Int.toNat y3) default).2.1)) (K (.p26 y1 y2 y3 true)) (cond (decide ((100 : Int) < ((ByteArray.size (List.getD y1 (Int.toNat y3) default).2.2.1) : Int))) (K (.p26 y1 y2 y3 true)) ((spec_l2Printed n (List.getD y1 (Int.toNat y3) default).2.2.1).bind fun r7 => cond (!r7) (K (.p26 y1 y2 y3 true)) (cond (decide ((3 : Int) ≤ (List.getD y1 (Int.toNat y3) default).2.1)) ((spec_GoodPattern n (List.getD y1 (Int.toNat y3) default).2.2.1).bind fun r8 => K (.p26 y1 y2 y3 (!r8))) (K (.p26 y1 y2 y3 false)))))))) (none)) (some true)
  | .p26 y1 y2 y3 y4 => cond y4 (some false) (K (.p15 y1 y2 (IntKind.wrap .i64 (y3 + (1 : Int)))))
def spec_GoodMatchers (n : Nat) (a0 : List ((ByteArray) × ((Int) × ((ByteArray) × (Unit))))) : Option (Tup [.bool]) := goRec spec_GoodMatchers.step n (.p0 a0)
def spec_GoodMatchers.spec : Ctr := ⟨81, [.v (.sl false (.pair .str (.pair (.int .i64) (.pair .str .unit))))], [.bool], [], fun n x => spec_GoodMatchers n x.1⟩
theorem spec_GoodMatchers.seg_eq (n : Nat) (goto : Nat → St → Option (Tup [.bool])) (y : spec_GoodMatchers.Pt) : seg ⟨ty, gl, spec_GoodMatchers.md, calOf spec_GoodMatchers.T n⟩ spec_GoodMatchers.F.np spec_GoodMatchers.F.ks goto (spec_GoodMatchers.F.fin ⟨ty, gl, spec_GoodMatchers.md, calOf spec_GoodMatchers.T 0⟩ [.bool]) spec_GoodMatchers.F.c (spec_GoodMatchers.lb y) (spec_GoodMatchers.st y) = spec_GoodMatchers.step n (fun z => goto (spec_GoodMatchers.lb z) (spec_GoodMatchers.st z)) y := by
  cases y <;> kernel_rfl
theorem spec_GoodMatchers.text : Text Go.Proofs.Tryz.prog spec_GoodMatchers.F spec_GoodMatchers.spec := ⟨⟨Go.Proofs.Tryz.f81, by kernel_rfl, by kernel_rfl, by decide +kernel, by kernel_rfl, by kernel_rfl, of_decide_eq_true (by kernel_rfl)⟩, fun _ => rfl, fun _ => rfl, rfl⟩
theorem spec_GoodMatchers.ok : CtrOK Go.Proofs.Tryz.prog gl spec_GoodMatchers.spec :=
  ctr_ok (T := spec_GoodMatchers.T) (F := spec_GoodMatchers.F) (lb := spec_GoodMatchers.lb) (st := spec_GoodMatchers.st) (step := spec_GoodMatchers.step) (md := spec_GoodMatchers.md) tabs spec_GoodMatchers.text spec_GoodMatchers.seg_eq (fun n x => ⟨.p0 x.1, rfl, rfl, rfl⟩) (consC spec_l2Name.ok (consC spec_l2Printed.ok (consC spec_GoodPattern.ok (nilC))))

/-! loop.example/g00039/spec.l2CmpNum -/
def spec_l2CmpNum.T : List Ctr := []
def spec_l2CmpNum.md : List (Nat × List Md) := []
noncomputable def spec_l2CmpNum.F : Fun := ⟨(Go.Proofs.Tryz.f134.body).getD .skip, [.v (.int .i64), .v (.int .i64)], [(.tmp 4, (.int .i64))], [], 0, []⟩
inductive spec_l2CmpNum.Pt where
  | p0 (a0 : Int) (a1 : Int)
def spec_l2CmpNum.lb : spec_l2CmpNum.Pt → Nat
  | .p0 _ _ => 0
def spec_l2CmpNum.st : spec_l2CmpNum.Pt → St
  | .p0 a0 a1 => enter [.v (.int .i64) a0, .v (.int .i64) a1] 0
def spec_l2CmpNum.step (n : Nat) (K : spec_l2CmpNum.Pt → Option (Tup [(.int .i64)])) : spec_l2CmpNum.Pt → Option (Tup [(.int .i64)])
  | .p0 a0 a1 => cond (decide (a0 < a1)) (some (-(1 : Int))) (cond (decide (a1 < a0)) (some (1 : Int)) (some (0 : Int)))
def spec_l2CmpNum (n : Nat) (a0 : Int) (a1 : Int) : Option (Tup [(.int .i64)]) := goRec spec_l2CmpNum.step n (.p0 a0 a1)
def spec_l2CmpNum.spec : Ctr := ⟨134, [.v (.int .i64), .v (.int .i64)], [(.int .i64)], [], fun n x => spec_l2CmpNum n x.1 x.2.1⟩
theorem spec_l2CmpNum.seg_eq (n : Nat) (goto : Nat → St → Option (Tup [(.int .i64)])) (y : spec_l2CmpNum.Pt) : seg ⟨ty, gl, spec_l2CmpNum.md, calOf spec_l2CmpNum.T n⟩ spec_l2CmpNum.F.np spec_l2CmpNum.F.ks goto (spec_l2CmpNum.F.fin ⟨ty, gl, spec_l2CmpNum.md, calOf spec_l2CmpNum.T 0⟩ [(.int .i64)]) spec_l2CmpNum.F.c (spec_l2CmpNum.lb y) (spec_l2CmpNum.st y) = spec_l2CmpNum.step n (fun z => goto (spec_l2CmpNum.lb z) (spec_l2CmpNum.st z)) y := by
  cases y <;> kernel_rfl
theorem spec_l2CmpNum.text : Text Go.Proofs.Tryz.prog spec_l2CmpNum.F spec_l2CmpNum.spec := ⟨⟨Go.Proofs.Tryz.f134, by kernel_rfl, by kernel_rfl, by decide +kernel, by kernel_rfl, by kernel_rfl, of_decide_eq_true (by kernel_rfl)⟩, fun _ => rfl, fun _ => rfl, rfl⟩
theorem spec_l2CmpNum.ok : CtrOK Go.Proofs.Tryz.prog gl spec_l2CmpNum.spec :=
  ctr_ok (T := spec_l2CmpNum.T) (F := spec_l2CmpNum.F) (lb := spec_l2CmpNum.lb) (st := spec_l2CmpNum.st) (step := spec_l2CmpNum.step) (md := spec_l2CmpNum.md) tabs spec_l2CmpNum.text spec_l2CmpNum.seg_eq (fun n x => ⟨.p0 x.1 x.2.1, rfl, rfl, rfl⟩) (nilC)

/-! loop.example/g00039/spec.l2CmpText -/
def spec_l2CmpText.T : List Ctr := [spec_l2CmpNum.spec]
def spec_l2CmpText.md : List (Nat × List Md) := []
noncomputable def spec_l2CmpText.F : Fun := ⟨(Go.Proofs.Tryz.f82.body).getD .skip, [.v .str, .v .str], [(.tmp 4, (.int .i64))], [], 0, [(7, ⟨[0, 1, 5], [], [], false⟩), (9, ⟨[0, 1, 5, 15], [], [], false⟩)]⟩
inductive spec_l2CmpText.Pt where
  | p0 (a0 : ByteArray) (a1 : ByteArray)
  | p7 (y1 : ByteArray) (y2 : ByteArray) (y3 : Int)
  | p9 (y1 : ByteArray) (y2 : ByteArray) (y3 : Int) (y4 : Bool)
def spec_l2CmpText.lb : spec_l2CmpText.Pt → Nat
  | .p0 _ _ => 0
  | .p7 _ _ _ => 7
  | .p9 _ _ _ _ => 9
def spec_l2CmpText.st : spec_l2CmpText.Pt → St
  | .p0 a0 a1 => enter [.v .str a0, .v .str a1] 0
  | .p7 y1 y2 y3 => ⟨[(0, .im .str y1), (1, .im .str y2), (5, .im (.int .i64) y3)], [], 0⟩
  | .p9 y1 y2 y3 y4 => ⟨[(0, .im .str y1), (1, .im .str y2), (5, .im (.int .i64) y3), (15, .im .bool y4)], [], 0⟩
def spec_l2CmpText.step (n : Nat) (K : spec_l2CmpText.Pt → Option (Tup [(.int .i64)])) : spec_l2CmpText.Pt → Option (Tup [(.int .i64)])
  | .p0 a0 a1 => K (.p7 a0 a1 (0 : Int))
  | .p7 y1 y2 y3 => cond (decide (y3 < ((ByteArray.size y1) : Int))) (K (.p9 y1 y2 y3 (decide (y3 < ((ByteArray.size y2) : Int))))) (K (.p9 y1 y2 y3 false))
  | .p9 y1 y2 y3 y4 => cond y4 (cond (inB y3 (ByteArray.size y1)) (cond (inB y3 (ByteArray.size y2)) (cond (!(decide ((bt y1 y3) = (bt y2 y3)))) (cond (inB y3 (ByteArray.size y1)) (cond (inB y3 (ByteArray.size y2)) ((spec_l2CmpNum n (IntKind.wrap .i64 (bt y1 y3)) (IntKind.wrap .i64 (bt y2 y3))).bind fun (r7 : Int) => some r7) (none)) (none)) (K (.p7 y1 y2 (IntKind.wrap .i64 (y3 + (1 : Int)))))) (none)) (none)) ((spec_l2CmpNum n ((ByteArray.size y1) : Int) ((ByteArray.size y2) : Int)).bind fun (r7 : Int) => some r7)
def spec_l2CmpText (n : Nat) (a0 : ByteArray) (a1 : ByteArray) : Option (Tup [(.int .i64)]) := goRec spec_l2CmpText.step n (.p0 a0 a1)
def spec_l2CmpText.spec : Ctr := ⟨82, [.v .str, .v .str], [(.int .i64)], [], fun n x => spec_l2CmpText n x.1 x.2.1⟩
theorem spec_l2CmpText.seg_eq (n : Nat) (goto : Nat → St → Option (Tup [(.int .i64)])) (y : spec_l2CmpText.Pt) : seg ⟨ty, gl, spec_l2CmpText.md, calOf spec_l2CmpText.T n⟩ spec_l2CmpText.F.np spec_l2CmpText.F.ks goto (spec_l2CmpText.F.fin ⟨ty, gl, spec_l2CmpText.md, calOf spec_l2CmpText.T 0⟩ [(.int .i64)]) spec_l2CmpText.F.c (spec_l2CmpText.lb y) (spec_l2CmpText.st y) = spec_l2CmpText.step n (fun z => goto (spec_l2CmpText.lb z) (spec_l2CmpText.st z)) y := by
  cases y <;> kernel_rfl
theorem spec_l2CmpText.text : Text Go.Proofs.Tryz.prog spec_l2CmpText.F spec_l2CmpText.spec := ⟨⟨Go.Proofs.Tryz.f82, by kernel_rfl, by kernel_rfl, by decide +kernel, by kernel_rfl, by kernel_rfl, of_decide_eq_true (by kernel_rfl)⟩, fun _ => rfl, fun _ => rfl, rfl⟩
theorem spec_l2CmpText.ok : CtrOK Go.Proofs.Tryz.prog gl spec_l2CmpText.spec :=
  ctr_ok (T := spec_l2CmpText.T) (F := spec_l2CmpText.F) (lb := spec_l2CmpText.lb) (st := spec_l2CmpText.st) (step := spec_l2CmpText.step) (md := spec_l2CmpText.md) tabs spec_l2CmpText.text spec_l2CmpText.seg_eq (fun n x => ⟨.p0 x.1 x.2.1, rfl, rfl, rfl⟩) (consC spec_l2CmpNum.ok (nilC))

/-! loop.example/g00039/spec.l2Rising -/
def spec_l2Rising.T : List Ctr := [spec_l2CmpText.spec]
def spec_l2Rising.md : List (Nat × List Md) := []
noncomputable def spec_l2Rising.F : Fun := ⟨(Go.Proofs.Tryz.f135.body).getD .skip, [.v (.sl false .str)], [(.tmp 2, .bool)], [], 0, [(7, ⟨[0, 3], [], [], false⟩)]⟩
inductive spec_l2Rising.Pt where
  | p0 (a0 : List (ByteArray))
  | p7 (y1 : List (ByteArray)) (y2 : Int)
def spec_l2Rising.lb : spec_l2Rising.Pt → Nat
  | .p0 _ => 0
  | .p7 _ _ => 7
def spec_l2Rising.st : spec_l2Rising.Pt → St
  | .p0 a0 => enter [.v (.sl false .str) a0] 0
  | .p7 y1 y2 => ⟨[(0, .im (.sl false .str) y1), (3, .im (.int .i64) y2)], [], 0⟩
def spec_l2Rising.step (n : Nat) (K : spec_l2Rising.Pt → Option (Tup [.bool])) : spec_l2Rising.Pt → Option (Tup [.bool])
  | .p0 a0 => K (.p7 a0 (1 : Int))
  | .p7 y1 y2 => cond (decide (y2 < ((List.length y1) : Int))) (cond (inB (IntKind.wrap .i64 (y2 - (1 : Int))) (List.length y1)) (cond (inB y2 (List.length y1)) ((spec_l2CmpText n (List.getD y1 (Int.toNat (IntKind.wrap .i64 (y2 - (1 : Int)))) default) (List.getD y1 (Int.toNat y2) default)).bind fun (r5 : Int) => cond (decide ((0 : Int) ≤ r5)) (some false) (K (.p7 y1 (IntKind.wrap .i64 (y2 + (1 : Int)))))) (none)) (none)) (some true)
def spec_l2Rising (n : Nat) (a0 : List (ByteArray)) : Option (Tup [.bool]) := goRec spec_l2Rising.step n (.p0 a0)
def spec_l2Rising.spec : Ctr := ⟨135, [.v (.sl false .str)], [.bool], [], fun n x => spec_l2Rising n x.1⟩
theorem spec_l2Rising.seg_eq (n : Nat) (goto : Nat → St → Option (Tup [.bool])) (y : spec_l2Rising.Pt) : seg ⟨ty, gl, spec_l2Rising.md, calOf spec_l2Rising.T n⟩ spec_l2Rising.F.np spec_l2Rising.F.ks goto (spec_l2Rising.F.fin ⟨ty, gl, spec_l2Rising.md, calOf spec_l2Rising.T 0⟩ [.bool]) spec_l2Rising.F.c (spec_l2Rising.lb y) (spec_l2Rising.st y) = spec_l2Rising.step n (fun z => goto (spec_l2Rising.lb z) (spec_l2Rising.st z)) y := by
  cases y <;> kernel_rfl
theorem spec_l2Rising.text : Text Go.Proofs.Tryz.prog spec_l2Rising.F spec_l2Rising.spec := ⟨⟨Go.Proofs.Tryz.f135, by kernel_rfl, by kernel_rfl, by decide +kernel, by kernel_rfl, by kernel_rfl, of_decide_eq_true (by kernel_rfl)⟩, fun _ => rfl, fun _ => rfl, rfl⟩
theorem spec_l2Rising.ok : CtrOK Go.Proofs.Tryz.prog gl spec_l2Rising.spec :=
  ctr_ok (T := spec_l2Rising.T) (F := spec_l2Rising.F) (lb := spec_l2Rising.lb) (st := spec_l2Rising.st) (step := spec_l2Rising.step) (md := spec_l2Rising.md) tabs spec_l2Rising.text spec_l2Rising.seg_eq (fun n x => ⟨.p0 x.1, rfl, rfl, rfl⟩) (consC spec_l2CmpText.ok (nilC))

/-! loop.example/g00039/spec.l15Names -/
def spec_l15Names.T : List Ctr := [spec_l2Name.spec, spec_l2Rising.spec]
def spec_l15Names.md : List (Nat × List Md) := []
noncomputable def spec_l15Names.F : Fun := ⟨(Go.Proofs.Tryz.f83.body).getD .skip, [.v (.sl false .str)], [(.tmp 2, .bool)], [], 0, [(7, ⟨[0, 5, 6, 7], [(5, .str)], [], false⟩)]⟩
inductive spec_l15Names.Pt where
  | p0 (a0 : List (ByteArray))
  | p7 (y1 : List (ByteArray)) (y2 : List (ByteArray)) (y3 : Int) (y4 : Int)
def spec_l15Names.lb : spec_l15Names.Pt → Nat
  | .p0 _ => 0
  | .p7 _ _ _ _ => 7
def spec_l15Names.st : spec_l15Names.Pt → St
  | .p0 a0 => enter [.v (.sl false .str) a0] 0
  | .p7 y1 y2 y3 y4 => ⟨[(0, .im (.sl false .str) y1), (5, .im (.sl false .str) y2), (6, .im (.int .i64) y3), (7, .im (.int .i64) y4)], [], 0⟩
def spec_l15Names.step (n : Nat) (K : spec_l15Names.Pt → Option (Tup [.bool])) : spec_l15Names.Pt → Option (Tup [.bool])
  | .p0 a0 => K (.p7 a0 a0 ((List.length a0) : Int) (0 : Int))
  | .p7 y1 y2 y3 y4 => cond (decide (y4 < y3)) (cond (inB y4 (List.length y2)) ((spec_l2Name n (List.getD y2 (Int.toNat y4) default)).bind fun r7 => cond (!r7) (some false) (K (.p7 y1 y2 y3 (IntKind.wrap .i64 (y4 + (1 : Int)))))) (none)) (cond (decide (((List.length y1) : Int) ≤ (10 : Int))) ((spec_l2Rising n y1).bind fun r7 => some r7) (some false))
def spec_l15Names (n : Nat) (a0 : List (ByteArray)) : Option (Tup [.bool]) := goRec spec_l15Names.step n (.p0 a0)
def spec_l15Names.spec : Ctr := ⟨83, [.v (.sl false .str)], [.bool], [], fun n x => spec_l15Names n x.1⟩
theorem spec_l15Names.seg_eq (n : Nat) (goto : Nat → St → Option (Tup [.bool])) (y : spec_l15Names.Pt) : seg ⟨ty, gl, spec_l15Names.md, calOf spec_l15Names.T n⟩ spec_l15Names.F.np spec_l15Names.F.ks goto (spec_l15Names.F.fin ⟨ty, gl, spec_l15Names.md, calOf spec_l15Names.T 0⟩ [.bool]) spec_l15Names.F.c (spec_l15Names.lb y) (spec_l15Names.st y) = spec_l15Names.step n (fun z => goto (spec_l15Names.lb z) (spec_l15Names.st z)) y := by
  cases y <;> kernel_rfl
theorem spec_l15Names.text : Text Go.Proofs.Tryz.prog spec_l15Names.F spec_l15Names.spec := ⟨⟨Go.Proofs.Tryz.f83, by kernel_rfl, by kernel_rfl, by decide +kernel, by kernel_rfl, by kernel_rfl, of_decide_eq_true (by kernel_rfl)⟩, fun _ => rfl, fun _ => rfl, rfl⟩
theorem spec_l15Names.ok : CtrOK Go.Proofs.Tryz.prog gl spec_l15Names.spec :=
  ctr_ok (T := spec_l15Names.T) (F := spec_l15Names.F) (lb := spec_l15Names.lb) (st := spec_l15Names.st) (step := spec_l15Names.step) (md := spec_l15Names.md) tabs spec_l15Names.text spec_l15Names.seg_eq (fun n x => ⟨.p0 x.1, rfl, rfl, rfl⟩) (consC spec_l2Name.ok (consC spec_l2Rising.ok (nilC)))

/-! loop.example/g00039/spec.l3Time -/
def spec_l3Time.T : List Ctr := []
def spec_l3Time.md : List (Nat × List Md) := []
noncomputable def spec_l3Time.F : Fun := ⟨(Go.Proofs.Tryz.f52.body).getD .skip, [.v (.int .i64)], [(.tmp 2, .bool)], [], 0, []⟩
inductive spec_l3Time.Pt where
  | p0 (a0 : Int)
def spec_l3Time.lb : spec_l3Time.Pt → Nat
  | .p0 _ => 0
def spec_l3Time.st : spec_l3Time.Pt → St
  | .p0 a0 => enter [.v (.int .i64) a0] 0
def spec_l3Time.step (n : Nat) (K : spec_l3Time.Pt → Option (Tup [.bool])) : spec_l3Time.Pt → Option (Tup [.bool])
  | .p0 a0 => cond (decide ((0 : Int) ≤ a0)) (some (decide (a0 ≤ (1000000000000 : Int)))) (some false)
def spec_l3Time (n : Nat) (a0 : Int) : Option (Tup [.bool]) := goRec spec_l3Time.step n (.p0 a0)
def spec_l3Time.spec : Ctr := ⟨52, [.v (.int .i64)], [.bool], [], fun n x => spec_l3Time n x.1⟩
theorem spec_l3Time.seg_eq (n : Nat) (goto : Nat → St → Option (Tup [.bool])) (y : spec_l3Time.Pt) : seg ⟨ty, gl, spec_l3Time.md, calOf spec_l3Time.T n⟩ spec_l3Time.F.np spec_l3Time.F.ks goto (spec_l3Time.F.fin ⟨ty, gl, spec_l3Time.md, calOf spec_l3Time.T 0⟩ [.bool]) spec_l3Time.F.c (spec_l3Time.lb y) (spec_l3Time.st y) = spec_l3Time.step n (fun z => goto (spec_l3Time.lb z) (spec_l3Time.st z)) y := by
  cases y <;> kernel_rfl
theorem spec_l3Time.text : Text Go.Proofs.Tryz.prog spec_l3Time.F spec_l3Time.spec := ⟨⟨Go.Proofs.Tryz.f52, by kernel_rfl, by kernel_rfl, by decide +kernel, by kernel_rfl, by kernel_rfl, of_decide_eq_true (by kernel_rfl)⟩, fun _ => rfl, fun _ => rfl, rfl⟩
theorem spec_l3Time.ok : CtrOK Go.Proofs.Tryz.prog gl spec_l3Time.spec :=
  ctr_ok (T := spec_l3Time.T) (F := spec_l3Time.F) (lb := spec_l3Time.lb) (st := spec_l3Time.st) (step := spec_l3Time.step) (md := spec_l3Time.md) tabs spec_l3Time.text spec_l3Time.seg_eq (fun n x => ⟨.p0 x.1, rfl, rfl, rfl⟩) (nilC)

/-! loop.example/g00039/spec.l9Numbers -/
def spec_l9Numbers.T : List Ctr := []
def spec_l9Numbers.md : List (Nat × List Md) := []
noncomputable def spec_l9Numbers.F : Fun := ⟨(Go.Proofs.Tryz.f84.body).getD .skip, [.v (.sl false (.int .i64))], [(.tmp 2, .bool)], [], 0, [(7, ⟨[0, 5, 6], [], [], false⟩)]⟩
inductive spec_l9Numbers.Pt where
  | p0 (a0 : List (Int))
  | p7 (y1 : List (Int)) (y2 : Int) (y3 : Int)
def spec_l9Numbers.lb : spec_l9Numbers.Pt → Nat
  | .p0 _ => 0
  | .p7 _ _ _ => 7
def spec_l9Numbers.st : spec_l9Numbers.Pt → St
  | .p0 a0 => enter [.v (.sl false (.int .i64)) a0] 0
  | .p7 y1 y2 y3 => ⟨[(0, .im (.sl false (.int .i64)) y1), (5, .im (.int .i64) y2), (6, .im (.int .i64) y3)], [], 0⟩
def spec_l9Numbers.step (n : Nat) (K : spec_l9Numbers.Pt → Option (Tup [.bool])) : spec_l9Numbers.Pt → Option (Tup [.bool])
  | .p0 a0 => K (.p7 a0 ((List.length a0) : Int) (0 : Int))
  | .p7 y1 y2 y3 => cond (decide (y3 < y2)) (cond (decide ((0 : Int) < y3)) (cond (inB (IntKind.wrap .i64 (y3 - (1 : Int))) (List.length y1)) (cond (inB y3 (List.length y1)) (cond (decide ((List.getD y1 (Int.toNat y3) default) ≤ (List.getD y1 (Int.toNat (IntKind.wrap .i64 (y3 - (1 : Int)))) default))) (some false) (K (.p7 y1 y2 (IntKind.wrap .i64 (y3 + (1 : Int)))))) (none)) (none)) (K (.p7 y1 y2 (IntKind.wrap .i64 (y3 + (1 : Int)))))) (some (decide (((List.length y1) : Int) ≤ (1000 : Int))))
def spec_l9Numbers (n : Nat) (a0 : List (Int)) : Option (Tup [.bool]) := goRec spec_l9Numbers.step n (.p0 a0)
def spec_l9Numbers.spec : Ctr := ⟨84, [.v (.sl false (.int .i64))], [.bool], [], fun n x => spec_l9Numbers n x.1⟩
theorem spec_l9Numbers.seg_eq (n : Nat) (goto : Nat → St → Option (Tup [.bool])) (y : spec_l9Numbers.Pt) : seg ⟨ty, gl, spec_l9Numbers.md, calOf spec_l9Numbers.T n⟩ spec_l9Numbers.F.np spec_l9Numbers.F.ks goto (spec_l9Numbers.F.fin ⟨ty, gl, spec_l9Numbers.md, calOf spec_l9Numbers.T 0⟩ [.bool]) spec_l9Numbers.F.c (spec_l9Numbers.lb y) (spec_l9Numbers.st y) = spec_l9Numbers.step n (fun z => goto (spec_l9Numbers.lb z) (spec_l9Numbers.st z)) y := by
  cases y <;> kernel_rfl
theorem spec_l9Numbers.text : Text Go.Proofs.Tryz.prog spec_l9Numbers.F spec_l9Numbers.spec := ⟨⟨Go.Proofs.Tryz.f84, by kernel_rfl, by kernel_rfl, by decide +kernel, by kernel_rfl, by kernel_rfl, of_decide_eq_true (by kernel_rfl)⟩, fun _ => rfl, fun _ => rfl, rfl⟩
theorem spec_l9Numbers.ok : CtrOK Go.Proofs.Tryz.prog gl spec_l9Numbers.spec :=
  ctr_ok (T := spec_l9Numbers.T) (F := spec_l9Numbers.F) (lb := spec_l9Numbers.lb) (st := spec_l9Numbers.st) (step := spec_l9Numbers.step) (md := spec_l9Numbers.md) tabs spec_l9Numbers.text spec_l9Numbers.seg_eq (fun n x => ⟨.p0 x.1, rfl, rfl, rfl⟩) (nilC)

/-! loop.example/g00039/spec.l20Route -/
def spec_l20Route.T : List Ctr := [spec_l2Name.spec, spec_GoodMatchers.spec, spec_l15Names.spec, spec_l3Time.spec, spec_l9Numbers.spec]
def spec_l20Route.md : List (Nat × List Md) := []
noncomputable def spec_l20Route.F : Fun := ⟨(Go.Proofs.Tryz.f129.body).getD .skip, [.v (.pair .str (.pair (.sl false (.pair .str (.pair (.int .i64) (.pair .str .unit)))) (.pair (.sl false .str) (.pair (.int .i64) (.pair (.int .i64) (.pair (.int .i64) (.pair (.sl false (.int .i64)) (.pair .bool (.pair (.int .i64) .unit)))))))))], [(.tmp 2, .bool)], [], 0, [(4, ⟨[1, 58], [], [(1, 1, (.pair .str (.pair (.int .i64) (.pair .str .unit)))), (1, 2, .str), (1, 6, (.int .i64))], false⟩), (15, ⟨[60, 61, 62], [(60, (.int .i64))], [], false⟩)]⟩
inductive spec_l20Route.Pt where
  | p0 (a0 : (ByteArray) × ((List ((ByteArray) × ((Int) × ((ByteArray) × (Unit))))) × ((List (ByteArray)) × ((Int) × ((Int) × ((Int) × ((List (Int)) × ((Bool) × ((Int) × (Unit))))))))))
  | p4 (y1 : Bool) (y2 : ByteArray) (y3 : List ((ByteArray) × ((Int) × ((ByteArray) × (Unit))))) (y4 : List (ByteArray)) (y5 : Int) (y6 : Int) (y7 : Int) (y8 : List (Int)) (y9 : Bool) (y10 : Int)
  | p15 (y1 : List (Int)) (y2 : Int) (y3 : Int)
def spec_l20Route.lb : spec_l20Route.Pt → Nat
  | .p0 _ => 0
  | .p4 _ _ _ _ _ _ _ _ _ _ => 4
  | .p15 _ _ _ => 15
def spec_l20Route.st : spec_l20Route.Pt → St
  | .p0 a0 => enter [.v (.pair .str (.pair (.sl false (.pair .str (.pair (.int .i64) (.pair .str .unit)))) (.pair (.sl false .str) (.pair (.int .i64) (.pair (.int .i64) (.pair (.int .i64) (.pair (.sl false (.int .i64)) (.pair .bool (.pair (.int .i64) .unit))))))))) a0] 0
  | .p4 y1 y2 y3 y4 y5 y6 y7 y8 y9 y10 => ⟨[(1, .po 0 0), (58, .im .bool y1)], [(0, .obj [.im .str y2, .im (.sl false (.pair .str (.pair (.int .i64) (.pair .str .unit)))) y3, .im (.sl false .str) y4, .im (.int .i64) y5, .im (.int .i64) y6, .im (.int .i64) y7, .im (.sl false (.int .i64)) y8, .im .bool y9, .im (.int .i64) y10])], 1⟩
  | .p15 y1 y2 y3 => ⟨[(60, .im (.sl false (.int .i64)) y1), (61, .im (.int .i64) y2), (62, .im (.int .i64) y3)], [], 0⟩
def spec_l20Route.step (n : Nat) (K : spec_l20Route.Pt → Option (Tup [.bool])) : spec_l20Route.Pt → Option (Tup [.bool])
  | .p0 a0 => (spec_l2Name n a0.1).bind fun r4 => cond (!r4) (K (.p4 true a0.1 a0.2.1 a0.2.2.1 a0.2.2.2.1 a0.2.2.2.2.1 a0.2.2.2.2.2.1 a0.2.2.2.2.2.2.1 a0.2.2.2.2.2.2.2.1 a0.2.2.2.2.2.2.2.2.1)) ((spec_GoodMatchers n a0.2.1).bind fun r5 => cond (!r5) (K (.p4 true a0.1 a0.2.1 a0.2.2.1 a0.2.2.2.1 a0.2.2.2.2.1 a0.2.2.2.2.2.1 a0.2.2.2.2.2.2.1 a0.2.2.2.2.2.2.2.1 a0.2.2.2.2.2.2.2.2.1)) ((spec_l15Names n a0.2.2.1).bind fun r6 => cond (!r6) (K (.p4 true a0.1 a0.2.1 a0.2.2.1 a0.2.2.2.1 a0.2.2.2.2.1 a0.2.2.2.2.2.1 a0.2.2.2.2.2.2.1 a0.2.2.2.2.2.2.2.1 a0.2.2.2.2.2.2.2.2.1)) ((spec_l3Time n a0.2.2.2.1).bind fun r7 => cond (!r7) (K (.p4 true a0.1 a0.2.1 a0.2.2.1 a0.2.2.2.1 a0.2.2.2.2.1 a0.2.2.2.2.2.1 a0.2.2.2.2.2.2.1 a0.2.2.2.2.2.2.2.1 a0.2.2.2.2.2.2.2.2.1)) (cond (decide (a0.2.2.2.2.1 < (1 : Int))) (K (.p4 true a0.1 a0.2.1 a0.2.2.1 a0.2.2.2.1 a0.2.2.2.2.1 a0.2.2.2.2.2.1 a0.2.2.2.2.2.2.1 a0.2.2.2.2.2.2.2.1 a0.2.2.2.2.2.2.2.2.1)) (cond (decide ((1000000000000 : Int) < a0.2.2.2.2.1)) (K (.p4 true a0.1 a0.2.1 a0.2.2.1 a0.2.2.2.1 a0.2.2.2.2.1 a0.2.2.2.2.2.1 a0.2.2.2.2.2.2.1 a0.2.2.2.2.2.2.2.1 a0.2.2.2.2.2.2.2.2.1)) (cond (decide (a0.2.2.2.2.2.1 < (1 : Int))) (K (.p4 true a0.1 a0.2.1 a0.2.2.1 a0.2.2.2.1 a0.2.2.2.2.1 a0.2.2.2.2.2.1 a0.2.2.2.2.2.2.1 a0.2.2.2.2.2.2.2.1 a0.2.2.2.2.2.2.2.2.1)) (cond (decide ((1000000000000 : Int) < a0.2.2.2.2.2.1)) (K (.p4 true a0.1 a0.2.1 a0.2.2.1 a0.2.2.2.1 a0.2.2.2.2.1 a0.2.2.2.2.2.1 a0.2.2.2.2.2.2.1 a0.2.2.2.2.2.2.2.1 a0.2.2.2.2.2.2.2.2.1)) (cond (decide ((20 : Int) < ((List.length a0.2.2.2.2.2.2.1) : Int))) (K (.p4 true a0.1 a0.2.1 a0.2.2.1 a0.2.2.2.1 a0.2.2.2.2.1 a0.2.2.2.2.2.1 a0.2.2.2.2.2.2.1 a0.2.2.2.2.2.2.2.1 a0.2.2.2.2.2.2.2.2.1)) ((spec_l9Numbers n a0.2.2.2.2.2.2.1).bind fun r8 => K (.p4 (!r8) a0.1 a0.2.1 a0.2.2.1 a0.2.2.2.1 a0.2.2.2.2.1 a0.2.2.2.2.2.1 a0.2.2.2.2.2.2.1 a0.2.2.2.2.2.2.2.1 a0.2.2.2.2.2.2.2.2.1))))))))))
  | .p4 y1 y2 y3 y4 y5 y6 y7 y8 y9 y10 => cond y1 (some false) (K (.p15 y8 ((List.length y8) : Int) (0 : Int)))
  | .p15 y1 y2 y3 => cond (decide (y3 < y2)) (cond (inB y3 (List.length y1)) (cond (decide ((List.getD y1 (Int.toNat y3) default) < (0 : Int))) (some false) (cond (decide ((20 : Int) ≤ (List.getD y1 (Int.toNat y3) default))) (some false) (K (.p15 y1 y2 (IntKind.wrap .i64 (y3 + (1 : Int))))))) (none)) (some true)
def spec_l20Route (n : Nat) (a0 : (ByteArray) × ((List ((ByteArray) × ((Int) × ((ByteArray) × (Unit))))) × ((List (ByteArray)) × ((Int) × ((Int) × ((Int) × ((List (Int)) × ((Bool) × ((Int) × (Unit)))))))))) : Option (Tup [.bool]) := goRec spec_l20Route.step n (.p0 a0)
def spec_l20Route.spec : Ctr := ⟨129, [.v (.pair .str (.pair (.sl false (.pair .str (.pair (.int .i64) (.pair .str .unit)))) (.pair (.sl false .str) (.pair (.int .i64) (.pair (.int .i64) (.pair (.int .i64) (.pair (.sl false (.int .i64)) (.pair .bool (.pair (.int .i64) .unit)))))))))], [.bool], [], fun n x => spec_l20Route n x.1⟩
theorem spec_l20Route.seg_eq (n : Nat) (goto : Nat → St → Option (Tup [.bool])) (y : spec_l20Route.Pt) : seg ⟨ty, gl, spec_l20Route.md, calOf spec_l20Route.T n⟩ spec_l20Route.F.np spec_l20Route.F.ks goto (spec_l20Route.F.fin ⟨ty, gl, spec_l20Route.md, calOf spec_l20Route.T 0⟩ [.bool]) spec_l20Route.F.c (spec_l20Route.lb y) (spec_l20Route.st y) = spec_l20Route.step n (fun z => goto (spec_l20Route.lb z) (spec_l20Route.st z)) y := by
  cases y <;> kernel_rfl
theorem spec_l20Route.text : Text Go.Proofs.Tryz.prog spec_l20Route.F spec_l20Route.spec := ⟨⟨Go.Proofs.Tryz.f129, by kernel_rfl, by kernel_rfl, by decide +kernel, by kernel_rfl, by kernel_rfl, of_decide_eq_true (by kernel_rfl)⟩, fun _ => rfl, fun _ => rfl, rfl⟩
theorem spec_l20Route.ok : CtrOK Go.Proofs.Tryz.prog gl spec_l20Route.spec :=
  ctr_ok (T := spec_l20Route.T) (F := spec_l20Route.F) (lb := spec_l20Route.lb) (st := spec_l20Route.st) (step := spec_l20Route.step) (md := spec_l20Route.md) tabs spec_l20Route.text spec_l20Route.seg_eq (fun n x => ⟨.p0 x.1, rfl, rfl, rfl⟩) (consC spec_l2Name.ok (consC spec_GoodMatchers.ok (consC spec_l15Names.ok (consC spec_l3Time.ok (consC spec_l9Numbers.ok (nilC))))))

/-! loop.example/g00039/spec.l20Take -/
def spec_l20Take.T : List Ctr := [spec_l20Route.spec]
def spec_l20Take.md : List (Nat × List Md) := []
noncomputable def spec_l20Take.F : Fun := ⟨(Go.Proofs.Tryz.f79.body).getD .skip, [.v (.sl false (.pair .str (.pair (.sl false (.pair .str (.pair (.int .i64) (.pair .str .unit)))) (.pair (.sl false .str) (.pair (.int .i64) (.pair (.int .i64) (.pair (.int .i64) (.pair (.sl false (.int .i64)) (.pair .bool (.pair (.int .i64) .unit)))))))))), .v (.int .i64), .v (.int .i64)], [(.tmp 6, (.int .i64))], [], 0, [(4, ⟨[0, 1, 2, 32], [], [], false⟩), (17, ⟨[0, 1, 2, 7, 8], [], [], false⟩)]⟩
inductive spec_l20Take.Pt where
  | p0 (a0 : List ((ByteArray) × ((List ((ByteArray) × ((Int) × ((ByteArray) × (Unit))))) × ((List (ByteArray)) × ((Int) × ((Int) × ((Int) × ((List (Int)) × ((Bool) × ((Int) × (Unit))))))))))) (a1 : Int) (a2 : Int)
  | p4 (y1 : List ((ByteArray) × ((List ((ByteArray) × ((Int) × ((ByteArray) × (Unit))))) × ((List (ByteArray)) × ((Int) × ((Int) × ((Int) × ((List (Int)) × ((Bool) × ((Int) × (Unit))))))))))) (y2 : Int) (y3 : Int) (y4 : Bool)
  | p17 (y1 : List ((ByteArray) × ((List ((ByteArray) × ((Int) × ((ByteArray) × (Unit))))) × ((List (ByteArray)) × ((Int) × ((Int) × ((Int) × ((List (Int)) × ((Bool) × ((Int) × (Unit))))))))))) (y2 : Int) (y3 : Int) (y4 : Int) (y5 : Int)
def spec_l20Take.lb : spec_l20Take.Pt → Nat
  | .p0 _ _ _ => 0
  | .p4 _ _ _ _ => 4
  | .p17 _ _ _ _ _ => 17
def spec_l20Take.st : spec_l20Take.Pt → St
  | .p0 a0 a1 a2 => enter [.v (.sl false (.pair .str (.pair (.sl false (.pair .str (.pair (.int .i64) (.pair .str .unit)))) (.pair (.sl false .str) (.pair (.int .i64) (.pair (.int .i64) (.pair (.int .i64) (.pair (.sl false (.int .i64)) (.pair .bool (.pair (.int .i64) .unit)))))))))) a0, .v (.int .i64) a1, .v (.int .i64) a2] 0
  | .p4 y1 y2 y3 y4 => ⟨[(0, .im (.sl false (.pair .str (.pair (.sl false (.pair .str (.pair (.int .i64) (.pair .str .unit)))) (.pair (.sl false .str) (.pair (.int .i64) (.pair (.int .i64) (.pair (.int .i64) (.pair (.sl false (.int .i64)) (.pair .bool (.pair (.int .i64) .unit)))))))))) y1), (1, .im (.int .i64) y2), (2, .im (.int .i64) y3), (32, .im .bool y4)], [], 0⟩
  | .p17 y1 y2 y3 y4 y5 => ⟨[(0, .im (.sl false (.pair .str (.pair (.sl false (.pair .str (.pair (.int .i64) (.pair .str .unit)))) (.pair (.sl false .str) (.pair (.int .i64) (.pair (.int .i64) (.pair (.int .i64) (.pair (.sl false (.int .i64)) (.pair .bool (.pair (.int .i64) .unit)))))))))) y1), (1, .im (.int .i64) y2), (2, .im (.int .i64) y3), (7, .im (.int .i64) y4), (8, .im (.int .i64) y5)], [], 0⟩
def spec_l20Take.step (n : Nat) (self : Ty.Els [.v (.sl false (.pair .str (.pair (.sl false (.pair .str (.pair (.int .i64) (.pair .str .unit)))) (.pair (.sl false .str) (.pair (.int .i64) (.pair (.int .i64) (.pair (.int .i64) (.pair (.sl false (.int .i64)) (.pair .bool (.pair (.int .i64) .unit)))))))))), .v (.int .i64), .v (.int .i64)] → Option (Tup [(.int .i64)])) (K : spec_l20Take.Pt → Option (Tup [(.int .i64)])) : spec_l20Take.Pt → Option (Tup [(.int .i64)])
  | .p0 a0 a1 a2 => cond (decide (((List.length a0) : Int) ≤ a1)) (K (.p4 a0 a1 a2 true)) (cond (decide ((8 : Int) < a2)) (K (.p4 a0 a1 a2 true)) (cond (inB a1 (List.length a0)) (cond (decide ((List.getD a0 (Int.toNat a1) default).2.2.2.2.2.2.2.2.1 < (0 : Int))) (K (.p4 a0 a1 a2 true)) (cond (inB a1 (List.length a0)) ((spec_l20Route n (List.getD a0 (Int.toNat a1) default)).bind fun r6 => K (.p4 a0 a1 a2 (!r6))) (none))) (none)))
  | .p4 y1 y2 y3 y4 => cond y4 (some (-(1 : Int))) (K (.p17 y1 y2 y3 (IntKind.wrap .i64 (y2 + (1 : Int))) (0 : Int)))
  | .p17 y1 y2 y3 y4 y5 => cond (inB y2 (List.length y1)) (cond (decide (y5 < (List.getD y1 (Int.toNat y2) default).2.2.2.2.2.2.2.2.1)) ((self (y1, y4, (IntKind.wrap .i64 (y3 + (1 : Int))), ())).bind fun (r8 : Int) => cond (decide (r8 < (0 : Int))) (some (-(1 : Int))) (K (.p17 y1 y2 y3 r8 (IntKind.wrap .i64 (y5 + (1 : Int)))))) (some y4)) (none)
def spec_l20Take (n : Nat) (a0 : List ((ByteArray) × ((List ((ByteArray) × ((Int) × ((ByteArray) × (Unit))))) × ((List (ByteArray)) × ((Int) × ((Int) × ((Int) × ((List (Int)) × ((Bool) × ((Int) × (Unit))))))))))) (a1 : Int) (a2 : Int) : Option (Tup [(.int .i64)]) := goRec (fun n K => spec_l20Take.step n (fun x => K (.p0 x.1 x.2.1 x.2.2.1)) K) n (.p0 a0 a1 a2)
def spec_l20Take.spec : Ctr := ⟨79, [.v (.sl false (.pair .str (.pair (.sl false (.pair .str (.pair (.int .i64) (.pair .str .unit)))) (.pair (.sl false .str) (.pair (.int .i64) (.pair (.int .i64) (.pair (.int .i64) (.pair (.sl false (.int .i64)) (.pair .bool (.pair (.int .i64) .unit)))))))))), .v (.int .i64), .v (.int .i64)], [(.int .i64)], [], fun n x => spec_l20Take n x.1 x.2.1 x.2.2.1⟩
theorem spec_l20Take.seg_eq (n : Nat) (φ : Ty.Els [.v (.sl false (.pair .str (.pair (.sl false (.pair .str (.pair (.int .i64) (.pair .str .unit)))) (.pair (.sl false .str) (.pair (.int .i64) (.pair (.int .i64) (.pair (.int .i64) (.pair (.sl false (.int .i64)) (.pair .bool (.pair (.int .i64) .unit)))))))))), .v (.int .i64), .v (.int .i64)] → Option (Tup [(.int .i64)])) (goto : Nat → St → Option (Tup [(.int .i64)])) (y : spec_l20Take.Pt) : seg ⟨ty, gl, spec_l20Take.md, calOf (spec_l20Take.spec.at φ :: spec_l20Take.T) n⟩ spec_l20Take.F.np spec_l20Take.F.ks goto (spec_l20Take.F.fin ⟨ty, gl, spec_l20Take.md, calOf spec_l20Take.T 0⟩ [(.int .i64)]) spec_l20Take.F.c (spec_l20Take.lb y) (spec_l20Take.st y) = spec_l20Take.step n φ (fun z => goto (spec_l20Take.lb z) (spec_l20Take.st z)) y := by
  cases y <;> kernel_rfl
theorem spec_l20Take.text : Text Go.Proofs.Tryz.prog spec_l20Take.F spec_l20Take.spec := ⟨⟨Go.Proofs.Tryz.f79, by kernel_rfl, by kernel_rfl, by decide +kernel, by kernel_rfl, by kernel_rfl, of_decide_eq_true (by kernel_rfl)⟩, fun _ => rfl, fun _ => rfl, rfl⟩
theorem spec_l20Take.ok : CtrOK Go.Proofs.Tryz.prog gl spec_l20Take.spec :=
  ctr_rec (T := spec_l20Take.T) (F := spec_l20Take.F) (lb := spec_l20Take.lb) (st := spec_l20Take.st) (ent := fun x => .p0 x.1 x.2.1 x.2.2.1) (stp := spec_l20Take.step) (md := spec_l20Take.md) tabs spec_l20Take.text spec_l20Take.seg_eq (fun _ => ⟨rfl, rfl⟩) (fun _ _ => rfl) (consC spec_l20Route.ok (nilC))

/-! loop.example/g00039/spec.GoodRoutes -/
def spec_GoodRoutes.T : List Ctr := [spec_l20Take.spec]
def spec_GoodRoutes.md : List (Nat × List Md) := []
noncomputable def spec_GoodRoutes.F : Fun := ⟨(Go.Proofs.Tryz.f35.body).getD .skip, [.v (.sl false (.pair .str (.pair (.sl false (.pair .str (.pair (.int .i64) (.pair .str .unit)))) (.pair (.sl false .str) (.pair (.int .i64) (.pair (.int .i64) (.pair (.int .i64) (.pair (.sl false (.int .i64)) (.pair .bool (.pair (.int .i64) .unit))))))))))], [(.tmp 2, .bool)], [], 0, []⟩
inductive spec_GoodRoutes.Pt where
  | p0 (a0 : List ((ByteArray) × ((List ((ByteArray) × ((Int) × ((ByteArray) × (Unit))))) × ((List (ByteArray)) × ((Int) × ((Int) × ((Int) × ((List (Int)) × ((Bool) × ((Int) × (Unit)))))))))))
def spec_GoodRoutes.lb : spec_GoodRoutes.Pt → Nat
  | .p0 _ => 0
def spec_GoodRoutes.st : spec_GoodRoutes.Pt → St
  | .p0 a0 => enter [.v (.sl false (.pair .str (.pair (.sl false (.pair .str (.pair (.int .i64) (.pair .str .unit)))) (.pair (.sl false .str) (.pair (.int .i64) (.pair (.int .i64) (.pair (.int .i64) (.pair (.sl false (.int .i64)) (.pair .bool (.pair (.int .i64) .unit)))))))))) a0] 0
def spec_GoodRoutes.step (n : Nat) (K : spec_GoodRoutes.Pt → Option (Tup [.bool])) : spec_GoodRoutes.Pt → Option (Tup [.bool])
  | .p0 a0 => cond (decide ((0 : Int) < ((List.length a0) : Int))) (cond (decide (((List.length a0) : Int) ≤ (40 : Int))) ((spec_l20Take n a0 (0 : Int) (1 : Int)).bind fun (r4 : Int) => cond (decide (r4 = ((List.length a0) : Int))) (cond (inB (0 : Int) (List.length a0)) (cond (decide (((List.length (List.getD a0 (Int.toNat (0 : Int)) default).2.1) : Int) = (0 : Int))) (cond (inB (0 : Int) (List.length a0)) (some (!(List.getD a0 (Int.toNat (0 : Int)) default).2.2.2.2.2.2.2.1)) (none)) (some false)) (none)) (some false)) (some false)) (some false)
def spec_GoodRoutes (n : Nat) (a0 : List ((ByteArray) × ((List ((ByteArray) × ((Int) × ((ByteArray) × (Unit))))) × ((List (ByteArray)) × ((Int) × ((Int) × ((Int) × ((List (Int)) × ((Bool) × ((Int) × (Unit))))))))))) : Option (Tup [.bool]) := goRec spec_GoodRoutes.step n (.p0 a0)
def spec_GoodRoutes.spec : Ctr := ⟨35, [.v (.sl false (.pair .str (.pair (.sl false (.pair .str (.pair (.int .i64) (.pair .str .unit)))) (.pair (.sl false .str) (.pair (.int .i64) (.pair (.int .i64) (.pair (.int .i64) (.pair (.sl false (.int .i64)) (.pair .bool (.pair (.int .i64) .unit))))))))))], [.bool], [], fun n x => spec_GoodRoutes n x.1⟩
theorem spec_GoodRoutes.seg_eq (n : Nat) (goto : Nat → St → Option (Tup [.bool])) (y : spec_GoodRoutes.Pt) : seg ⟨ty, gl, spec_GoodRoutes.md, calOf spec_GoodRoutes.T n⟩ spec_GoodRoutes.F.np spec_GoodRoutes.F.ks goto (spec_GoodRoutes.F.fin ⟨ty, gl, spec_GoodRoutes.md, calOf spec_GoodRoutes.T 0⟩ [.bool]) spec_GoodRoutes.F.c (spec_GoodRoutes.lb y) (spec_GoodRoutes.st y) = spec_GoodRoutes.step n (fun z => goto (spec_GoodRoutes.lb z) (spec_GoodRoutes.st z)) y := by
  cases y <;> kernel_rfl
theorem spec_GoodRoutes.text : Text Go.Proofs.Tryz.prog spec_GoodRoutes.F spec_GoodRoutes.spec := ⟨⟨Go.Proofs.Tryz.f35, by kernel_rfl, by kernel_rfl, by decide +kernel, by kernel_rfl, by kernel_rfl, of_decide_eq_true (by kernel_rfl)⟩, fun _ => rfl, fun _ => rfl, rfl⟩
theorem spec_GoodRoutes.ok : CtrOK Go.Proofs.Tryz.prog gl spec_GoodRoutes.spec :=
  ctr_ok (T := spec_GoodRoutes.T) (F := spec_GoodRoutes.F) (lb := spec_GoodRoutes.lb) (st := spec_GoodRoutes.st) (step := spec_GoodRoutes.step) (md := spec_GoodRoutes.md) tabs spec_GoodRoutes.text spec_GoodRoutes.seg_eq (fun n x => ⟨.p0 x.1, rfl, rfl, rfl⟩) (consC spec_l20Take.ok (nilC))

/-! loop.example/g00039/spec.l2Value -/
def spec_l2Value.T : List Ctr := [spec_l2Printed.spec]
def spec_l2Value.md : List (Nat × List Md) := []
noncomputable def spec_l2Value.F : Fun := ⟨(Go.Proofs.Tryz.f115.body).getD .skip, [.v .str], [(.tmp 2, .bool)], [], 0, []⟩
inductive spec_l2Value.Pt where
  | p0 (a0 : ByteArray)
def spec_l2Value.lb : spec_l2Value.Pt → Nat
  | .p0 _ => 0
def spec_l2Value.st : spec_l2Value.Pt → St
  | .p0 a0 => enter [.v .str a0] 0
def spec_l2Value.step (n : Nat) (K : spec_l2Value.Pt → Option (Tup [.bool])) : spec_l2Value.Pt → Option (Tup [.bool])
  | .p0 a0 => cond (decide ((1 : Int) ≤ ((ByteArray.size a0) : Int))) (cond (decide (((ByteArray.size a0) : Int) ≤ (100 : Int))) ((spec_l2Printed n a0).bind fun r4 => some r4) (some false)) (some false)
def spec_l2Value (n : Nat) (a0 : ByteArray) : Option (Tup [.bool]) := goRec spec_l2Value.step n (.p0 a0)
def spec_l2Value.spec : Ctr := ⟨115, [.v .str], [.bool], [], fun n x => spec_l2Value n x.1⟩
theorem spec_l2Value.seg_eq (n : Nat) (goto : Nat → St → Option (Tup [.bool])) (y : spec_l2Value.Pt) : seg ⟨ty, gl, spec_l2Value.md, calOf spec_l2Value.T n⟩ spec_l2Value.F.np spec_l2Value.F.ks goto (spec_l2Value.F.fin ⟨ty, gl, spec_l2Value.md, calOf spec_l2Value.T 0⟩ [.bool]) spec_l2Value.F.c (spec_l2Value.lb y) (spec_l2Value.st y) = spec_l2Value.step n (fun z => goto (spec_l2Value.lb z) (spec_l2Value.st z)) y := by
  cases y <;> kernel_rfl
theorem spec_l2Value.text : Text Go.Proofs.Tryz.prog spec_l2Value.F spec_l2Value.spec := ⟨⟨Go.Proofs.Tryz.f115, by kernel_rfl, by kernel_rfl, by decide +kernel, by kernel_rfl, by kernel_rfl, of_decide_eq_true (by kernel_rfl)⟩, fun _ => rfl, fun _ => rfl, rfl⟩
theorem spec_l2Value.ok : CtrOK Go.Proofs.Tryz.prog gl spec_l2Value.spec :=
  ctr_ok (T := spec_l2Value.T) (F := spec_l2Value.F) (lb := spec_l2Value.lb) (st := spec_l2Value.st) (step := spec_l2Value.step) (md := spec_l2Value.md) tabs spec_l2Value.text spec_l2Value.seg_eq (fun n x => ⟨.p0 x.1, rfl, rfl, rfl⟩) (consC spec_l2Printed.ok (nilC))

/-! loop.example/g00039/spec.GoodLabels -/
def spec_GoodLabels.T : List Ctr := [spec_l2Name.spec, spec_l2CmpText.spec, spec_l2Value.spec]
def spec_GoodLabels.md : List (Nat × List Md) := []
noncomputable def spec_GoodLabels.F : Fun := ⟨(Go.Proofs.Tryz.f64.body).getD .skip, [.v (.sl false (.pair .str (.pair .str .unit)))], [(.tmp 2, .bool)], [], 0, [(15, ⟨[0, 8, 9, 10], [(8, (.pair .str (.pair .str .unit)))], [], false⟩), (26, ⟨[0, 8, 9, 10, 40], [(8, (.pair .str (.pair .str .unit)))], [], false⟩)]⟩
inductive spec_GoodLabels.Pt where
  | p0 (a0 : List ((ByteArray) × ((ByteArray) × (Unit))))
  | p15 (y1 : List ((ByteArray) × ((ByteArray) × (Unit)))) (y2 : List ((ByteArray) × ((ByteArray) × (Unit)))) (y3 : Int) (y4 : Int)
  | p26 (y1 : List ((ByteArray) × ((ByteArray) × (Unit)))) (y2 : List ((ByteArray) × ((ByteArray) × (Unit)))) (y3 : Int) (y4 : Int) (y5 : Bool)
def spec_GoodLabels.lb : spec_GoodLabels.Pt → Nat
  | .p0 _ => 0
  | .p15 _ _ _ _ => 15
  | .p26 _ _ _ _ _ => 26
def spec_GoodLabels.st : spec_GoodLabels.Pt → St
  | .p0 a0 => enter [.v (.sl false (.pair .str (.pair .str .unit))) a0] 0
  | .p15 y1 y2 y3 y4 => ⟨[(0, .im (.sl false (.pair .str (.pair .str .unit))) y1), (8, .im (.sl false (.pair .str (.pair .str .unit))) y2), (9, .im (.int .i64) y3), (10, .im (.int .i64) y4)], [], 0⟩
  | .p26 y1 y2 y3 y4 y5 => ⟨[(0, .im (.sl false (.pair .str (.pair .str .unit))) y1), (8, .im (.sl false (.pair .str (.pair .str .unit))) y2), (9, .im (.int .i64) y3), (10, .im (.int .i64) y4), (40, .im .bool y5)], [], 0⟩
def spec_GoodLabels.step (n : Nat) (K : spec_GoodLabels.Pt → Option (Tup [.bool])) : spec_GoodLabels.Pt → Option (Tup [.bool])
  | .p0 a0 => cond (decide ((20 : Int) < ((List.length a0) : Int))) (some false) (K (.p15 a0 a0 ((List.length a0) : Int) (0 : Int)))
  | .p15 y1 y2 y3 y4 => cond (decide (y4 < y3)) (cond (inB y4 (List.length y2)) ((spec_l2Name n (List.getD y2 (Int.toNat y4) default).1).bind fun r7 => cond (!r7) (K (.p26 y1 y2 y3 y4 true)) ((spec_l2Value n (List.getD y2 (Int.toNat y4) default).2.1).bind fun r8 => cond (!r8) (K (.p26 y1 y2 y3 y4 true)) (cond (decide ((0 : Int) < y4)) (cond (inB (IntKind.wrap .i64 (y4 - (1 : Int))) (List.length y1)) ((spec_l2CmpText n (List.getD y1 (Int.toNat (IntKind.wrap .i64 (y4 - (1 : Int)))) default).1 (List.getD y2 (Int.toNat y4) default).1).bind fun (r9 : Int) => K (.p26 y1 y2 y3 y4 (decide ((0 : Int) ≤ r9)))) (none)) (K (.p26 y1 y2 y3 y4 false))))) (none)) (some true)
  | .p26 y1 y2 y3 y4 y5 => cond y5 (some false) (K (.p15 y1 y2 y3 (IntKind.wrap .i64 (y4 + (1 : Int)))))
def spec_GoodLabels (n : Nat) (a0 : List ((ByteArray) × ((ByteArray) × (Unit)))) : Option (Tup [.bool]) := goRec spec_GoodLabels.step n (.p0 a0)
def spec_GoodLabels.spec : Ctr := ⟨64, [.v (.sl false (.pair .str (.pair .str .unit)))], [.bool], [], fun n x => spec_GoodLabels n x.1⟩
theorem spec_GoodLabels.seg_eq (n : Nat) (goto : Nat → St → Option (Tup [.bool])) (y : spec_GoodLabels.Pt) : seg ⟨ty, gl, spec_GoodLabels.md, calOf spec_GoodLabels.T n⟩ spec_GoodLabels.F.np spec_GoodLabels.F.ks goto (spec_GoodLabels.F.fin ⟨ty, gl, spec_GoodLabels.md, calOf spec_GoodLabels.T 0⟩ [.bool]) spec_GoodLabels.F.c (spec_GoodLabels.lb y) (spec_GoodLabels.st y) = spec_GoodLabels.step n (fun z => goto (spec_GoodLabels.lb z) (spec_GoodLabels.st z)) y := by
  cases y <;> kernel_rfl
theorem spec_GoodLabels.text : Text Go.Proofs.Tryz.prog spec_GoodLabels.F spec_GoodLabels.spec := ⟨⟨Go.Proofs.Tryz.f64, by kernel_rfl, by kernel_rfl, by decide +kernel, by kernel_rfl, by kernel_rfl, of_decide_eq_true (by kernel_rfl)⟩, fun _ => rfl, fun _ => rfl, rfl⟩
theorem spec_GoodLabels.ok : CtrOK Go.Proofs.Tryz.prog gl spec_GoodLabels.spec :=
  ctr_ok (T := spec_GoodLabels.T) (F := spec_GoodLabels.F) (lb := spec_GoodLabels.lb) (st := spec_GoodLabels.st) (step := spec_GoodLabels.step) (md := spec_GoodLabels.md) tabs spec_GoodLabels.text spec_GoodLabels.seg_eq (fun n x => ⟨.p0 x.1, rfl, rfl, rfl⟩) (consC spec_l2Name.ok (consC spec_l2CmpText.ok (consC spec_l2Value.ok (nilC))))

/-! loop.example/g00039/spec.l2Of -/
def spec_l2Of.T : List Ctr := []
def spec_l2Of.md : List (Nat × List Md) := []
noncomputable def spec_l2Of.F : Fun := ⟨(Go.Proofs.Tryz.f162.body).getD .skip, [.v (.sl false (.pair .str (.pair .str .unit))), .v .str], [(.tmp 4, .str)], [], 0, [(7, ⟨[1, 7, 8, 9], [(7, (.pair .str (.pair .str .unit)))], [], false⟩)]⟩
inductive spec_l2Of.Pt where
  | p0 (a0 : List ((ByteArray) × ((ByteArray) × (Unit)))) (a1 : ByteArray)
  | p7 (y1 : ByteArray) (y2 : List ((ByteArray) × ((ByteArray) × (Unit)))) (y3 : Int) (y4 : Int)
def spec_l2Of.lb : spec_l2Of.Pt → Nat
  | .p0 _ _ => 0
  | .p7 _ _ _ _ => 7
def spec_l2Of.st : spec_l2Of.Pt → St
  | .p0 a0 a1 => enter [.v (.sl false (.pair .str (.pair .str .unit))) a0, .v .str a1] 0
  | .p7 y1 y2 y3 y4 => ⟨[(1, .im .str y1), (7, .im (.sl false (.pair .str (.pair .str .unit))) y2), (8, .im (.int .i64) y3), (9, .im (.int .i64) y4)], [], 0⟩
def spec_l2Of.step (n : Nat) (K : spec_l2Of.Pt → Option (Tup [.str])) : spec_l2Of.Pt → Option (Tup [.str])
  | .p0 a0 a1 => K (.p7 a1 a0 ((List.length a0) : Int) (0 : Int))
  | .p7 y1 y2 y3 y4 => cond (decide (y4 < y3)) (cond (inB y4 (List.length y2)) (cond (seq (List.getD y2 (Int.toNat y4) default).1 y1) (some (List.getD y2 (Int.toNat y4) default).2.1) (K (.p7 y1 y2 y3 (IntKind.wrap .i64 (y4 + (1 : Int)))))) (none)) (some (⟨#[]⟩ : ByteArray))
def spec_l2Of (n : Nat) (a0 : List ((ByteArray) × ((ByteArray) × (Unit)))) (a1 : ByteArray) : Option (Tup [.str]) := goRec spec_l2Of.step n (.p0 a0 a1)
def spec_l2Of.spec : Ctr := ⟨162, [.v (.sl false (.pair .str (.pair .str .unit))), .v .str], [.str], [], fun n x => spec_l2Of n x.1 x.2.1⟩
theorem spec_l2Of.seg_eq (n : Nat) (goto : Nat → St → Option (Tup [.str])) (y : spec_l2Of.Pt) : seg ⟨ty, gl, spec_l2Of.md, calOf spec_l2Of.T n⟩ spec_l2Of.F.np spec_l2Of.F.ks goto (spec_l2Of.F.fin ⟨ty, gl, spec_l2Of.md, calOf spec_l2Of.T 0⟩ [.str]) spec_l2Of.F.c (spec_l2Of.lb y) (spec_l2Of.st y) = spec_l2Of.step n (fun z => goto (spec_l2Of.lb z) (spec_l2Of.st z)) y := by
  cases y <;> kernel_rfl
theorem spec_l2Of.text : Text Go.Proofs.Tryz.prog spec_l2Of.F spec_l2Of.spec := ⟨⟨Go.Proofs.Tryz.f162, by kernel_rfl, by kernel_rfl, by decide +kernel, by kernel_rfl, by kernel_rfl, of_decide_eq_true (by kernel_rfl)⟩, fun _ => rfl, fun _ => rfl, rfl⟩
theorem spec_l2Of.ok : CtrOK Go.Proofs.Tryz.prog gl spec_l2Of.spec :=
  ctr_ok (T := spec_l2Of.T) (F := spec_l2Of.F) (lb := spec_l2Of.lb) (st := spec_l2Of.st) (step := spec_l2Of.step) (md := spec_l2Of.md) tabs spec_l2Of.text spec_l2Of.seg_eq (fun n x => ⟨.p0 x.1 x.2.1, rfl, rfl, rfl⟩) (nilC)

/-! loop.example/g00039/spec.l2Rest -/
def spec_l2Rest.T : List Ctr := []
def spec_l2Rest.md : List (Nat × List Md) := []
noncomputable def spec_l2Rest.F : Fun := ⟨(Go.Proofs.Tryz.f203.body).getD .skip, [.v (.sl false (.int .i64)), .v .str], [(.tmp 4, (.sl false .bool))], [], 0, [(11, ⟨[0, 1, 5, 6], [(5, .bool)], [], false⟩), (26, ⟨[0, 1, 5, 6, 7, 8], [(5, .bool), (7, .bool)], [], false⟩)]⟩
inductive spec_l2Rest.Pt where
  | p0 (a0 : List (Int)) (a1 : ByteArray)
  | p11 (y1 : List (Int)) (y2 : ByteArray) (y3 : Int) (y4 : List (Bool))
  | p26 (y1 : List (Int)) (y2 : ByteArray) (y3 : Int) (y4 : Int) (y5 : List (Bool)) (y6 : List (Bool))
def spec_l2Rest.lb : spec_l2Rest.Pt → Nat
  | .p0 _ _ => 0
  | .p11 _ _ _ _ => 11
  | .p26 _ _ _ _ _ _ => 26
def spec_l2Rest.st : spec_l2Rest.Pt → St
  | .p0 a0 a1 => enter [.v (.sl false (.int .i64)) a0, .v .str a1] 0
  | .p11 y1 y2 y3 y4 => ⟨[(0, .im (.sl false (.int .i64)) y1), (1, .im .str y2), (5, .hs 0 [] none 0), (6, .im (.int .i64) y3)], [(0, .arr false .bool y4 0)], 1⟩
  | .p26 y1 y2 y3 y4 y5 y6 => ⟨[(0, .im (.sl false (.int .i64)) y1), (1, .im .str y2), (5, .hs 0 [] none 0), (6, .im (.int .i64) y3), (7, .hs 1 [] none 0), (8, .im (.int .i64) y4)], [(0, .arr false .bool y5 0), (1, .arr false .bool y6 0)], 2⟩
def spec_l2Rest.step (n : Nat) (K : spec_l2Rest.Pt → Option (Tup [(.sl false .bool)])) : spec_l2Rest.Pt → Option (Tup [(.sl false .bool)])
  | .p0 a0 a1 => cond (inC (IntKind.wrap .i64 (((ByteArray.size a1) : Int) + (1 : Int))) (IntKind.wrap .i64 (((ByteArray.size a1) : Int) + (1 : Int))) 1000000000) (cond (inB ((ByteArray.size a1) : Int) (List.length (List.replicate (Int.toNat (IntKind.wrap .i64 (((ByteArray.size a1) : Int) + (1 : Int)))) (default : Bool)))) (K (.p11 a0 a1 (IntKind.wrap .i64 (((List.length a0) : Int) - (1 : Int))) (List.set (List.replicate (Int.toNat (IntKind.wrap .i64 (((ByteArray.size a1) : Int) + (1 : Int)))) (default : Bool)) (0 + (Int.toNat ((ByteArray.size a1) : Int))) true))) (none)) (none)
  | .p11 y1 y2 y3 y4 => cond (decide ((0 : Int) ≤ y3)) (cond (inC (IntKind.wrap .i64 (((ByteArray.size y2) : Int) + (1 : Int))) (IntKind.wrap .i64 (((ByteArray.size y2) : Int) + (1 : Int))) 1000000000) (K (.p26 y1 y2 y3 ((ByteArray.size y2) : Int) y4 (List.replicate (Int.toNat (IntKind.wrap .i64 (((ByteArray.size y2) : Int) + (1 : Int)))) (default : Bool)))) (none)) (some y4)
  | .p26 y1 y2 y3 y4 y5 y6 => cond (decide ((0 : Int) ≤ y4)) (cond (inB y3 (List.length y1)) (cond (decide ((List.getD y1 (Int.toNat y3) default) = (-(1 : Int)))) (cond (inB y4 (List.length y5)) (cond (List.getD y5 (0 + (Int.toNat y4)) default) (cond (inB y4 (List.length y6)) (K (.p26 y1 y2 y3 (IntKind.wrap .i64 (y4 - (1 : Int))) y5 (List.set y6 (0 + (Int.toNat y4)) true))) (none)) (cond (decide (y4 < ((ByteArray.size y2) : Int))) (cond (inB (IntKind.wrap .i64 (y4 + (1 : Int))) (List.length y6)) (cond (inB y4 (List.length y6)) (K (.p26 y1 y2 y3 (IntKind.wrap .i64 (y4 - (1 : Int))) y5 (List.set y6 (0 + (Int.toNat y4)) (List.getD y6 (0 + (Int.toNat (IntKind.wrap .i64 (y4 + (1 : Int))))) default)))) (none)) (none)) (cond (inB y4 (List.length y6)) (K (.p26 y1 y2 y3 (IntKind.wrap .i64 (y4 - (1 : Int))) y5 (List.set y6 (0 + (Int.toNat y4)) false))) (none)))) (none)) (cond (decide (y4 < ((ByteArray.size y2) : Int))) (cond (inB (IntKind.wrap .i64 (y4 + (1 : Int))) (List.length y5)) (cond (List.getD y5 (0 + (Int.toNat (IntKind.wrap .i64 (y4 + (1 : Int))))) default) (cond (inB y3 (List.length y1)) (cond (decide ((List.getD y1 (Int.toNat y3) default) = (-(2 : Int)))) (cond (inB y4 (List.length y6)) (K (.p26 y1 y2 y3 (IntKind.wrap .i64 (y4 - (1 : Int))) y5 (List.set y6 (0 + (Int.toNat y4)) true))) (none)) (cond (inB y3 (List.length y1)) (cond (inB y4 (ByteArray.size y2)) (cond (inB y4 (List.length y6)) (K (.p26 y1 y2 y3 (IntKind.wrap .i64 (y4 - (1 : Int))) y5 (List.set y6 (0 + (Int.toNat y4)) (decide ((List.getD y1 (Int.toNat y3) default) = (IntKind.wrap .i64 (bt y2 y4))))))) (none)) (none)) (none))) (none)) (cond (inB y4 (List.length y6)) (K (.p26 y1 y2 y3 (IntKind.wrap .i64 (y4 - (1 : Int))) y5 (List.set y6 (0 + (Int.toNat y4)) false))) (none))) (none)) (cond (inB y4 (List.length y6)) (K (.p26 y1 y2 y3 (IntKind.wrap .i64 (y4 - (1 : Int))) y5 (List.set y6 (0 + (Int.toNat y4)) false))) (none)))) (none)) (K (.p11 y1 y2 (IntKind.wrap .i64 (y3 - (1 : Int))) y6))
def spec_l2Rest (n : Nat) (a0 : List (Int)) (a1 : ByteArray) : Option (Tup [(.sl false .bool)]) := goRec spec_l2Rest.step n (.p0 a0 a1)
def spec_l2Rest.spec : Ctr := ⟨203, [.v (.sl false (.int .i64)), .v .str], [(.sl false .bool)], [], fun n x => spec_l2Rest n x.1 x.2.1⟩
theorem spec_l2Rest.seg_eq (n : Nat) (goto : Nat → St → Option (Tup [(.sl false .bool)])) (y : spec_l2Rest.Pt) : seg ⟨ty, gl, spec_l2Rest.md, calOf spec_l2Rest.T n⟩ spec_l2Rest.F.np spec_l2Rest.F.ks goto (spec_l2Rest.F.fin ⟨ty, gl, spec_l2Rest.md, calOf spec_l2Rest.T 0⟩ [(.sl false .bool)]) spec_l2Rest.F.c (spec_l2Rest.lb y) (spec_l2Rest.st y) = spec_l2Rest.step n (fun z => goto (spec_l2Rest.lb z) (spec_l2Rest.st z)) y := by
  cases y <;> kernel_rfl
theorem spec_l2Rest.text : Text Go.Proofs.Tryz.prog spec_l2Rest.F spec_l2Rest.spec := ⟨⟨Go.Proofs.Tryz.f203, by kernel_rfl, by kernel_rfl, by decide +kernel, by kernel_rfl, by kernel_rfl, of_decide_eq_true (by kernel_rfl)⟩, fun _ => rfl, fun _ => rfl, rfl⟩
theorem spec_l2Rest.ok : CtrOK Go.Proofs.Tryz.prog gl spec_l2Rest.spec :=
  ctr_ok (T := spec_l2Rest.T) (F := spec_l2Rest.F) (lb := spec_l2Rest.lb) (st := spec_l2Rest.st) (step := spec_l2Rest.step) (md := spec_l2Rest.md) tabs spec_l2Rest.text spec_l2Rest.seg_eq (fun n x => ⟨.p0 x.1 x.2.1, rfl, rfl, rfl⟩) (nilC)

/-! loop.example/g00039/spec.l2Fits -/
def spec_l2Fits.T : List Ctr := [spec_l2Alternatives.spec, spec_l2Rest.spec]
def spec_l2Fits.md : List (Nat × List Md) := []
noncomputable def spec_l2Fits.F : Fun := ⟨(Go.Proofs.Tryz.f191.body).getD .skip, [.v .str, .v .str], [(.tmp 4, .bool)], [], 0, [(9, ⟨[1, 14, 15, 16], [(14, (.sl false (.int .i64)))], [], false⟩)]⟩
inductive spec_l2Fits.Pt where
  | p0 (a0 : ByteArray) (a1 : ByteArray)
  | p9 (y1 : ByteArray) (y2 : Int) (y3 : Int) (y4 : List (List (Int)))
def spec_l2Fits.lb : spec_l2Fits.Pt → Nat
  | .p0 _ _ => 0
  | .p9 _ _ _ _ => 9
def spec_l2Fits.st : spec_l2Fits.Pt → St
  | .p0 a0 a1 => enter [.v .str a0, .v .str a1] 0
  | .p9 y1 y2 y3 y4 => ⟨[(1, .im .str y1), (14, .hs 0 [] none 0), (15, .im (.int .i64) y2), (16, .im (.int .i64) y3)], [(0, .arr false (.sl false (.int .i64)) y4 0)], 1⟩
def spec_l2Fits.step (n : Nat) (K : spec_l2Fits.Pt → Option (Tup [.bool])) : spec_l2Fits.Pt → Option (Tup [.bool])
  | .p0 a0 a1 => (spec_l2Alternatives n a0).bind fun r5 => K (.p9 a1 ((List.length r5.1) : Int) (0 : Int) r5.1)
  | .p9 y1 y2 y3 y4 => cond (decide (y3 < y2)) (cond (inB y3 (List.length y4)) ((spec_l2Rest n (List.getD y4 (0 + (Int.toNat y3)) default) y1).bind fun r7 => cond (inB (0 : Int) (List.length r7)) (cond (List.getD r7 (0 + (Int.toNat (0 : Int))) default) (some true) (K (.p9 y1 y2 (IntKind.wrap .i64 (y3 + (1 : Int))) y4))) (none)) (none)) (some false)
def spec_l2Fits (n : Nat) (a0 : ByteArray) (a1 : ByteArray) : Option (Tup [.bool]) := goRec spec_l2Fits.step n (.p0 a0 a1)
def spec_l2Fits.spec : Ctr := ⟨191, [.v .str, .v .str], [.bool], [], fun n x => spec_l2Fits n x.1 x.2.1⟩
theorem spec_l2Fits.seg_eq (n : Nat) (goto : Nat → St → Option (Tup [.bool])) (y : spec_l2Fits.Pt) : seg ⟨ty, gl, spec_l2Fits.md, calOf spec_l2Fits.T n⟩ spec_l2Fits.F.np spec_l2Fits.F.ks goto (spec_l2Fits.F.fin ⟨ty, gl, spec_l2Fits.md, calOf spec_l2Fits.T 0⟩ [.bool]) spec_l2Fits.F.c (spec_l2Fits.lb y) (spec_l2Fits.st y) = spec_l2Fits.step n (fun z => goto (spec_l2Fits.lb z) (spec_l2Fits.st z)) y := by
  cases y <;> kernel_rfl
theorem spec_l2Fits.text : Text Go.Proofs.Tryz.prog spec_l2Fits.F spec_l2Fits.spec := ⟨⟨Go.Proofs.Tryz.f191, by kernel_rfl, by kernel_rfl, by decide +kernel, by kernel_rfl, by kernel_rfl, of_decide_eq_true (by kernel_rfl)⟩, fun _ => rfl, fun _ => rfl, rfl⟩
theorem spec_l2Fits.ok : CtrOK Go.Proofs.Tryz.prog gl spec_l2Fits.spec :=
  ctr_ok (T := spec_l2Fits.T) (F := spec_l2Fits.F) (lb := spec_l2Fits.lb) (st := spec_l2Fits.st) (step := spec_l2Fits.step) (md := spec_l2Fits.md) tabs spec_l2Fits.text spec_l2Fits.seg_eq (fun n x => ⟨.p0 x.1 x.2.1, rfl, rfl, rfl⟩) (consC spec_l2Alternatives.ok (consC spec_l2Rest.ok (nilC)))

/-! loop.example/g00039/spec.l2Match -/
def spec_l2Match.T : List Ctr := [spec_l2Fits.spec]
def spec_l2Match.md : List (Nat × List Md) := []
noncomputable def spec_l2Match.F : Fun := ⟨(Go.Proofs.Tryz.f161.body).getD .skip, [.v (.pair .str (.pair (.int .i64) (.pair .str .unit))), .v .str], [(.tmp 4, .bool)], [], 0, []⟩
inductive spec_l2Match.Pt where
  | p0 (a0 : (ByteArray) × ((Int) × ((ByteArray) × (Unit)))) (a1 : ByteArray)
def spec_l2Match.lb : spec_l2Match.Pt → Nat
  | .p0 _ _ => 0
def spec_l2Match.st : spec_l2Match.Pt → St
  | .p0 a0 a1 => enter [.v (.pair .str (.pair (.int .i64) (.pair .str .unit))) a0, .v .str a1] 0
def spec_l2Match.step (n : Nat) (K : spec_l2Match.Pt → Option (Tup [.bool])) : spec_l2Match.Pt → Option (Tup [.bool])
  | .p0 a0 a1 => cond (decide (a0.2.1 = (1 : Int))) (some (seq a1 a0.2.2.1)) (cond (decide (a0.2.1 = (2 : Int))) (some (!(seq a1 a0.2.2.1))) (cond (decide (a0.2.1 = (3 : Int))) ((spec_l2Fits n a0.2.2.1 a1).bind fun r5 => some r5) ((spec_l2Fits n a0.2.2.1 a1).bind fun r5 => some (!r5))))
def spec_l2Match (n : Nat) (a0 : (ByteArray) × ((Int) × ((ByteArray) × (Unit)))) (a1 : ByteArray) : Option (Tup [.bool]) := goRec spec_l2Match.step n (.p0 a0 a1)
def spec_l2Match.spec : Ctr := ⟨161, [.v (.pair .str (.pair (.int .i64) (.pair .str .unit))), .v .str], [.bool], [], fun n x => spec_l2Match n x.1 x.2.1⟩
theorem spec_l2Match.seg_eq (n : Nat) (goto : Nat → St → Option (Tup [.bool])) (y : spec_l2Match.Pt) : seg ⟨ty, gl, spec_l2Match.md, calOf spec_l2Match.T n⟩ spec_l2Match.F.np spec_l2Match.F.ks goto (spec_l2Match.F.fin ⟨ty, gl, spec_l2Match.md, calOf spec_l2Match.T 0⟩ [.bool]) spec_l2Match.F.c (spec_l2Match.lb y) (spec_l2Match.st y) = spec_l2Match.step n (fun z => goto (spec_l2Match.lb z) (spec_l2Match.st z)) y := by
  cases y <;> kernel_rfl
theorem spec_l2Match.text : Text Go.Proofs.Tryz.prog spec_l2Match.F spec_l2Match.spec := ⟨⟨Go.Proofs.Tryz.f161, by kernel_rfl, by kernel_rfl, by decide +kernel, by kernel_rfl, by kernel_rfl, of_decide_eq_true (by kernel_rfl)⟩, fun _ => rfl, fun _ => rfl, rfl⟩
theorem spec_l2Match.ok : CtrOK Go.Proofs.Tryz.prog gl spec_l2Match.spec :=
  ctr_ok (T := spec_l2Match.T) (F := spec_l2Match.F) (lb := spec_l2Match.lb) (st := spec_l2Match.st) (step := spec_l2Match.step) (md := spec_l2Match.md) tabs spec_l2Match.text spec_l2Match.seg_eq (fun n x => ⟨.p0 x.1 x.2.1, rfl, rfl, rfl⟩) (consC spec_l2Fits.ok (nilC))

/-! loop.example/g00039/spec.l2All -/
def spec_l2All.T : List Ctr := [spec_l2Of.spec, spec_l2Match.spec]
def spec_l2All.md : List (Nat × List Md) := []
noncomputable def spec_l2All.F : Fun := ⟨(Go.Proofs.Tryz.f116.body).getD .skip, [.v (.sl false (.pair .str (.pair (.int .i64) (.pair .str .unit)))), .v (.sl false (.pair .str (.pair .str .unit)))], [(.tmp 4, .bool)], [], 0, [(7, ⟨[1, 7, 8, 9], [(7, (.pair .str (.pair (.int .i64) (.pair .str .unit))))], [], false⟩)]⟩
inductive spec_l2All.Pt where
  | p0 (a0 : List ((ByteArray) × ((Int) × ((ByteArray) × (Unit))))) (a1 : List ((ByteArray) × ((ByteArray) × (Unit))))
  | p7 (y1 : List ((ByteArray) × ((ByteArray) × (Unit)))) (y2 : List ((ByteArray) × ((Int) × ((ByteArray) × (Unit))))) (y3 : Int) (y4 : Int)
def spec_l2All.lb : spec_l2All.Pt → Nat
  | .p0 _ _ => 0
  | .p7 _ _ _ _ => 7
def spec_l2All.st : spec_l2All.Pt → St
  | .p0 a0 a1 => enter [.v (.sl false (.pair .str (.pair (.int .i64) (.pair .str .unit)))) a0, .v (.sl false (.pair .str (.pair .str .unit))) a1] 0
  | .p7 y1 y2 y3 y4 => ⟨[(1, .im (.sl false (.pair .str (.pair .str .unit))) y1), (7, .im (.sl false (.pair .str (.pair (.int .i64) (.pair .str .unit)))) y2), (8, .im (.int .i64) y3), (9, .im (.int .i64) y4)], [], 0⟩
def spec_l2All.step (n : Nat) (K : spec_l2All.Pt → Option (Tup [.bool])) : spec_l2All.Pt → Option (Tup [.bool])
  | .p0 a0 a1 => K (.p7 a1 a0 ((List.length a0) : Int) (0 : Int))
  | .p7 y1 y2 y3 y4 => cond (decide (y4 < y3)) (cond (inB y4 (List.length y2)) ((spec_l2Of n y1 (List.getD y2 (Int.toNat y4) default).1).bind fun r7 => (spec_l2Match n (List.getD y2 (Int.toNat y4) default) r7).bind fun r8 => cond (!r8) (some false) (K (.p7 y1 y2 y3 (IntKind.wrap .i64 (y4 + (1 : Int)))))) (none)) (some true)
def spec_l2All (n : Nat) (a0 : List ((ByteArray) × ((Int) × ((ByteArray) × (Unit))))) (a1 : List ((ByteArray) × ((ByteArray) × (Unit)))) : Option (Tup [.bool]) := goRec spec_l2All.step n (.p0 a0 a1)
def spec_l2All.spec : Ctr := ⟨116, [.v (.sl false (.pair .str (.pair (.int .i64) (.pair .str .unit)))), .v (.sl false (.pair .str (.pair .str .unit)))], [.bool], [], fun n x => spec_l2All n x.1 x.2.1⟩
theorem spec_l2All.seg_eq (n : Nat) (goto : Nat → St → Option (Tup [.bool])) (y : spec_l2All.Pt) : seg ⟨ty, gl, spec_l2All.md, calOf spec_l2All.T n⟩ spec_l2All.F.np spec_l2All.F.ks goto (spec_l2All.F.fin ⟨ty, gl, spec_l2All.md, calOf spec_l2All.T 0⟩ [.bool]) spec_l2All.F.c (spec_l2All.lb y) (spec_l2All.st y) = spec_l2All.step n (fun z => goto (spec_l2All.lb z) (spec_l2All.st z)) y := by
  cases y <;> kernel_rfl
theorem spec_l2All.text : Text Go.Proofs.Tryz.prog spec_l2All.F spec_l2All.spec := ⟨⟨Go.Proofs.Tryz.f116, by kernel_rfl, by kernel_rfl, by decide +kernel, by kernel_rfl, by kernel_rfl, of_decide_eq_true (by kernel_rfl)⟩, fun _ => rfl, fun _ => rfl, rfl⟩
theorem spec_l2All.ok : CtrOK Go.Proofs.Tryz.prog gl spec_l2All.spec :=
  ctr_ok (T := spec_l2All.T) (F := spec_l2All.F) (lb := spec_l2All.lb) (st := spec_l2All.st) (step := spec_l2All.step) (md := spec_l2All.md) tabs spec_l2All.text spec_l2All.seg_eq (fun n x => ⟨.p0 x.1 x.2.1, rfl, rfl, rfl⟩) (consC spec_l2Of.ok (consC spec_l2Match.ok (nilC)))

/-! loop.example/g00039/spec.l20For -/
def spec_l20For.T : List Ctr := [spec_l20Take.spec, spec_l2All.spec]
def spec_l20For.md : List (Nat × List Md) := [(65, [.v, .v, .v, .g (.sl false (.int .i64))])]
noncomputable def spec_l20For.F : Fun := ⟨(Go.Proofs.Tryz.f65.body).getD .skip, [.v (.sl false (.pair .str (.pair (.sl false (.pair .str (.pair (.int .i64) (.pair .str .unit)))) (.pair (.sl false .str) (.pair (.int .i64) (.pair (.int .i64) (.pair (.int .i64) (.pair (.sl false (.int .i64)) (.pair .bool (.pair (.int .i64) .unit)))))))))), .v (.int .i64), .v (.sl false (.pair .str (.pair .str .unit))), .g (.sl false (.int .i64))], [(.tmp 8, (.sl false (.int .i64)))], [], 0, [(13, ⟨[0, 1, 2, 3, 9, 10, 11, 12], [(3, (.int .i64))], [], false⟩), (25, ⟨[0, 1, 2, 3, 9, 10, 11, 12, 13, 39], [(3, (.int .i64))], [], false⟩)]⟩
inductive spec_l20For.Pt where
  | p0 (a0 : List ((ByteArray) × ((List ((ByteArray) × ((Int) × ((ByteArray) × (Unit))))) × ((List (ByteArray)) × ((Int) × ((Int) × ((Int) × ((List (Int)) × ((Bool) × ((Int) × (Unit))))))))))) (a1 : Int) (a2 : List ((ByteArray) × ((ByteArray) × (Unit)))) (a3 : List (Int))
  | p13 (y1 : List ((ByteArray) × ((List ((ByteArray) × ((Int) × ((ByteArray) × (Unit))))) × ((List (ByteArray)) × ((Int) × ((Int) × ((Int) × ((List (Int)) × ((Bool) × ((Int) × (Unit))))))))))) (y2 : Int) (y3 : List ((ByteArray) × ((ByteArray) × (Unit)))) (y4 : Int) (y5 : Int) (y6 : Bool) (y7 : Int) (y8 : List (Int))
  | p25 (y1 : List ((ByteArray) × ((List ((ByteArray) × ((Int) × ((ByteArray) × (Unit))))) × ((List (ByteArray)) × ((Int) × ((Int) × ((Int) × ((List (Int)) × ((Bool) × ((Int) × (Unit))))))))))) (y2 : Int) (y3 : List ((ByteArray) × ((ByteArray) × (Unit)))) (y4 : Int) (y5 : Int) (y6 : Bool) (y7 : Int) (y8 : Int) (y9 : Bool) (y10 : List (Int))
def spec_l20For.lb : spec_l20For.Pt → Nat
  | .p0 _ _ _ _ => 0
  | .p13 _ _ _ _ _ _ _ _ => 13
  | .p25 _ _ _ _ _ _ _ _ _ _ => 25
def spec_l20For.st : spec_l20For.Pt → St
  | .p0 a0 a1 a2 a3 => enter [.v (.sl false (.pair .str (.pair (.sl false (.pair .str (.pair (.int .i64) (.pair .str .unit)))) (.pair (.sl false .str) (.pair (.int .i64) (.pair (.int .i64) (.pair (.int .i64) (.pair (.sl false (.int .i64)) (.pair .bool (.pair (.int .i64) .unit)))))))))) a0, .v (.int .i64) a1, .v (.sl false (.pair .str (.pair .str .unit))) a2, .g (.sl false (.int .i64)) a3] 0
  | .p13 y1 y2 y3 y4 y5 y6 y7 y8 => ⟨[(0, .im (.sl false (.pair .str (.pair (.sl false (.pair .str (.pair (.int .i64) (.pair .str .unit)))) (.pair (.sl false .str) (.pair (.int .i64) (.pair (.int .i64) (.pair (.int .i64) (.pair (.sl false (.int .i64)) (.pair .bool (.pair (.int .i64) .unit)))))))))) y1), (1, .im (.int .i64) y2), (2, .im (.sl false (.pair .str (.pair .str .unit))) y3), (3, .hs 0 [] none 0), (9, .im (.int .i64) y4), (10, .im (.int .i64) y5), (11, .im .bool y6), (12, .im (.int .i64) y7)], [(0, .arr false (.int .i64) y8 0)], 1⟩
  | .p25 y1 y2 y3 y4 y5 y6 y7 y8 y9 y10 => ⟨[(0, .im (.sl false (.pair .str (.pair (.sl false (.pair .str (.pair (.int .i64) (.pair .str .unit)))) (.pair (.sl false .str) (.pair (.int .i64) (.pair (.int .i64) (.pair (.int .i64) (.pair (.sl false (.int .i64)) (.pair .bool (.pair (.int .i64) .unit)))))))))) y1), (1, .im (.int .i64) y2), (2, .im (.sl false (.pair .str (.pair .str .unit))) y3), (3, .hs 0 [] none 0), (9, .im (.int .i64) y4), (10, .im (.int .i64) y5), (11, .im .bool y6), (12, .im (.int .i64) y7), (13, .im (.int .i64) y8), (39, .im .bool y9)], [(0, .arr false (.int .i64) y10 0)], 1⟩
def spec_l20For.step (n : Nat) (self : Ty.Els [.v (.sl false (.pair .str (.pair (.sl false (.pair .str (.pair (.int .i64) (.pair .str .unit)))) (.pair (.sl false .str) (.pair (.int .i64) (.pair (.int .i64) (.pair (.int .i64) (.pair (.sl false (.int .i64)) (.pair .bool (.pair (.int .i64) .unit)))))))))), .v (.int .i64), .v (.sl false (.pair .str (.pair .str .unit))), .g (.sl false (.int .i64))] → Option (Tup [(.sl false (.int .i64))])) (K : spec_l20For.Pt → Option (Tup [(.sl false (.int .i64))])) : spec_l20For.Pt → Option (Tup [(.sl false (.int .i64))])
  | .p0 a0 a1 a2 a3 => K (.p13 a0 a1 a2 ((List.length a3) : Int) (IntKind.wrap .i64 (a1 + (1 : Int))) true (0 : Int) a3)
  | .p13 y1 y2 y3 y4 y5 y6 y7 y8 => cond (inB y2 (List.length y1)) (cond (decide (y7 < (List.getD y1 (Int.toNat y2) default).2.2.2.2.2.2.2.2.1)) ((spec_l20Take n y1 y5 (1 : Int)).bind fun (r11 : Int) => cond y6 (cond (inB y5 (List.length y1)) ((spec_l2All n (List.getD y1 (Int.toNat y5) default).2.1 y3).bind fun r12 => K (.p25 y1 y2 y3 y4 y5 y6 y7 r11 r12 y8)) (none)) (K (.p25 y1 y2 y3 y4 y5 y6 y7 r11 false y8))) (cond (decide (((List.length y8) : Int) = y4)) (cond (room ((List.length y8) + (List.length [y2]))) (some (y8 ++ [y2])) (none)) (some y8))) (none)
  | .p25 y1 y2 y3 y4 y5 y6 y7 y8 y9 y10 => cond y9 ((self (y1, y5, y3, y10, ())).bind fun r13 => cond (inB y5 (List.length y1)) (K (.p13 y1 y2 y3 y4 y8 (List.getD y1 (Int.toNat y5) default).2.2.2.2.2.2.2.1 (IntKind.wrap .i64 (y7 + (1 : Int))) r13)) (none)) (K (.p13 y1 y2 y3 y4 y8 y6 (IntKind.wrap .i64 (y7 + (1 : Int))) y10))
def spec_l20For (n : Nat) (a0 : List ((ByteArray) × ((List ((ByteArray) × ((Int) × ((ByteArray) × (Unit))))) × ((List (ByteArray)) × ((Int) × ((Int) × ((Int) × ((List (Int)) × ((Bool) × ((Int) × (Unit))))))))))) (a1 : Int) (a2 : List ((ByteArray) × ((ByteArray) × (Unit)))) (a3 : List (Int)) : Option (Tup [(.sl false (.int .i64))]) := goRec (fun n K => spec_l20For.step n (fun x => K (.p0 x.1 x.2.1 x.2.2.1 x.2.2.2.1)) K) n (.p0 a0 a1 a2 a3)
def spec_l20For.spec : Ctr := ⟨65, [.v (.sl false (.pair .str (.pair (.sl false (.pair .str (.pair (.int .i64) (.pair .str .unit)))) (.pair (.sl false .str) (.pair (.int .i64) (.pair (.int .i64) (.pair (.int .i64) (.pair (.sl false (.int .i64)) (.pair .bool (.pair (.int .i64) .unit)))))))))), .v (.int .i64), .v (.sl false (.pair .str (.pair .str .unit))), .g (.sl false (.int .i64))], [(.sl false (.int .i64))], [], fun n x => spec_l20For n x.1 x.2.1 x.2.2.1 x.2.2.2.1⟩
theorem spec_l20For.seg_eq (n : Nat) (φ : Ty.Els [.v (.sl false (.pair .str (.pair (.sl false (.pair .str (.pair (.int .i64) (.pair .str .unit)))) (.pair (.sl false .str) (.pair (.int .i64) (.pair (.int .i64) (.pair (.int .i64) (.pair (.sl false (.int .i64)) (.pair .bool (.pair (.int .i64) .unit)))))))))), .v (.int .i64), .v (.sl false (.pair .str (.pair .str .unit))), .g (.sl false (.int .i64))] → Option (Tup [(.sl false (.int .i64))])) (goto : Nat → St → Option (Tup [(.sl false (.int .i64))])) (y : spec_l20For.Pt) : seg ⟨ty, gl, spec_l20For.md, calOf (spec_l20For.spec.at φ :: spec_l20For.T) n⟩ spec_l20For.F.np spec_l20For.F.ks goto (spec_l20For.F.fin ⟨ty, gl, spec_l20For.md, calOf spec_l20For.T 0⟩ [(.sl false (.int .i64))]) spec_l20For.F.c (spec_l20For.lb y) (spec_l20For.st y) = spec_l20For.step n φ (fun z => goto (spec_l20For.lb z) (spec_l20For.st z)) y := by
  cases y <;> kernel_rfl
theorem spec_l20For.text : Text Go.Proofs.Tryz.prog spec_l20For.F spec_l20For.spec := ⟨⟨Go.Proofs.Tryz.f65, by kernel_rfl, by kernel_rfl, by decide +kernel, by kernel_rfl, by kernel_rfl, of_decide_eq_true (by kernel_rfl)⟩, fun _ => rfl, fun _ => rfl, rfl⟩
theorem spec_l20For.ok : CtrOK Go.Proofs.Tryz.prog gl spec_l20For.spec :=
  ctr_rec (T := spec_l20For.T) (F := spec_l20For.F) (lb := spec_l20For.lb) (st := spec_l20For.st) (ent := fun x => .p0 x.1 x.2.1 x.2.2.1 x.2.2.2.1) (stp := spec_l20For.step) (md := spec_l20For.md) tabs spec_l20For.text spec_l20For.seg_eq (fun _ => ⟨rfl, rfl⟩) (fun _ _ => rfl) (consC spec_l20Take.ok (consC spec_l2All.ok (nilC)))

/-! loop.example/g00039/spec.RoutesFor -/
def spec_RoutesFor.T : List Ctr := [spec_GoodRoutes.spec, spec_GoodLabels.spec, spec_l20For.spec]
def spec_RoutesFor.md : List (Nat × List Md) := [(65, [.v, .v, .v, .g (.sl false (.int .i64))])]
noncomputable def spec_RoutesFor.F : Fun := ⟨(Go.Proofs.Tryz.f21.body).getD .skip, [.v (.sl false (.pair .str (.pair (.sl false (.pair .str (.pair (.int .i64) (.pair .str .unit)))) (.pair (.sl false .str) (.pair (.int .i64) (.pair (.int .i64) (.pair (.int .i64) (.pair (.sl false (.int .i64)) (.pair .bool (.pair (.int .i64) .unit)))))))))), .v (.sl false (.pair .str (.pair .str .unit)))], [(.tmp 4, (.sl false (.int .i64)))], [], 0, []⟩
inductive spec_RoutesFor.Pt where
  | p0 (a0 : List ((ByteArray) × ((List ((ByteArray) × ((Int) × ((ByteArray) × (Unit))))) × ((List (ByteArray)) × ((Int) × ((Int) × ((Int) × ((List (Int)) × ((Bool) × ((Int) × (Unit))))))))))) (a1 : List ((ByteArray) × ((ByteArray) × (Unit))))
def spec_RoutesFor.lb : spec_RoutesFor.Pt → Nat
  | .p0 _ _ => 0
def spec_RoutesFor.st : spec_RoutesFor.Pt → St
  | .p0 a0 a1 => enter [.v (.sl false (.pair .str (.pair (.sl false (.pair .str (.pair (.int .i64) (.pair .str .unit)))) (.pair (.sl false .str) (.pair (.int .i64) (.pair (.int .i64) (.pair (.int .i64) (.pair (.sl false (.int .i64)) (.pair .bool (.pair (.int .i64) .unit)))))))))) a0, .v (.sl false (.pair .str (.pair .str .unit))) a1] 0
def spec_RoutesFor.step (n : Nat) (K : spec_RoutesFor.Pt → Option (Tup [(.sl false (.int .i64))])) : spec_RoutesFor.Pt → Option (Tup [(.sl false (.int .i64))])
  | .p0 a0 a1 => (spec_GoodRoutes n a0).bind fun r5 => cond (!r5) (some ([] : List (Int))) ((spec_GoodLabels n a1).bind fun r6 => cond (!r6) (some ([] : List (Int))) ((spec_l20For n a0 (0 : Int) a1 ([] : List (Int))).bind fun r7 => some r7))
def spec_RoutesFor (n : Nat) (a0 : List ((ByteArray) × ((List ((ByteArray) × ((Int) × ((ByteArray) × (Unit))))) × ((List (ByteArray)) × ((Int) × ((Int) × ((Int) × ((List (Int)) × ((Bool) × ((Int) × (Unit))))))))))) (a1 : List ((ByteArray) × ((ByteArray) × (Unit)))) : Option (Tup [(.sl false (.int .i64))]) := goRec spec_RoutesFor.step n (.p0 a0 a1)
def spec_RoutesFor.spec : Ctr := ⟨21, [.v (.sl false (.pair .str (.pair (.sl false (.pair .str (.pair (.int .i64) (.pair .str .unit)))) (.pair (.sl false .str) (.pair (.int .i64) (.pair (.int .i64) (.pair (.int .i64) (.pair (.sl false (.int .i64)) (.pair .bool (.pair (.int .i64) .unit)))))))))), .v (.sl false (.pair .str (.pair .str .unit)))], [(.sl false (.int .i64))], [], fun n x => spec_RoutesFor n x.1 x.2.1⟩
theorem spec_RoutesFor.seg_eq (n : Nat) (goto : Nat → St → Option (Tup [(.sl false (.int .i64))])) (y : spec_RoutesFor.Pt) : seg ⟨ty, gl, spec_RoutesFor.md, calOf spec_RoutesFor.T n⟩ spec_RoutesFor.F.np spec_RoutesFor.F.ks goto (spec_RoutesFor.F.fin ⟨ty, gl, spec_RoutesFor.md, calOf spec_RoutesFor.T 0⟩ [(.sl false (.int .i64))]) spec_RoutesFor.F.c (spec_RoutesFor.lb y) (spec_RoutesFor.st y) = spec_RoutesFor.step n (fun z => goto (spec_RoutesFor.lb z) (spec_RoutesFor.st z)) y := by
  cases y <;> kernel_rfl
theorem spec_RoutesFor.text : Text Go.Proofs.Tryz.prog spec_RoutesFor.F spec_RoutesFor.spec := ⟨⟨Go.Proofs.Tryz.f21, by kernel_rfl, by kernel_rfl, by decide +kernel, by kernel_rfl, by kernel_rfl, of_decide_eq_true (by kernel_rfl)⟩, fun _ => rfl, fun _ => rfl, rfl⟩
theorem spec_RoutesFor.ok : CtrOK Go.Proofs.Tryz.prog gl spec_RoutesFor.spec :=
  ctr_ok (T := spec_RoutesFor.T) (F := spec_RoutesFor.F) (lb := spec_RoutesFor.lb) (st := spec_RoutesFor.st) (step := spec_RoutesFor.step) (md := spec_RoutesFor.md) tabs spec_RoutesFor.text spec_RoutesFor.seg_eq (fun n x => ⟨.p0 x.1 x.2.1, rfl, rfl, rfl⟩) (consC spec_GoodRoutes.ok (consC spec_GoodLabels.ok (consC spec_l20For.ok (nilC))))

/-! loop.example/g00039/impl.depths$1 -/
def impl_depths_1.T : List Ctr := []
def impl_depths_1.md : List (Nat × List Md) := [(137, [.v, .p (.sl true (.int .i64)), .q (.sl false (.pair .str (.pair (.sl false (.pair .str (.pair (.int .i64) (.pair .str .unit)))) (.pair (.sl false .str) (.pair (.int .i64) (.pair (.int .i64) (.pair (.int .i64) (.pair (.sl false (.int .i64)) (.pair .bool (.pair (.int .i64) .unit)))))))))), .me 137 1]), (1000137, [.p (.sl true (.int .i64)), .q (.sl false (.pair .str (.pair (.sl false (.pair .str (.pair (.int .i64) (.pair .str .unit)))) (.pair (.sl false .str) (.pair (.int .i64) (.pair (.int .i64) (.pair (.int .i64) (.pair (.sl false (.int .i64)) (.pair .bool (.pair (.int .i64) .unit)))))))))), .me 137 1])]
noncomputable def impl_depths_1.F : Fun := ⟨(Go.Proofs.Tryz.f137.body).getD .skip, [.v (.int .i64), .p (.sl true (.int .i64)), .q (.sl false (.pair .str (.pair (.sl false (.pair .str (.pair (.int .i64) (.pair .str .unit)))) (.pair (.sl false .str) (.pair (.int .i64) (.pair (.int .i64) (.pair (.int .i64) (.pair (.sl false (.int .i64)) (.pair .bool (.pair (.int .i64) .unit)))))))))), .me 137 1], [(.tmp 5, .bool)], [some (.sl true (.int .i64))], 1, [(4, ⟨[0, 1, 2, 3, 15], [], [], false⟩), (16, ⟨[0, 3, 6, 31], [], [], false⟩), (27, ⟨[0, 3, 32, 33], [], [], false⟩)]⟩
inductive impl_depths_1.Pt where
  | p0 (a0 : Int) (a1 : List (Int)) (a2 : List ((ByteArray) × ((List ((ByteArray) × ((Int) × ((ByteArray) × (Unit))))) × ((List (ByteArray)) × ((Int) × ((Int) × ((Int) × ((List (Int)) × ((Bool) × ((Int) × (Unit))))))))))) (a3 : Unit)
  | p4 (y1 : Int) (y2 : Bool) (y3 : List ((ByteArray) × ((List ((ByteArray) × ((Int) × ((ByteArray) × (Unit))))) × ((List (ByteArray)) × ((Int) × ((Int) × ((Int) × ((List (Int)) × ((Bool) × ((Int) × (Unit))))))))))) (y4 : List (Int))
  | p16 (y1 : Int) (y2 : Int) (y3 : Bool) (y4 : List ((ByteArray) × ((List ((ByteArray) × ((Int) × ((ByteArray) × (Unit))))) × ((List (ByteArray)) × ((Int) × ((Int) × ((Int) × ((List (Int)) × ((Bool) × ((Int) × (Unit))))))))))) (y5 : List (Int))
  | p27 (y1 : Int) (y2 : Int) (y3 : Int) (y4 : List ((ByteArray) × ((List ((ByteArray) × ((Int) × ((ByteArray) × (Unit))))) × ((List (ByteArray)) × ((Int) × ((Int) × ((Int) × ((List (Int)) × ((Bool) × ((Int) × (Unit))))))))))) (y5 : List (Int))
def impl_depths_1.lb : impl_depths_1.Pt → Nat
  | .p0 _ _ _ _ => 0
  | .p4 _ _ _ _ => 4
  | .p16 _ _ _ _ _ => 16
  | .p27 _ _ _ _ _ => 27
def impl_depths_1.st : impl_depths_1.Pt → St
  | .p0 a0 a1 a2 a3 => enter [.v (.int .i64) a0, .p (.sl true (.int .i64)) a1, .q (.sl false (.pair .str (.pair (.sl false (.pair .str (.pair (.int .i64) (.pair .str .unit)))) (.pair (.sl false .str) (.pair (.int .i64) (.pair (.int .i64) (.pair (.int .i64) (.pair (.sl false (.int .i64)) (.pair .bool (.pair (.int .i64) .unit)))))))))) a2, .me 137 1] 1
  | .p4 y1 y2 y3 y4 => ⟨[(0, .im (.int .i64) y1), (1, .po 0 0), (2, .po 1 0), (3, .px 137 [.po 0 0, .po 1 0] 2), (15, .im .bool y2)], [(0, .obj [.hs 2 [] none 0]), (1, .imm (.sl false (.pair .str (.pair (.sl false (.pair .str (.pair (.int .i64) (.pair .str .unit)))) (.pair (.sl false .str) (.pair (.int .i64) (.pair (.int .i64) (.pair (.int .i64) (.pair (.sl false (.int .i64)) (.pair .bool (.pair (.int .i64) .unit)))))))))) y3), (2, .arr true (.int .i64) y4 0)], 3⟩
  | .p16 y1 y2 y3 y4 y5 => ⟨[(0, .im (.int .i64) y1), (3, .px 137 [.po 0 0, .po 1 0] 2), (6, .im (.int .i64) y2), (31, .im .bool y3)], [(0, .obj [.hs 2 [] none 0]), (1, .imm (.sl false (.pair .str (.pair (.sl false (.pair .str (.pair (.int .i64) (.pair .str .unit)))) (.pair (.sl false .str) (.pair (.int .i64) (.pair (.int .i64) (.pair (.int .i64) (.pair (.sl false (.int .i64)) (.pair .bool (.pair (.int .i64) .unit)))))))))) y4), (2, .arr true (.int .i64) y5 0)], 3⟩
  | .p27 y1 y2 y3 y4 y5 => ⟨[(0, .im (.int .i64) y1), (3, .px 137 [.po 0 0, .po 1 0] 2), (32, .im (.int .i64) y2), (33, .im (.int .i64) y3)], [(0, .obj [.hs 2 [] none 0]), (1, .imm (.sl false (.pair .str (.pair (.sl false (.pair .str (.pair (.int .i64) (.pair .str .unit)))) (.pair (.sl false .str) (.pair (.int .i64) (.pair (.int .i64) (.pair (.int .i64) (.pair (.sl false (.int .i64)) (.pair .bool (.pair (.int .i64) .unit)))))))))) y4), (2, .arr true (.int .i64) y5 0)], 3⟩
def impl_depths_1.step (n : Nat) (self : Ty.Els [.v (.int .i64), .p (.sl true (.int .i64)), .q (.sl false (.pair .str (.pair (.sl false (.pair .str (.pair (.int .i64) (.pair .str .unit)))) (.pair (.sl false .str) (.pair (.int .i64) (.pair (.int .i64) (.pair (.int .i64) (.pair (.sl false (.int .i64)) (.pair .bool (.pair (.int .i64) .unit)))))))))), .me 137 1] → Option (Tup [.bool, (.sl true (.int .i64))])) (K : impl_depths_1.Pt → Option (Tup [.bool, (.sl true (.int .i64))])) : impl_depths_1.Pt → Option (Tup [.bool, (.sl true (.int .i64))])
  | .p0 a0 a1 a2 a3 => cond (decide (((List.length a1) : Int) = ((List.length a2) : Int))) (K (.p4 a0 true a2 a1)) (K (.p4 a0 (decide ((8 : Int) ≤ a0)) a2 a1))
  | .p4 y1 y2 y3 y4 => cond y2 (some (false, y4)) (cond (inB ((List.length y4) : Int) (List.length y3)) (cond (room ((List.length y4) + (List.length [y1]))) (cond (decide ((List.getD y3 (Int.toNat ((List.length y4) : Int)) default).2.2.2.2.2.2.2.2.1 < (0 : Int))) (K (.p16 y1 (List.getD y3 (Int.toNat ((List.length y4) : Int)) default).2.2.2.2.2.2.2.2.1 true y3 (y4 ++ [y1]))) (K (.p16 y1 (List.getD y3 (Int.toNat ((List.length y4) : Int)) default).2.2.2.2.2.2.2.2.1 (decide ((40 : Int) < (List.getD y3 (Int.toNat ((List.length y4) : Int)) default).2.2.2.2.2.2.2.2.1)) y3 (y4 ++ [y1])))) (none)) (none))
  | .p16 y1 y2 y3 y4 y5 => cond y3 (some (false, y5)) (K (.p27 y1 y2 (0 : Int) y4 y5))
  | .p27 y1 y2 y3 y4 y5 => cond (decide (y3 < y2)) ((self ((IntKind.wrap .i64 (y1 + (1 : Int))), y5, (List.getD [y4] 0 default), (), ())).bind fun r8 => cond (!r8.1) (some (false, r8.2)) (K (.p27 y1 y2 (IntKind.wrap .i64 (y3 + (1 : Int))) y4 r8.2))) (some (true, y5))
def impl_depths_1 (n : Nat) (a0 : Int) (a1 : List (Int)) (a2 : List ((ByteArray) × ((List ((ByteArray) × ((Int) × ((ByteArray) × (Unit))))) × ((List (ByteArray)) × ((Int) × ((Int) × ((Int) × ((List (Int)) × ((Bool) × ((Int) × (Unit))))))))))) (a3 : Unit) : Option (Tup [.bool, (.sl true (.int .i64))]) := goRec (fun n K => impl_depths_1.step n (fun x => K (.p0 x.1 x.2.1 x.2.2.1 x.2.2.2.1)) K) n (.p0 a0 a1 a2 a3)
def impl_depths_1.spec : Ctr := ⟨137, [.v (.int .i64), .p (.sl true (.int .i64)), .q (.sl false (.pair .str (.pair (.sl false (.pair .str (.pair (.int .i64) (.pair .str .unit)))) (.pair (.sl false .str) (.pair (.int .i64) (.pair (.int .i64) (.pair (.int .i64) (.pair (.sl false (.int .i64)) (.pair .bool (.pair (.int .i64) .unit)))))))))), .me 137 1], [.bool], [(.sl true (.int .i64))], fun n x => impl_depths_1 n x.1 x.2.1 x.2.2.1 x.2.2.2.1⟩
theorem impl_depths_1.seg_eq (n : Nat) (φ : Ty.Els [.v (.int .i64), .p (.sl true (.int .i64)), .q (.sl false (.pair .str (.pair (.sl false (.pair .str (.pair (.int .i64) (.pair .str .unit)))) (.pair (.sl false .str) (.pair (.int .i64) (.pair (.int .i64) (.pair (.int .i64) (.pair (.sl false (.int .i64)) (.pair .bool (.pair (.int .i64) .unit)))))))))), .me 137 1] → Option (Tup [.bool, (.sl true (.int .i64))])) (goto : Nat → St → Option (Tup [.bool, (.sl true (.int .i64))])) (y : impl_depths_1.Pt) : seg ⟨ty, gl, impl_depths_1.md, calOf (impl_depths_1.spec.at φ :: impl_depths_1.T) n⟩ impl_depths_1.F.np impl_depths_1.F.ks goto (impl_depths_1.F.fin ⟨ty, gl, impl_depths_1.md, calOf impl_depths_1.T 0⟩ [.bool, (.sl true (.int .i64))]) impl_depths_1.F.c (impl_depths_1.lb y) (impl_depths_1.st y) = impl_depths_1.step n φ (fun z => goto (impl_depths_1.lb z) (impl_depths_1.st z)) y := by
  cases y <;> kernel_rfl
theorem impl_depths_1.text : Text Go.Proofs.Tryz.prog impl_depths_1.F impl_depths_1.spec := ⟨⟨Go.Proofs.Tryz.f137, by kernel_rfl, by kernel_rfl, by decide +kernel, by kernel_rfl, by kernel_rfl, of_decide_eq_true (by kernel_rfl)⟩, fun _ => rfl, fun _ => rfl, rfl⟩
theorem impl_depths_1.ok : CtrOK Go.Proofs.Tryz.prog gl impl_depths_1.spec :=
  ctr_rec (T := impl_depths_1.T) (F := impl_depths_1.F) (lb := impl_depths_1.lb) (st := impl_depths_1.st) (ent := fun x => .p0 x.1 x.2.1 x.2.2.1 x.2.2.2.1) (stp := impl_depths_1.step) (md := impl_depths_1.md) tabs impl_depths_1.text impl_depths_1.seg_eq (fun _ => ⟨rfl, rfl⟩) (fun _ _ => rfl) (nilC)

/-! loop.example/g00039/impl.depths -/
def impl_depths.T : List Ctr := [impl_depths_1.spec]
def impl_depths.md : List (Nat × List Md) := [(137, [.v, .p (.sl true (.int .i64)), .q (.sl false (.pair .str (.pair (.sl false (.pair .str (.pair (.int .i64) (.pair .str .unit)))) (.pair (.sl false .str) (.pair (.int .i64) (.pair (.int .i64) (.pair (.int .i64) (.pair (.sl false (.int .i64)) (.pair .bool (.pair (.int .i64) .unit)))))))))), .me 137 1]), (1000137, [.p (.sl true (.int .i64)), .q (.sl false (.pair .str (.pair (.sl false (.pair .str (.pair (.int .i64) (.pair .str .unit)))) (.pair (.sl false .str) (.pair (.int .i64) (.pair (.int .i64) (.pair (.int .i64) (.pair (.sl false (.int .i64)) (.pair .bool (.pair (.int .i64) .unit)))))))))), .me 137 1])]
noncomputable def impl_depths.F : Fun := ⟨(Go.Proofs.Tryz.f89.body).getD .skip, [.v (.sl false (.pair .str (.pair (.sl false (.pair .str (.pair (.int .i64) (.pair .str .unit)))) (.pair (.sl false .str) (.pair (.int .i64) (.pair (.int .i64) (.pair (.int .i64) (.pair (.sl false (.int .i64)) (.pair .bool (.pair (.int .i64) .unit))))))))))], [(.tmp 2, (.sl true (.int .i64)))], [], 0, [(4, ⟨[1, 12], [], [(1, 0, (.pair .str (.pair (.sl false (.pair .str (.pair (.int .i64) (.pair .str .unit)))) (.pair (.sl false .str) (.pair (.int .i64) (.pair (.int .i64) (.pair (.int .i64) (.pair (.sl false (.int .i64)) (.pair .bool (.pair (.int .i64) .unit))))))))))], false⟩)]⟩
inductive impl_depths.Pt where
  | p0 (a0 : List ((ByteArray) × ((List ((ByteArray) × ((Int) × ((ByteArray) × (Unit))))) × ((List (ByteArray)) × ((Int) × ((Int) × ((Int) × ((List (Int)) × ((Bool) × ((Int) × (Unit)))))))))))
  | p4 (y1 : Bool) (y2 : List ((ByteArray) × ((List ((ByteArray) × ((Int) × ((ByteArray) × (Unit))))) × ((List (ByteArray)) × ((Int) × ((Int) × ((Int) × ((List (Int)) × ((Bool) × ((Int) × (Unit)))))))))))
def impl_depths.lb : impl_depths.Pt → Nat
  | .p0 _ => 0
  | .p4 _ _ => 4
def impl_depths.st : impl_depths.Pt → St
  | .p0 a0 => enter [.v (.sl false (.pair .str (.pair (.sl false (.pair .str (.pair (.int .i64) (.pair .str .unit)))) (.pair (.sl false .str) (.pair (.int .i64) (.pair (.int .i64) (.pair (.int .i64) (.pair (.sl false (.int .i64)) (.pair .bool (.pair (.int .i64) .unit)))))))))) a0] 0
  | .p4 y1 y2 => ⟨[(1, .po 0 0), (12, .im .bool y1)], [(0, .obj [.im (.sl false (.pair .str (.pair (.sl false (.pair .str (.pair (.int .i64) (.pair .str .unit)))) (.pair (.sl false .str) (.pair (.int .i64) (.pair (.int .i64) (.pair (.int .i64) (.pair (.sl false (.int .i64)) (.pair .bool (.pair (.int .i64) .unit)))))))))) y2])], 1⟩
def impl_depths.step (n : Nat) (K : impl_depths.Pt → Option (Tup [(.sl true (.int .i64))])) : impl_depths.Pt → Option (Tup [(.sl true (.int .i64))])
  | .p0 a0 => cond (decide (((List.length a0) : Int) = (0 : Int))) (K (.p4 true a0)) (K (.p4 (decide ((40 : Int) < ((List.length a0) : Int))) a0))
  | .p4 y1 y2 => cond y1 (some ([] : List (Int))) ((impl_depths_1 n (0 : Int) ([] : List (Int)) y2 ()).bind fun r5 => cond (!r5.1) (some ([] : List (Int))) (cond (!(decide (((List.length r5.2) : Int) = ((List.length y2) : Int)))) (some ([] : List (Int))) (some r5.2)))
def impl_depths (n : Nat) (a0 : List ((ByteArray) × ((List ((ByteArray) × ((Int) × ((ByteArray) × (Unit))))) × ((List (ByteArray)) × ((Int) × ((Int) × ((Int) × ((List (Int)) × ((Bool) × ((Int) × (Unit))))))))))) : Option (Tup [(.sl true (.int .i64))]) := goRec impl_depths.step n (.p0 a0)
def impl_depths.spec : Ctr := ⟨89, [.v (.sl false (.pair .str (.pair (.sl false (.pair .str (.pair (.int .i64) (.pair .str .unit)))) (.pair (.sl false .str) (.pair (.int .i64) (.pair (.int .i64) (.pair (.int .i64) (.pair (.sl false (.int .i64)) (.pair .bool (.pair (.int .i64) .unit))))))))))], [(.sl true (.int .i64))], [], fun n x => impl_depths n x.1⟩
theorem impl_depths.seg_eq (n : Nat) (goto : Nat → St → Option (Tup [(.sl true (.int .i64))])) (y : impl_depths.Pt) : seg ⟨ty, gl, impl_depths.md, calOf impl_depths.T n⟩ impl_depths.F.np impl_depths.F.ks goto (impl_depths.F.fin ⟨ty, gl, impl_depths.md, calOf impl_depths.T 0⟩ [(.sl true (.int .i64))]) impl_depths.F.c (impl_depths.lb y) (impl_depths.st y) = impl_depths.step n (fun z => goto (impl_depths.lb z) (impl_depths.st z)) y := by
  cases y <;> kernel_rfl
theorem impl_depths.text : Text Go.Proofs.Tryz.prog impl_depths.F impl_depths.spec := ⟨⟨Go.Proofs.Tryz.f89, by kernel_rfl, by kernel_rfl, by decide +kernel, by kernel_rfl, by kernel_rfl, of_decide_eq_true (by kernel_rfl)⟩, fun _ => rfl, fun _ => rfl, rfl⟩
theorem impl_depths.ok : CtrOK Go.Proofs.Tryz.prog gl impl_depths.spec :=
  ctr_ok (T := impl_depths.T) (F := impl_depths.F) (lb := impl_depths.lb) (st := impl_depths.st) (step := impl_depths.step) (md := impl_depths.md) tabs impl_depths.text impl_depths.seg_eq (fun n x => ⟨.p0 x.1, rfl, rfl, rfl⟩) (consC impl_depths_1.ok (nilC))

/-! loop.example/g00039/impl.digitByte -/
def impl_digitByte.T : List Ctr := []
def impl_digitByte.md : List (Nat × List Md) := []
noncomputable def impl_digitByte.F : Fun := ⟨(Go.Proofs.Tryz.f138.body).getD .skip, [.v (.int .u8)], [(.tmp 2, .bool)], [], 0, []⟩
inductive impl_digitByte.Pt where
  | p0 (a0 : Int)
def impl_digitByte.lb : impl_digitByte.Pt → Nat
  | .p0 _ => 0
def impl_digitByte.st : impl_digitByte.Pt → St
  | .p0 a0 => enter [.v (.int .u8) a0] 0
def impl_digitByte.step (n : Nat) (K : impl_digitByte.Pt → Option (Tup [.bool])) : impl_digitByte.Pt → Option (Tup [.bool])
  | .p0 a0 => cond (decide ((48 : Int) ≤ a0)) (some (decide (a0 ≤ (57 : Int)))) (some false)
def impl_digitByte (n : Nat) (a0 : Int) : Option (Tup [.bool]) := goRec impl_digitByte.step n (.p0 a0)
def impl_digitByte.spec : Ctr := ⟨138, [.v (.int .u8)], [.bool], [], fun n x => impl_digitByte n x.1⟩
theorem impl_digitByte.seg_eq (n : Nat) (goto : Nat → St → Option (Tup [.bool])) (y : impl_digitByte.Pt) : seg ⟨ty, gl, impl_digitByte.md, calOf impl_digitByte.T n⟩ impl_digitByte.F.np impl_digitByte.F.ks goto (impl_digitByte.F.fin ⟨ty, gl, impl_digitByte.md, calOf impl_digitByte.T 0⟩ [.bool]) impl_digitByte.F.c (impl_digitByte.lb y) (impl_digitByte.st y) = impl_digitByte.step n (fun z => goto (impl_digitByte.lb z) (impl_digitByte.st z)) y := by
  cases y <;> kernel_rfl
theorem impl_digitByte.text : Text Go.Proofs.Tryz.prog impl_digitByte.F impl_digitByte.spec := ⟨⟨Go.Proofs.Tryz.f138, by kernel_rfl, by kernel_rfl, by decide +kernel, by kernel_rfl, by kernel_rfl, of_decide_eq_true (by kernel_rfl)⟩, fun _ => rfl, fun _ => rfl, rfl⟩
theorem impl_digitByte.ok : CtrOK Go.Proofs.Tryz.prog gl impl_digitByte.spec :=
  ctr_ok (T := impl_digitByte.T) (F := impl_digitByte.F) (lb := impl_digitByte.lb) (st := impl_digitByte.st) (step := impl_digitByte.step) (md := impl_digitByte.md) tabs impl_digitByte.text impl_digitByte.seg_eq (fun n x => ⟨.p0 x.1, rfl, rfl, rfl⟩) (nilC)

/-! loop.example/g00039/impl.letterByte -/
def impl_letterByte.T : List Ctr := []
def impl_letterByte.md : List (Nat × List Md) := []
noncomputable def impl_letterByte.F : Fun := ⟨(Go.Proofs.Tryz.f180.body).getD .skip, [.v (.int .u8)], [(.tmp 2, .bool)], [], 0, []⟩
inductive impl_letterByte.Pt where
  | p0 (a0 : Int)
def impl_letterByte.lb : impl_letterByte.Pt → Nat
  | .p0 _ => 0
def impl_letterByte.st : impl_letterByte.Pt → St
  | .p0 a0 => enter [.v (.int .u8) a0] 0
def impl_letterByte.step (n : Nat) (K : impl_letterByte.Pt → Option (Tup [.bool])) : impl_letterByte.Pt → Option (Tup [.bool])
  | .p0 a0 => cond (decide ((97 : Int) ≤ a0)) (cond (decide (a0 ≤ (122 : Int))) (some true) (cond (decide ((65 : Int) ≤ a0)) (some (decide (a0 ≤ (90 : Int)))) (some false))) (cond (decide ((65 : Int) ≤ a0)) (some (decide (a0 ≤ (90 : Int)))) (some false))
def impl_letterByte (n : Nat) (a0 : Int) : Option (Tup [.bool]) := goRec impl_letterByte.step n (.p0 a0)
def impl_letterByte.spec : Ctr := ⟨180, [.v (.int .u8)], [.bool], [], fun n x => impl_letterByte n x.1⟩
theorem impl_letterByte.seg_eq (n : Nat) (goto : Nat → St → Option (Tup [.bool])) (y : impl_letterByte.Pt) : seg ⟨ty, gl, impl_letterByte.md, calOf impl_letterByte.T n⟩ impl_letterByte.F.np impl_letterByte.F.ks goto (impl_letterByte.F.fin ⟨ty, gl, impl_letterByte.md, calOf impl_letterByte.T 0⟩ [.bool]) impl_letterByte.F.c (impl_letterByte.lb y) (impl_letterByte.st y) = impl_letterByte.step n (fun z => goto (impl_letterByte.lb z) (impl_letterByte.st z)) y := by
  cases y <;> kernel_rfl
theorem impl_letterByte.text : Text Go.Proofs.Tryz.prog impl_letterByte.F impl_letterByte.spec := ⟨⟨Go.Proofs.Tryz.f180, by kernel_rfl, by kernel_rfl, by decide +kernel, by kernel_rfl, by kernel_rfl, of_decide_eq_true (by kernel_rfl)⟩, fun _ => rfl, fun _ => rfl, rfl⟩
theorem impl_letterByte.ok : CtrOK Go.Proofs.Tryz.prog gl impl_letterByte.spec :=
  ctr_ok (T := impl_letterByte.T) (F := impl_letterByte.F) (lb := impl_letterByte.lb) (st := impl_letterByte.st) (step := impl_letterByte.step) (md := impl_letterByte.md) tabs impl_letterByte.text impl_letterByte.seg_eq (fun n x => ⟨.p0 x.1, rfl, rfl, rfl⟩) (nilC)

/-! loop.example/g00039/impl.wordByte -/
def impl_wordByte.T : List Ctr := [impl_digitByte.spec, impl_letterByte.spec]
def impl_wordByte.md : List (Nat × List Md) := []
noncomputable def impl_wordByte.F : Fun := ⟨(Go.Proofs.Tryz.f139.body).getD .skip, [.v (.int .u8)], [(.tmp 2, .bool)], [], 0, []⟩
inductive impl_wordByte.Pt where
  | p0 (a0 : Int)
def impl_wordByte.lb : impl_wordByte.Pt → Nat
  | .p0 _ => 0
def impl_wordByte.st : impl_wordByte.Pt → St
  | .p0 a0 => enter [.v (.int .u8) a0] 0
def impl_wordByte.step (n : Nat) (K : impl_wordByte.Pt → Option (Tup [.bool])) : impl_wordByte.Pt → Option (Tup [.bool])
  | .p0 a0 => (impl_letterByte n a0).bind fun r4 => cond r4 (some true) ((impl_digitByte n a0).bind fun r5 => cond r5 (some true) (some (decide (a0 = (95 : Int)))))
def impl_wordByte (n : Nat) (a0 : Int) : Option (Tup [.bool]) := goRec impl_wordByte.step n (.p0 a0)
def impl_wordByte.spec : Ctr := ⟨139, [.v (.int .u8)], [.bool], [], fun n x => impl_wordByte n x.1⟩
theorem impl_wordByte.seg_eq (n : Nat) (goto : Nat → St → Option (Tup [.bool])) (y : impl_wordByte.Pt) : seg ⟨ty, gl, impl_wordByte.md, calOf impl_wordByte.T n⟩ impl_wordByte.F.np impl_wordByte.F.ks goto (impl_wordByte.F.fin ⟨ty, gl, impl_wordByte.md, calOf impl_wordByte.T 0⟩ [.bool]) impl_wordByte.F.c (impl_wordByte.lb y) (impl_wordByte.st y) = impl_wordByte.step n (fun z => goto (impl_wordByte.lb z) (impl_wordByte.st z)) y := by
  cases y <;> kernel_rfl
theorem impl_wordByte.text : Text Go.Proofs.Tryz.prog impl_wordByte.F impl_wordByte.spec := ⟨⟨Go.Proofs.Tryz.f139, by kernel_rfl, by kernel_rfl, by decide +kernel, by kernel_rfl, by kernel_rfl, of_decide_eq_true (by kernel_rfl)⟩, fun _ => rfl, fun _ => rfl, rfl⟩
theorem impl_wordByte.ok : CtrOK Go.Proofs.Tryz.prog gl impl_wordByte.spec :=
  ctr_ok (T := impl_wordByte.T) (F := impl_wordByte.F) (lb := impl_wordByte.lb) (st := impl_wordByte.st) (step := impl_wordByte.step) (md := impl_wordByte.md) tabs impl_wordByte.text impl_wordByte.seg_eq (fun n x => ⟨.p0 x.1, rfl, rfl, rfl⟩) (consC impl_digitByte.ok (consC impl_letterByte.ok (nilC)))

/-! loop.example/g00039/impl.isName -/
def impl_isName.T : List Ctr := [impl_digitByte.spec, impl_wordByte.spec]
def impl_isName.md : List (Nat × List Md) := []
noncomputable def impl_isName.F : Fun := ⟨(Go.Proofs.Tryz.f92.body).getD .skip, [.v .str], [(.tmp 2, .bool)], [], 0, [(4, ⟨[0, 15], [], [], false⟩), (15, ⟨[0, 17, 18], [], [], false⟩)]⟩
inductive impl_isName.Pt where
  | p0 (a0 : ByteArray)
  | p4 (y1 : ByteArray) (y2 : Bool)
  | p15 (y1 : ByteArray) (y2 : Int) (y3 : Int)
def impl_isName.lb : impl_isName.Pt → Nat
  | .p0 _ => 0
  | .p4 _ _ => 4
  | .p15 _ _ _ => 15
def impl_isName.st : impl_isName.Pt → St
  | .p0 a0 => enter [.v .str a0] 0
  | .p4 y1 y2 => ⟨[(0, .im .str y1), (15, .im .bool y2)], [], 0⟩
  | .p15 y1 y2 y3 => ⟨[(0, .im .str y1), (17, .im (.int .i64) y2), (18, .im (.int .i64) y3)], [], 0⟩
def impl_isName.step (n : Nat) (K : impl_isName.Pt → Option (Tup [.bool])) : impl_isName.Pt → Option (Tup [.bool])
  | .p0 a0 => cond (seq a0 (⟨#[]⟩ : ByteArray)) (K (.p4 a0 true)) (cond (decide ((40 : Int) < ((ByteArray.size a0) : Int))) (K (.p4 a0 true)) (cond (inB (0 : Int) (ByteArray.size a0)) ((impl_digitByte n (bt a0 (0 : Int))).bind fun r4 => K (.p4 a0 r4)) (none)))
  | .p4 y1 y2 => cond y2 (some false) (K (.p15 y1 ((ByteArray.size y1) : Int) (0 : Int)))
  | .p15 y1 y2 y3 => cond (decide (y3 < y2)) (cond (inB y3 (ByteArray.size y1)) ((impl_wordByte n (bt y1 y3)).bind fun r6 => cond (!r6) (some false) (K (.p15 y1 y2 (IntKind.wrap .i64 (y3 + (1 : Int)))))) (none)) (some true)
def impl_isName (n : Nat) (a0 : ByteArray) : Option (Tup [.bool]) := goRec impl_isName.step n (.p0 a0)
def impl_isName.spec : Ctr := ⟨92, [.v .str], [.bool], [], fun n x => impl_isName n x.1⟩
theorem impl_isName.seg_eq (n : Nat) (goto : Nat → St → Option (Tup [.bool])) (y : impl_isName.Pt) : seg ⟨ty, gl, impl_isName.md, calOf impl_isName.T n⟩ impl_isName.F.np impl_isName.F.ks goto (impl_isName.F.fin ⟨ty, gl, impl_isName.md, calOf impl_isName.T 0⟩ [.bool]) impl_isName.F.c (impl_isName.lb y) (impl_isName.st y) = impl_isName.step n (fun z => goto (impl_isName.lb z) (impl_isName.st z)) y := by
  cases y <;> kernel_rfl
theorem impl_isName.text : Text Go.Proofs.Tryz.prog impl_isName.F impl_isName.spec := ⟨⟨Go.Proofs.Tryz.f92, by kernel_rfl, by kernel_rfl, by decide +kernel, by kernel_rfl, by kernel_rfl, of_decide_eq_true (by kernel_rfl)⟩, fun _ => rfl, fun _ => rfl, rfl⟩
theorem impl_isName.ok : CtrOK Go.Proofs.Tryz.prog gl impl_isName.spec :=
  ctr_ok (T := impl_isName.T) (F := impl_isName.F) (lb := impl_isName.lb) (st := impl_isName.st) (step := impl_isName.step) (md := impl_isName.md) tabs impl_isName.text impl_isName.seg_eq (fun n x => ⟨.p0 x.1, rfl, rfl, rfl⟩) (consC impl_digitByte.ok (consC impl_wordByte.ok (nilC)))

/-! loop.example/g00039/impl.printed -/
def impl_printed.T : List Ctr := []
def impl_printed.md : List (Nat × List Md) := []
noncomputable def impl_printed.F : Fun := ⟨(Go.Proofs.Tryz.f164.body).getD .skip, [.v .str, .v (.int .i64)], [(.tmp 4, .bool)], [], 0, [(15, ⟨[0, 11, 12], [], [], false⟩)]⟩
inductive impl_printed.Pt where
  | p0 (a0 : ByteArray) (a1 : Int)
  | p15 (y1 : ByteArray) (y2 : Int) (y3 : Int)
def impl_printed.lb : impl_printed.Pt → Nat
  | .p0 _ _ => 0
  | .p15 _ _ _ => 15
def impl_printed.st : impl_printed.Pt → St
  | .p0 a0 a1 => enter [.v .str a0, .v (.int .i64) a1] 0
  | .p15 y1 y2 y3 => ⟨[(0, .im .str y1), (11, .im (.int .i64) y2), (12, .im (.int .i64) y3)], [], 0⟩
def impl_printed.step (n : Nat) (K : impl_printed.Pt → Option (Tup [.bool])) : impl_printed.Pt → Option (Tup [.bool])
  | .p0 a0 a1 => cond (decide (a1 < ((ByteArray.size a0) : Int))) (some false) (K (.p15 a0 ((ByteArray.size a0) : Int) (0 : Int)))
  | .p15 y1 y2 y3 => cond (decide (y3 < y2)) (cond (inB y3 (ByteArray.size y1)) (cond (decide ((bt y1 y3) < (32 : Int))) (some false) (cond (inB y3 (ByteArray.size y1)) (cond (decide ((126 : Int) < (bt y1 y3))) (some false) (K (.p15 y1 y2 (IntKind.wrap .i64 (y3 + (1 : Int)))))) (none))) (none)) (some true)
def impl_printed (n : Nat) (a0 : ByteArray) (a1 : Int) : Option (Tup [.bool]) := goRec impl_printed.step n (.p0 a0 a1)
def impl_printed.spec : Ctr := ⟨164, [.v .str, .v (.int .i64)], [.bool], [], fun n x => impl_printed n x.1 x.2.1⟩
theorem impl_printed.seg_eq (n : Nat) (goto : Nat → St → Option (Tup [.bool])) (y : impl_printed.Pt) : seg ⟨ty, gl, impl_printed.md, calOf impl_printed.T n⟩ impl_printed.F.np impl_printed.F.ks goto (impl_printed.F.fin ⟨ty, gl, impl_printed.md, calOf impl_printed.T 0⟩ [.bool]) impl_printed.F.c (impl_printed.lb y) (impl_printed.st y) = impl_printed.step n (fun z => goto (impl_printed.lb z) (impl_printed.st z)) y := by
  cases y <;> kernel_rfl
theorem impl_printed.text : Text Go.Proofs.Tryz.prog impl_printed.F impl_printed.spec := ⟨⟨Go.Proofs.Tryz.f164, by kernel_rfl, by kernel_rfl, by decide +kernel, by kernel_rfl, by kernel_rfl, of_decide_eq_true (by kernel_rfl)⟩, fun _ => rfl, fun _ => rfl, rfl⟩
theorem impl_printed.ok : CtrOK Go.Proofs.Tryz.prog gl impl_printed.spec :=
  ctr_ok (T := impl_printed.T) (F := impl_printed.F) (lb := impl_printed.lb) (st := impl_printed.st) (step := impl_printed.step) (md := impl_printed.md) tabs impl_printed.text impl_printed.seg_eq (fun n x => ⟨.p0 x.1 x.2.1, rfl, rfl, rfl⟩) (nilC)

/-! strings.IndexByte -/
def strings_IndexByte (n : Nat) (a0 : ByteArray) (a1 : Int) : Option Int := hold n (some (Lib.indexByte a0.data.toList a1.toNat.toUInt8))
def strings_IndexByte.spec : Ctr := ⟨207, [.v .str, .v (.int .u8)], [.int .i64], [], fun n x => strings_IndexByte n x.1 x.2.1⟩
section
open Go.Proofs
def layIndexByte_ren : Go.Shelf.Ren := ⟨fun | 137 => 207 | 217 => 209 | 266 => 210 | n => n, fun | 9 => 9 | 5 => 5 | 3 => 3 | n => n, fun | n => n⟩
theorem layIndexByte : Go.Proofs.Lays.n137 Tryz.prog layIndexByte_ren where
  mixed := by kernel_rfl
  f137 := Tryz.func207.trans (congrArg some (by kernel_rfl))
  f217 := Tryz.func209.trans (congrArg some (by kernel_rfl))
  f266 := Tryz.func210.trans (congrArg some (by kernel_rfl))
  t3 := Tryz.underlying3
  a3 := Tryz.isAgg3
  z3 := Tryz.sizeOf3
  v3 := Tryz.zeroValue3
  t5 := Tryz.underlying5
  a5 := Tryz.isAgg5
  z5 := Tryz.sizeOf5
  v5 := Tryz.zeroValue5
  t9 := Tryz.underlying9
  a9 := Tryz.isAgg9
  z9 := Tryz.sizeOf9
  v9 := Tryz.zeroValue9

end
theorem strings_IndexByte.ok : CtrOK Go.Proofs.Tryz.prog gl strings_IndexByte.spec := by
  refine fun n => ⟨⟨Go.Proofs.Tryz.f207, by kernel_rfl, by kernel_rfl, by decide +kernel⟩, ?_⟩
  rintro ⟨a0, a1, ⟨⟩⟩ y hy
  obtain rfl := Option.some.inj (hold_some hy)
  intro w vs S L harg _ hL hSL hG
  change ArgsRep w [Arg.v .str a0, Arg.v (.int .u8) a1] vs S L at harg
  unfold ArgsRep at harg
  obtain ⟨v0, vr, S1, S2, L1, L2, rfl, rfl, rfl, h1, harg⟩ := harg
  unfold ArgsRep at harg
  obtain ⟨v1, vr, S3, S4, L3, L4, rfl, rfl, rfl, h2, harg⟩ := harg
  unfold ArgsRep at harg
  obtain ⟨rfl, rfl, rfl⟩ := harg
  unfold ArgRep at h1 h2
  obtain ⟨_, ⟨cs, rfl, rfl, rfl⟩, rfl⟩ := h1
  obtain ⟨_, ⟨cs, rfl, rfl, rfl⟩, rfl⟩ := h2
  refine (Go.Proofs.Any.strings_IndexByte layIndexByte a0 a1 w).mono ?_
  rintro e w' ⟨rfl, rfl⟩
  refine ⟨[.int .i64 (Lib.indexByte a0.data.toList a1.toNat.toUInt8)], [], [], rfl, ⟨_, [], [], [], rfl, rfl, rfl, ⟨rfl, rfl⟩, rfl, rfl⟩, ?_, by simp, by simp, rfl, rfl, rfl, Nat.le_refl _, fun _ _ _ => rfl⟩
  change OutsRep w' [Arg.v .str a0, Arg.v (.int .u8) a1] _ _ _
  simp only [OutsRep, OutRep]
  exact ⟨_, _, [], [], [], [], rfl, rfl, rfl, ⟨rfl, rfl⟩, _, _, [], [], [], [], rfl, rfl, rfl, ⟨rfl, rfl⟩, rfl, rfl⟩


/-! loop.example/g00039/impl.alternatives$1 -/
abbrev PC : U := .pair (.int .u8) (.pair .bool (.pair .bool .unit))
def impl_alternatives_1 (n : Nat) (a0 : PC.El) (a1 : List (List PC.El)) : Option (List (List PC.El)) :=
  hold n (cond (decide (a1 ≠ [] ∧ a1.length ≤ 1000000 ∧ (a1.getD (a1.length - 1) []).length ≤ 1000000)) (some (a1.set (a1.length - 1) (a1.getD (a1.length - 1) [] ++ [a0]))) none)
def impl_alternatives_1.spec : Ctr := ⟨206, [.v PC, .p (.sl false (.sl false PC))], [], [.sl false (.sl false PC)], fun n x => impl_alternatives_1 n x.1 x.2.1⟩
section
open Go.RowKit Go.Proofs
set_option maxHeartbeats 8000000 in
set_option maxRecDepth 100000 in
theorem put_calls (ht : TyOK Tryz.prog 241 (.sl false PC)) (c : Int) (x y : Bool) (b g q cap : Nat) (cur : Array Value) (v : Value) (l : List PC.El) (T1 T2 : TypeId) (fz : Nat × Nat) (F2 : List Nat) (W : World)
    (hb : W.heap[b]? = some (.cells #[.slice (some ⟨g, 0, none⟩) (q + 1) cap] T1 (0, 0))) (hg : W.heap[g]? = some (.cells cur T2 fz)) (hfz : ∀ j, j < cur.size → ¬ (fz.1 ≤ j ∧ j < fz.2))
    (hn2 : q ≤ 1000000) (hv : cur[q]? = some v) (hs : SlRep W true false 3 (Rep W true PC) l v F2) (hF2 : F2.Nodup) (hbF : b ∉ F2) (hgF : g ∉ F2) (hbg : b ≠ g) (hl : l.length ≤ 1000000) :
    Calls Tryz.prog 206 #[.agg #[.int .u8 c, .bool x, .bool y], .pointer (some ⟨b, 0, none⟩)] W fun e w' => e = .returned (.tuple #[]) ∧ ∃ v1 F3,
      SlRep w' true false 3 (Rep w' true PC) (l ++ [(c, x, y, ())]) v1 F3 ∧ F3.Nodup ∧ w'.heap[g]? = some (.cells (cur.setIfInBounds q v1) T2 fz) ∧ w'.os = W.os ∧ w'.tape = W.tape ∧ w'.output = W.output ∧ W.heap.size ≤ w'.heap.size ∧
      (∀ k, k < W.heap.size → k ≠ g → k ∉ F2 → w'.heap[k]? = W.heap[k]?) ∧ (∀ k ∈ F3, k < w'.heap.size ∧ (k < W.heap.size → k ∈ F2)) := by
  have e1 : wrap64 (((q + 1 : Nat) : Int) - 1) = (q : Int) := by unfold wrap64; omega
  have e2 : wrap64 (q : Int) = (q : Int) := by unfold wrap64; omega
  have hlt := lt_of_heap hb
  have hltg := lt_of_heap hg
  have hqs : q < cur.size := by
    rcases Nat.lt_or_ge q cur.size with h | h
    · exact h
    · rw [Array.getElem?_eq_none h] at hv; cases hv
  go_enter Tryz.func206, Tryz.ntmps206
  go_wp2
  have hbx : (W.alloc (.cells #[.int .u8 c, .bool x, .bool y] 240)).drew.heap[W.heap.size]? = some (.cells #[.int .u8 c, .bool x, .bool y] 240 (0, 0)) := alloc_new W _
  have hold : ∀ k, k < W.heap.size → (W.alloc (.cells #[.int .u8 c, .bool x, .bool y] 240)).drew.heap[k]? = W.heap[k]? := fun k hk => alloc_old W _ hk
  have hb1 := (hold b hlt).trans hb
  have hg1 := (hold g hltg).trans hg
  have hsz1 : (W.alloc (.cells #[.int .u8 c, .bool x, .bool y] 240)).drew.heap.size = W.heap.size + 1 := alloc_sz _ _
  have hFlt : ∀ k ∈ F2, k < W.heap.size := fun k hk => Rep.block_lt (u := .sl false PC) (cs := [v]) ⟨v, rfl, .inl hs⟩ k hk
  have hs1 : SlRep (W.alloc (.cells #[.int .u8 c, .bool x, .bool y] 240)).drew true false 3 (Rep (W.alloc (.cells #[.int .u8 c, .bool x, .bool y] 240)).drew true PC) l v F2 := SlRep.frame (u := PC) (fun k hk => hold k (hFlt k hk)) hs
  have hos1 : (W.alloc (.cells #[.int .u8 c, .bool x, .bool y] 240)).drew.os = W.os ∧ (W.alloc (.cells #[.int .u8 c, .bool x, .bool y] 240)).drew.tape = W.tape ∧ (W.alloc (.cells #[.int .u8 c, .bool x, .bool y] 240)).drew.output = W.output := ⟨rfl, rfl, rfl⟩
  refine start_ (n := 15) (S := fun w' => w'.cell? ⟨b, 0, none⟩ = some (.slice (some ⟨g, 0, none⟩) (q + 1) cap) ∧ w'.cell? ⟨g, q, none⟩ = some v ∧ w'.cell? ⟨W.heap.size, 0, none⟩ = some (.int .u8 c) ∧ w'.cell? ⟨W.heap.size, 1, none⟩ = some (.bool x) ∧ w'.cell? ⟨W.heap.size, 2, none⟩ = some (.bool y)) (ds := [14]) #[false, false, false, false, false, false, false, false, false, false, false, false, false, false, false] (by kernel_rfl) rfl rfl ⟨(cell_row hb1).trans rfl, (cell_row hg1).trans hv, (cell_row hbx).trans rfl, (cell_row hbx).trans rfl, (cell_row hbx).trans rfl⟩ (fun hHeld => ?_)
  generalize (W.alloc (.cells #[.int .u8 c, .bool x, .bool y] 240)).drew = W1 at hold hsz1 hbx hb1 hg1 hs1 hos1 hHeld ⊢
  refine take_ (i := 0) (N := some 3) (v := ?_) (a' := ?_) #[true, false, false, false, false, false, false, false, false, false, false, false, false, false, false] rfl rfl (by kernel_rfl) (fun _ _ _ h => h) (Or.inl ⟨by rfl, ?_⟩) hHeld ?_ ?_
  rotate_left
  · rintro w' ⟨s0, s1, s2, s3, s4⟩
    go_simp
    try with_reducible rfl
  rotate_left
  · simp only [Act.put, List.setIfInBounds_toArray, List.set_cons_zero, List.set_cons_succ, i64_w, i32_w]
    rfl
  refine take_ (i := 1) (N := some 4) (v := ?_) (a' := ?_) #[true, true, false, false, false, false, false, false, false, false, false, false, false, false, false] rfl rfl (by kernel_rfl) (fun _ _ _ h => h) (Or.inl ⟨by rfl, ?_⟩) hHeld ?_ ?_
  rotate_left
  · rintro w' ⟨s0, s1, s2, s3, s4⟩
    go_simp
    try with_reducible rfl
  rotate_left
  · simp only [Act.put, List.setIfInBounds_toArray, List.set_cons_zero, List.set_cons_succ, i64_w, i32_w]
    rfl
  refine pure_ (i := 2) (N := some 5) (v := ?_) (a' := ?_) #[true, true, true, false, false, false, false, false, false, false, false, false, false, false, false] rfl rfl (by kernel_rfl) (fun _ _ _ h => h) (Or.inl ⟨by rfl, ?_⟩) ?_ ?_
  rotate_left
  · intro w'
    go_simp
    try with_reducible rfl
  rotate_left
  · simp only [Act.put, List.setIfInBounds_toArray, List.set_cons_zero, List.set_cons_succ, i64_w, i32_w]
    rfl
  refine pure_ (i := 3) (N := some 6) (v := ?_) (a' := ?_) #[true, true, true, true, false, false, false, false, false, false, false, false, false, false, false] rfl rfl (by kernel_rfl) (fun _ _ _ h => h) (Or.inl ⟨by rfl, ?_⟩) ?_ ?_
  rotate_left
  · intro w'
    go_simp
    try with_reducible rfl
  rotate_left
  · simp only [Act.put, List.setIfInBounds_toArray, List.set_cons_zero, List.set_cons_succ, i64_w, i32_w]
    rfl
  refine take_ (i := 4) (N := some 7) (v := ?_) (a' := ?_) #[true, true, true, true, true, false, false, false, false, false, false, false, false, false, false] rfl rfl (by kernel_rfl) (fun _ _ _ h => h) (Or.inl ⟨by rfl, ?_⟩) hHeld ?_ ?_
  rotate_left
  · rintro w' ⟨s0, s1, s2, s3, s4⟩
    go_simp
    try with_reducible rfl
  rotate_left
  · simp only [Act.put, List.setIfInBounds_toArray, List.set_cons_zero, List.set_cons_succ, i64_w, i32_w]
    rfl
  refine take_ (i := 5) (N := some 8) (v := ?_) (a' := ?_) #[true, true, true, true, true, true, false, false, false, false, false, false, false, false, false] rfl rfl (by kernel_rfl) (fun _ _ _ h => h) (Or.inl ⟨by rfl, ?_⟩) hHeld ?_ ?_
  rotate_left
  · rintro w' ⟨s0, s1, s2, s3, s4⟩
    go_simp
    try with_reducible rfl
  rotate_left
  · simp only [Act.put, List.setIfInBounds_toArray, List.set_cons_zero, List.set_cons_succ, i64_w, i32_w]
    rfl
  refine pure_ (i := 6) (N := some 9) (v := ?_) (a' := ?_) #[true, true, true, true, true, true, true, false, false, false, false, false, false, false, false] rfl rfl (by kernel_rfl) (fun _ _ _ h => h) (Or.inl ⟨by rfl, ?_⟩) ?_ ?_
  rotate_left
  · intro w'
    go_simp
    try with_reducible rfl
  rotate_left
  · simp only [Act.put, List.setIfInBounds_toArray, List.set_cons_zero, List.set_cons_succ, i64_w, i32_w]
    rfl
  refine pure_ (i := 7) (N := some 10) (v := ?_) (a' := ?_) #[true, true, true, true, true, true, true, true, false, false, false, false, false, false, false] rfl rfl (by kernel_rfl) (fun _ _ _ h => h) (Or.inl ⟨by rfl, ?_⟩) ?_ ?_
  rotate_left
  · intro w'
    go_simp
    try with_reducible rfl
  rotate_left
  · simp only [Act.put, List.setIfInBounds_toArray, List.set_cons_zero, List.set_cons_succ, i64_w, i32_w]
    rfl
  refine pure_ (i := 8) (N := some 11) (v := ?_) (a' := ?_) #[true, true, true, true, true, true, true, true, true, false, false, false, false, false, false] rfl rfl (by kernel_rfl) (fun _ _ _ h => h) (Or.inl ⟨by rfl, ?_⟩) ?_ ?_
  rotate_left
  · intro w'
    go_simp
    rw [if_pos (by omega)]
  rotate_left
  · simp only [Act.put, List.setIfInBounds_toArray, List.set_cons_zero, List.set_cons_succ, i64_w, i32_w]
    rfl
  refine take_ (i := 9) (N := some 12) (v := ?_) (a' := ?_) #[true, true, true, true, true, true, true, true, true, true, false, false, false, false, false] rfl rfl (by kernel_rfl) (fun _ _ _ h => h) (Or.inl ⟨by rfl, ?_⟩) hHeld ?_ ?_
  rotate_left
  · rintro w' ⟨s0, s1, s2, s3, s4⟩
    go_simp
    try with_reducible rfl
  rotate_left
  · simp only [Act.put, List.setIfInBounds_toArray, List.set_cons_zero, List.set_cons_succ, i64_w, i32_w]
    rfl
  refine take_ (i := 10) (N := some 13) (v := ?_) (a' := ?_) #[true, true, true, true, true, true, true, true, true, true, true, false, false, false, false] rfl rfl (by kernel_rfl) (fun _ _ _ h => h) (Or.inl ⟨by rfl, ?_⟩) hHeld ?_ ?_
  rotate_left
  · rintro w' ⟨s0, s1, s2, s3, s4⟩
    go_simp
    try with_reducible rfl
  rotate_left
  · simp only [Act.put, List.setIfInBounds_toArray, List.set_cons_zero, List.set_cons_succ, i64_w, i32_w]
    rfl
  clear hHeld
  have hW2 : ∀ k, k < W1.heap.size → (W1.alloc (.cells #[.int .u8 c, .bool x, .bool y] 240)).heap[k]? = W1.heap[k]? := fun k hk => alloc_old W1 _ hk
  have hnew : (W1.alloc (.cells #[.int .u8 c, .bool x, .bool y] 240)).heap[W1.heap.size]? = some (.cells #[.int .u8 c, .bool x, .bool y] 240 (0, 0)) := alloc_new W1 _
  have hb2 := (hW2 b (lt_of_heap hb1)).trans hb1
  have hg2 := (hW2 g (lt_of_heap hg1)).trans hg1
  have hbx2 := (hW2 _ (lt_of_heap hbx)).trans hbx
  refine one_ (i := 11) (N := some 14) #[true, true, true, true, true, true, true, true, true, true, true, true, false, false, false] rfl rfl (by kernel_rfl) (by decide) (fun K hK => ?_)
  refine event_step (w1 := W1.alloc (.cells #[.int .u8 c, .bool x, .bool y] 240)) (v := .slice (some ⟨W1.heap.size, 0, none⟩) 1 1) (by rfl) (by first | (go_simp; done) | (go_simp; rfl)) ?_
  refine hK.out _ _ ⟨(cell_row hb2).trans rfl, (cell_row hg2).trans hv, (cell_row hbx2).trans rfl, (cell_row hbx2).trans rfl, (cell_row hbx2).trans rfl⟩ (fun hHeld => ?_)
  clear hK K hHeld
  refine norm_ (a' := ?_) ?_ ?_
  rotate_left
  · show Act.put _ (some 14) _ = _
    simp only [Act.put, List.setIfInBounds_toArray, List.set_cons_zero, List.set_cons_succ, i64_w, i32_w]
    rfl
  have hs2 : SlRep (W1.alloc (.cells #[.int .u8 c, .bool x, .bool y] 240)) true false 3 (Rep (W1.alloc (.cells #[.int .u8 c, .bool x, .bool y] 240)) true PC) l v F2 := SlRep.frame (u := PC) (fun k hk => hW2 k (by have := hFlt k hk; omega)) hs1
  obtain ⟨v1, w2, F3, hrun, hs3, hF3, ho1, ho2, ho3, hsz2, hfr, hF3b⟩ := append_run (P := Tryz.prog) (ty := 241) (t := 241) (e := false) (u := PC) (l := l) (m := [(c, x, y, ())]) (dd := ⟨W1.heap.size, 0, none⟩) (cs := [.int .u8 c, .bool x, .bool y]) ht rfl hs2 hF2
    ⟨[.int .u8 c, .bool x, .bool y], [], [], [], rfl, rfl, ⟨[.int .u8 c], [.bool x, .bool y], [], [], rfl, rfl, ⟨rfl, rfl⟩, [.bool x], [.bool y], [], [], rfl, rfl, ⟨rfl, rfl⟩, [.bool y], [], [], [], rfl, rfl, ⟨rfl, rfl⟩, rfl, rfl⟩, rfl, rfl⟩
    (cells_at (p := []) (q := []) rfl hnew rfl rfl) (by simp) (by simp; omega) 1
  have hsz3 : (W1.alloc (.cells #[.int .u8 c, .bool x, .bool y] 240)).heap.size = W1.heap.size + 1 := alloc_sz _ _
  refine one_ (i := 12) (N := some 15) #[true, true, true, true, true, true, true, true, true, true, true, true, true, false, false] rfl rfl (by kernel_rfl) (by decide) (fun K hK => ?_)
  refine event_step (w1 := w2) (v := v1) (by rfl) ?_ ?_
  · exact append_op (x := .tmp 12) (y := .tmp 14) (t := 241) rfl hrun
  have hb3 := (hfr b (by omega) hbF).trans hb2
  have hg3 := (hfr g (by omega) hgF).trans hg2
  have hbx3 := (hfr W.heap.size (by omega) (fun h => by have := hFlt _ h; omega)).trans hbx2
  refine hK.out _ _ ⟨(cell_row hb3).trans rfl, (cell_row hg3).trans hv, (cell_row hbx3).trans rfl, (cell_row hbx3).trans rfl, (cell_row hbx3).trans rfl⟩ (fun hHeld => ?_)
  clear hK K hHeld
  refine norm_ (a' := ?_) ?_ ?_
  rotate_left
  · show Act.put _ (some 15) _ = _
    simp only [Act.put, List.setIfInBounds_toArray, List.set_cons_zero, List.set_cons_succ, i64_w, i32_w]
    rfl
  refine pure_ (i := 13) (N := some 16) (v := ?_) (a' := ?_) #[true, true, true, true, true, true, true, true, true, true, true, true, true, true, false] rfl rfl (by kernel_rfl) (fun _ _ _ h => h) (Or.inl ⟨by rfl, ?_⟩) ?_ ?_
  rotate_left
  · intro w'
    go_simp
    rw [if_pos (by omega)]
  rotate_left
  · simp only [Act.put, List.setIfInBounds_toArray, List.set_cons_zero, List.set_cons_succ, i64_w, i32_w]
    rfl
  have hcq : w2.cell? ⟨g, q, none⟩ = some v := (cell_row hg3).trans hv
  have hfq : w2.frozen? ⟨g, q, none⟩ = false := frozen_row hg3 (hfz q hqs)
  obtain ⟨A1, n1, c1, e1'⟩ : ∃ A n c, v1 = Value.slice A n c := by
    rcases hs3 with ⟨h0, _⟩ | ⟨_, _, _, _, _, _, _, _, _, h0, _⟩ <;> exact ⟨_, _, _, h0⟩
  subst e1'
  refine last_ (i := 14) (N := none) #[true, true, true, true, true, true, true, true, true, true, true, true, true, true, true] rfl rfl (by kernel_rfl) (by decide) (fun K hK => ?_)
  refine skip_step (w1 := w2.setCell ⟨g, q, none⟩ (.slice A1 n1 c1)) (by rfl) rfl ?_ ?_
  · go_simp
  refine hK.out _ _ ?_
  clear hK K
  refine done_ (by kernel_rfl) ?_
  rw [setCell_put hg3]
  have hgF3 : g ∉ F3 := fun h => hgF ((hF3b g h).2 (by omega))
  have hoth : ∀ k, k ≠ g → (putB w2 g (.cells (cur.setIfInBounds q (.slice A1 n1 c1)) T2 fz)).heap[k]? = w2.heap[k]? := fun k hk => putB_other hk
  go_end0
  refine ⟨rfl, _, F3, SlRep.frame (u := PC) (fun k hk => hoth k (fun e => hgF3 (e ▸ hk))) hs3, hF3, putB_same (lt_of_heap hg3), ho1.trans hos1.1, ho2.trans hos1.2.1, ho3.trans hos1.2.2, by rw [putB_sz]; omega, ?_, ?_⟩
  · intro k hk hkg hkF
    rw [hoth k hkg, hfr k (by omega) hkF, hW2 k (by omega), hold k hk]
  · intro k hk
    have := hF3b k hk
    rw [putB_sz]
    exact ⟨this.1, fun h => this.2 (by omega)⟩
theorem impl_alternatives_1.ok : CtrOK Tryz.prog gl impl_alternatives_1.spec := by
  have ht : TyOK Tryz.prog 241 (.sl false PC) := tabs.ty _ _ (by kernel_rfl)
  intro n
  refine ⟨⟨Tryz.f206, by kernel_rfl, by kernel_rfl, by decide +kernel⟩, ?_⟩
  rintro ⟨x, out, ⟨⟩⟩ y hy
  obtain ⟨hc, hy⟩ := cond_none (hold_some hy)
  simp only [decide_eq_true_eq] at hc
  obtain ⟨hne, hlen, hlast⟩ := hc
  have hy : out.set (out.length - 1) (out.getD (out.length - 1) [] ++ [x]) = y := Option.some.inj hy
  subst hy
  intro w vs S L harg _ hL hSL hG
  change ArgsRep w [Arg.v PC x, Arg.p (.sl false (.sl false PC)) out] vs S L at harg
  unfold ArgsRep at harg
  obtain ⟨v0, vr, S1, S2, L1, L2, rfl, rfl, rfl, h1, harg⟩ := harg
  unfold ArgsRep at harg
  obtain ⟨v1, vr, S3, S4, L3, L4, rfl, rfl, rfl, h2, harg⟩ := harg
  unfold ArgsRep at harg
  obtain ⟨rfl, rfl, rfl⟩ := harg
  unfold ArgRep at h1 h2
  obtain ⟨_, ⟨cs, rfl, c1, d1, G1, H1, rfl, rfl, ⟨rfl, rfl⟩, c2, d2, G2, H2, rfl, rfl, ⟨rfl, rfl⟩, c3, d3, G3, H3, rfl, rfl, ⟨rfl, rfl⟩, rfl, rfl⟩, rfl⟩ := h1
  obtain ⟨_, rfl, b, c, T1, G, rfl, hw, ⟨v, hcv, hs⟩, rfl⟩ := h2
  have hs := hs.resolve_right bare_no
  rcases hs with ⟨_, h0, _⟩ | ⟨ad, cap, cc, T2, fz, p, m, q, G0, rfl, hsp, _, hcap, hh, hcc, hp, hr, rfl, how⟩
  · exact absurd h0 hne
  obtain ⟨hoff, hfz, hcsz, hcm⟩ := how rfl
  have hp0 : p = [] := List.eq_nil_of_length_eq_zero (by omega)
  subst hp0
  have hlp : 0 < out.length := List.length_pos_iff.2 hne
  obtain ⟨m1, m2, m3, F1, F2, F3, rfl, rfl, hm1, ⟨v2, rfl, hs2⟩, hr1, hr3, _⟩ := RepL.at (n := 1) (fun _ _ _ h => Rep.length h) ([] : List PC.El) (out.length - 1) hr (by omega)
  have hs2 := hs2.resolve_right bare_no
  simp only [List.nil_append, List.append_nil] at hL hcc ⊢
  have hblk : ad = ⟨ad.block, 0, none⟩ := by
    obtain ⟨a1, a2, a3⟩ := ad
    simp only at hoff hsp
    rw [hoff, hsp]
  generalize ad.block = g at *
  subst hblk
  have hcarr : c = #[.slice (some ⟨g, 0, none⟩) (out.length - 1 + 1) cap] := by
    apply Array.toList_inj.1
    rw [hcv]
    simp; omega
  subst hcarr
  simp only [List.nodup_cons, List.nodup_append, List.mem_cons, List.mem_append, not_or] at hL
  obtain ⟨⟨hbg, ⟨hb1, hb2⟩, hb3⟩, ⟨⟨hg1, hg2⟩, hg3⟩, ⟨n1, n2, n12⟩, n3, n123⟩ := hL
  have hq1 : out.length - 1 < cc.size := by
    have := congrArg List.length hcc
    simp at this; omega
  have hcv2 : cc[out.length - 1]? = some v2 := by
    rw [← Array.getElem?_toList, hcc]
    simp [List.append_assoc, hm1, List.getElem?_append_right]
  have hput := put_calls ht x.1 x.2.1 x.2.2.1 b g (out.length - 1) cap cc v2 _ T1 T2 fz F2 w hw hh hfz (by omega) hcv2 hs2 n2 hb2 hg2 hbg hlast
  refine Calls.mono hput ?_
  rintro e w' ⟨rfl, v3, F4, hs3, hF4, hg', ho1, ho2, ho3, hsz, hfr, hF4b⟩
  have hblt : b < w.heap.size := lt_of_heap hw
  have hglt : g < w.heap.size := lt_of_heap hh
  have hlt1 : ∀ k ∈ F1, k < w.heap.size := fun k hk => RepL.block_lt (u := .sl false PC) (fun h => Rep.block_lt h) hr1 k hk
  have hlt3 : ∀ k ∈ F3, k < w.heap.size := fun k hk => RepL.block_lt (u := .sl false PC) (fun h => Rep.block_lt h) hr3 k hk
  have hfr1 : ∀ k ∈ F1, w'.heap[k]? = w.heap[k]? := fun k hk => hfr k (hlt1 k hk) (fun e => hg1 (e ▸ hk)) (fun h => n12 k hk k h rfl)
  have hfr3 : ∀ k ∈ F3, w'.heap[k]? = w.heap[k]? := fun k hk => hfr k (hlt3 k hk) (fun e => hg3 (e ▸ hk)) (fun h => n123 k (.inr h) k hk rfl)
  have hb' : w'.heap[b]? = w.heap[b]? := hfr b hblt hbg hb2
  have k1 := RepL.imp (R := Rep w true (.sl false PC)) (S := Rep w' true (.sl false PC)) (fun x c G hG h => Rep.frame (fun k hk => hfr1 k (hG k hk)) h) hr1
  have k3 := RepL.imp (R := Rep w true (.sl false PC)) (S := Rep w' true (.sl false PC)) (fun x c G hG h => Rep.frame (fun k hk => hfr3 k (hG k hk)) h) hr3
  have k2 : RepL (Rep w' true (.sl false PC)) [out.getD (out.length - 1) [] ++ [x]] [v3] F4 := ⟨[v3], [], F4, [], by simp, by simp, ⟨v3, rfl, .inl hs3⟩, rfl, rfl⟩
  have kk := RepL.append (RepL.append k1 k2) k3
  have hset : out.take (out.length - 1) ++ [out.getD (out.length - 1) [] ++ [x]] ++ out.drop (out.length - 1 + 1) = out.set (out.length - 1) (out.getD (out.length - 1) [] ++ [x]) := by
    rw [List.set_eq_take_append_cons_drop, if_pos (by omega)]; simp
  rw [hset] at kk
  have hF41 : ∀ k ∈ F4, k ∉ F1 ∧ k ∉ F3 ∧ k ≠ g ∧ k ≠ b := by
    intro k hk
    have h5 := hF4b k hk
    refine ⟨fun h => ?_, fun h => ?_, fun h => ?_, fun h => ?_⟩
    · exact n12 k h k (h5.2 (hlt1 k h)) rfl
    · exact n123 k (.inr (h5.2 (hlt3 k h))) k h rfl
    · subst h; exact hg2 (h5.2 hglt)
    · subst h; exact hb2 (h5.2 hblt)
  refine ⟨[], [], b :: g :: (F1 ++ F4 ++ F3), rfl, ⟨rfl, rfl⟩, ?_, ?_, ?_, ho1, ho2, ho3, hsz, ?_⟩
  · change OutsRep w' [Arg.v PC x, Arg.p (.sl false (.sl false PC)) out] _ _ _
    simp only [OutsRep, OutRep]
    refine ⟨_, _, [], _, [], _, rfl, rfl, rfl, ⟨rfl, rfl⟩, _, _, _, [], _, [], rfl, (List.append_nil _).symm, (List.append_nil _).symm, ⟨_, b, _, T1, g :: (F1 ++ F4 ++ F3), rfl, rfl, hb'.trans hw, ⟨_, rfl, .inl (.inr ⟨⟨g, 0, none⟩, cap, _, T2, fz, [], m1 ++ [v3] ++ m3, q, F1 ++ F4 ++ F3, ?_, rfl, by simp, ?_, hg', ?_, rfl, kk, rfl, fun _ => ⟨rfl, ?_, ?_, hcm⟩⟩)⟩, rfl⟩, rfl, rfl⟩
    · simp; omega
    · simp; omega
    · rw [Array.toList_setIfInBounds, hcc]
      simp only [List.append_assoc]
      rw [List.set_append_right _ _ (by omega), hm1]
      simp
    · intro j hj
      rw [Array.size_setIfInBounds] at hj
      exact hfz j hj
    · rw [Array.size_setIfInBounds]; exact hcsz
  · simp only [List.nil_append, List.nodup_cons, List.nodup_append, List.mem_cons, List.mem_append, not_or]
    refine ⟨⟨hbg, ⟨hb1, fun h => (hF41 b h).2.2.2 rfl⟩, hb3⟩, ⟨⟨hg1, fun h => (hF41 g h).2.2.1 rfl⟩, hg3⟩, ⟨n1, hF4, fun i hi j hj e => (hF41 j hj).1 (e ▸ hi)⟩, n3, fun i hi j hj e => ?_⟩
    rcases hi with hi | hi
    · exact n123 i (.inl hi) j hj e
    · exact (hF41 i hi).2.1 (e ▸ hj)
  · intro k hk
    simp only [List.nil_append, List.mem_cons, List.mem_append] at hk ⊢
    rcases hk with rfl | rfl | (hk | hk) | hk
    · exact ⟨by omega, fun _ => .inl rfl⟩
    · exact ⟨by omega, fun _ => .inr (.inl rfl)⟩
    · exact ⟨by have := hlt1 k hk; omega, fun _ => .inr (.inr (.inl (.inl hk)))⟩
    · exact ⟨(hF4b k hk).1, fun h => .inr (.inr (.inl (.inr ((hF4b k hk).2 h))))⟩
    · exact ⟨by have := hlt3 k hk; omega, fun _ => .inr (.inr (.inr hk))⟩
  · intro k hk hkL
    simp only [List.mem_cons, List.mem_append, not_or] at hkL
    exact hfr k hk hkL.2.1 hkL.2.2.1.2
end


/-! loop.example/g00039/impl.alternatives -/
def impl_alternatives.T : List Ctr := [impl_printed.spec, strings_IndexByte.spec, impl_alternatives_1.spec]
def impl_alternatives.md : List (Nat × List Md) := [(206, [.v, .p (.sl false (.sl false (.pair (.int .u8) (.pair .bool (.pair .bool .unit)))))]), (1000206, [.p (.sl false (.sl false (.pair (.int .u8) (.pair .bool (.pair .bool .unit)))))])]
noncomputable def impl_alternatives.F : Fun := ⟨(Go.Proofs.Tryz.f200.body).getD .skip, [.v .str], [(.tmp 2, (.sl false (.sl false (.pair (.int .u8) (.pair .bool (.pair .bool .unit)))))), (.tmp 3, .bool)], [], 0, [(19, ⟨[0, 4, 5, 6], [], [(4, 0, (.sl false (.pair (.int .u8) (.pair .bool (.pair .bool .unit)))))], false⟩), (51, ⟨[0, 4, 5, 6, 56], [], [(4, 0, (.sl false (.pair (.int .u8) (.pair .bool (.pair .bool .unit)))))], false⟩)]⟩
inductive impl_alternatives.Pt where
  | p0 (a0 : ByteArray)
  | p19 (y1 : ByteArray) (y2 : Int) (y3 : List (List ((Int) × ((Bool) × ((Bool) × (Unit))))))
  | p51 (y1 : ByteArray) (y2 : Int) (y3 : Bool) (y4 : List (List ((Int) × ((Bool) × ((Bool) × (Unit))))))
def impl_alternatives.lb : impl_alternatives.Pt → Nat
  | .p0 _ => 0
  | .p19 _ _ _ => 19
  | .p51 _ _ _ _ => 51
def impl_alternatives.st : impl_alternatives.Pt → St
  | .p0 a0 => enter [.v .str a0] 0
  | .p19 y1 y2 y3 => ⟨[(0, .im .str y1), (4, .po 0 0), (5, .fn 206 [.po 0 0]), (6, .im (.int .i64) y2)], [(0, .obj [.hs 1 [] none 0]), (1, .arr false (.sl false (.pair (.int .u8) (.pair .bool (.pair .bool .unit)))) y3 0)], 2⟩
  | .p51 y1 y2 y3 y4 => ⟨[(0, .im .str y1), (4, .po 0 0), (5, .fn 206 [.po 0 0]), (6, .im (.int .i64) y2), (56, .im .bool y3)], [(0, .obj [.hs 1 [] none 0]), (1, .arr false (.sl false (.pair (.int .u8) (.pair .bool (.pair .bool .unit)))) y4 0)], 2⟩
def impl_alternatives.step (n : Nat) (K : impl_alternatives.Pt → Option (Tup [(.sl false (.sl false (.pair (.int .u8) (.pair .bool (.pair .bool .unit))))), .bool])) : impl_alternatives.Pt → Option (Tup [(.sl false (.sl false (.pair (.int .u8) (.pair .bool (.pair .bool .unit))))), .bool])
  | .p0 a0 => (impl_printed n a0 (100 : Int)).bind fun r4 => cond (!r4) (some (([] : List (List ((Int) × ((Bool) × ((Bool) × (Unit)))))), false)) (K (.p19 a0 (0 : Int) [([] : List ((Int) × ((Bool) × ((Bool) × (Unit)))))]))
  | .p19 y1 y2 y3 => cond (decide (y2 < ((ByteArray.size y1) : Int))) (cond (inB y2 (ByteArray.size y1)) (cond (decide ((bt y1 y2) = (124 : Int))) (cond (room ((List.length y3) + (List.length [([] : List ((Int) × ((Bool) × ((Bool) × (Unit)))))]))) (K (.p19 y1 (IntKind.wrap .i64 (y2 + (1 : Int))) (y3 ++ [([] : List ((Int) × ((Bool) × ((Bool) × (Unit)))))]))) (none)) (cond (decide ((bt y1 y2) = (42 : Int))) ((impl_alternatives_1 n ((default : Int), ((default : Bool), (true, ()))) y3).bind fun r6 => K (.p19 y1 (IntKind.wrap .i64 (y2 + (1 : Int))) r6)) (cond (decide ((bt y1 y2) = (63 : Int))) ((impl_alternatives_1 n ((default : Int), (true, (default : (Bool) × (Unit)))) y3).bind fun r6 => K (.p19 y1 (IntKind.wrap .i64 (y2 + (1 : Int))) r6)) (cond (decide ((bt y1 y2) = (92 : Int))) (cond (decide ((IntKind.wrap .i64 (y2 + (1 : Int))) = ((ByteArray.size y1) : Int))) (K (.p51 y1 (IntKind.wrap .i64 (y2 + (1 : Int))) true y3)) (cond (inB (IntKind.wrap .i64 (y2 + (1 : Int))) (ByteArray.size y1)) ((strings_IndexByte n (⟨#[42, 63, 124, 92]⟩ : ByteArray) (bt y1 (IntKind.wrap .i64 (y2 + (1 : Int))))).bind fun (r6 : Int) => K (.p51 y1 (IntKind.wrap .i64 (y2 + (1 : Int))) (decide (r6 < (0 : Int))) y3)) (none))) ((impl_alternatives_1 n ((bt y1 y2), (default : (Bool) × ((Bool) × (Unit)))) y3).bind fun r6 => K (.p19 y1 (IntKind.wrap .i64 (y2 + (1 : Int))) r6)))))) (none)) (some (y3, true))
  | .p51 y1 y2 y3 y4 => cond y3 (some (([] : List (List ((Int) × ((Bool) × ((Bool) × (Unit)))))), false)) (cond (inB y2 (ByteArray.size y1)) ((impl_alternatives_1 n ((bt y1 y2), (default : (Bool) × ((Bool) × (Unit)))) y4).bind fun r7 => K (.p19 y1 (IntKind.wrap .i64 (y2 + (1 : Int))) r7)) (none))
def impl_alternatives (n : Nat) (a0 : ByteArray) : Option (Tup [(.sl false (.sl false (.pair (.int .u8) (.pair .bool (.pair .bool .unit))))), .bool]) := goRec impl_alternatives.step n (.p0 a0)
def impl_alternatives.spec : Ctr := ⟨200, [.v .str], [(.sl false (.sl false (.pair (.int .u8) (.pair .bool (.pair .bool .unit))))), .bool], [], fun n x => impl_alternatives n x.1⟩
theorem impl_alternatives.seg_eq (n : Nat) (goto : Nat → St → Option (Tup [(.sl false (.sl false (.pair (.int .u8) (.pair .bool (.pair .bool .unit))))), .bool])) (y : impl_alternatives.Pt) : seg ⟨ty, gl, impl_alternatives.md, calOf impl_alternatives.T n⟩ impl_alternatives.F.np impl_alternatives.F.ks goto (impl_alternatives.F.fin ⟨ty, gl, impl_alternatives.md, calOf impl_alternatives.T 0⟩ [(.sl false (.sl false (.pair (.int .u8) (.pair .bool (.pair .bool .unit))))), .bool]) impl_alternatives.F.c (impl_alternatives.lb y) (impl_alternatives.st y) = impl_alternatives.step n (fun z => goto (impl_alternatives.lb z) (impl_alternatives.st z)) y := by
  cases y <;> kernel_rfl
theorem impl_alternatives.text : Text Go.Proofs.Tryz.prog impl_alternatives.F impl_alternatives.spec := ⟨⟨Go.Proofs.Tryz.f200, by kernel_rfl, by kernel_rfl, by decide +kernel, by kernel_rfl, by kernel_rfl, of_decide_eq_true (by kernel_rfl)⟩, fun _ => rfl, fun _ => rfl, rfl⟩
theorem impl_alternatives.ok : CtrOK Go.Proofs.Tryz.prog gl impl_alternatives.spec :=
  ctr_ok (T := impl_alternatives.T) (F := impl_alternatives.F) (lb := impl_alternatives.lb) (st := impl_alternatives.st) (step := impl_alternatives.step) (md := impl_alternatives.md) tabs impl_alternatives.text impl_alternatives.seg_eq (fun n x => ⟨.p0 x.1, rfl, rfl, rfl⟩) (consC impl_printed.ok (consC strings_IndexByte.ok (consC impl_alternatives_1.ok (nilC))))

/-! loop.example/g00039/impl.GoodPattern -/
def impl_GoodPattern.T : List Ctr := [impl_alternatives.spec]
def impl_GoodPattern.md : List (Nat × List Md) := []
noncomputable def impl_GoodPattern.F : Fun := ⟨(Go.Proofs.Tryz.f182.body).getD .skip, [.v .str], [(.tmp 2, .bool)], [], 0, []⟩
inductive impl_GoodPattern.Pt where
  | p0 (a0 : ByteArray)
def impl_GoodPattern.lb : impl_GoodPattern.Pt → Nat
  | .p0 _ => 0
def impl_GoodPattern.st : impl_GoodPattern.Pt → St
  | .p0 a0 => enter [.v .str a0] 0
def impl_GoodPattern.step (n : Nat) (K : impl_GoodPattern.Pt → Option (Tup [.bool])) : impl_GoodPattern.Pt → Option (Tup [.bool])
  | .p0 a0 => (impl_alternatives n a0).bind fun r4 => some r4.2
def impl_GoodPattern (n : Nat) (a0 : ByteArray) : Option (Tup [.bool]) := goRec impl_GoodPattern.step n (.p0 a0)
def impl_GoodPattern.spec : Ctr := ⟨182, [.v .str], [.bool], [], fun n x => impl_GoodPattern n x.1⟩
theorem impl_GoodPattern.seg_eq (n : Nat) (goto : Nat → St → Option (Tup [.bool])) (y : impl_GoodPattern.Pt) : seg ⟨ty, gl, impl_GoodPattern.md, calOf impl_GoodPattern.T n⟩ impl_GoodPattern.F.np impl_GoodPattern.F.ks goto (impl_GoodPattern.F.fin ⟨ty, gl, impl_GoodPattern.md, calOf impl_GoodPattern.T 0⟩ [.bool]) impl_GoodPattern.F.c (impl_GoodPattern.lb y) (impl_GoodPattern.st y) = impl_GoodPattern.step n (fun z => goto (impl_GoodPattern.lb z) (impl_GoodPattern.st z)) y := by
  cases y <;> kernel_rfl
theorem impl_GoodPattern.text : Text Go.Proofs.Tryz.prog impl_GoodPattern.F impl_GoodPattern.spec := ⟨⟨Go.Proofs.Tryz.f182, by kernel_rfl, by kernel_rfl, by decide +kernel, by kernel_rfl, by kernel_rfl, of_decide_eq_true (by kernel_rfl)⟩, fun _ => rfl, fun _ => rfl, rfl⟩
theorem impl_GoodPattern.ok : CtrOK Go.Proofs.Tryz.prog gl impl_GoodPattern.spec :=
  ctr_ok (T := impl_GoodPattern.T) (F := impl_GoodPattern.F) (lb := impl_GoodPattern.lb) (st := impl_GoodPattern.st) (step := impl_GoodPattern.step) (md := impl_GoodPattern.md) tabs impl_GoodPattern.text impl_GoodPattern.seg_eq (fun n x => ⟨.p0 x.1, rfl, rfl, rfl⟩) (consC impl_alternatives.ok (nilC))

/-! loop.example/g00039/impl.goodMatcher -/
def impl_goodMatcher.T : List Ctr := [impl_isName.spec, impl_printed.spec, impl_GoodPattern.spec]
def impl_goodMatcher.md : List (Nat × List Md) := []
noncomputable def impl_goodMatcher.F : Fun := ⟨(Go.Proofs.Tryz.f142.body).getD .skip, [.v (.pair .str (.pair (.int .i64) (.pair .str .unit)))], [(.tmp 2, .bool)], [], 0, [(4, ⟨[1, 22], [], [], false⟩)]⟩
inductive impl_goodMatcher.Pt where
  | p0 (a0 : (ByteArray) × ((Int) × ((ByteArray) × (Unit))))
  | p4 (y1 : Bool) (y2 : ByteArray) (y3 : Int) (y4 : ByteArray)
def impl_goodMatcher.lb : impl_goodMatcher.Pt → Nat
  | .p0 _ => 0
  | .p4 _ _ _ _ => 4
def impl_goodMatcher.st : impl_goodMatcher.Pt → St
  | .p0 a0 => enter [.v (.pair .str (.pair (.int .i64) (.pair .str .unit))) a0] 0
  | .p4 y1 y2 y3 y4 => ⟨[(1, .po 0 0), (22, .im .bool y1)], [(0, .obj [.im .str y2, .im (.int .i64) y3, .im .str y4])], 1⟩
def impl_goodMatcher.step (n : Nat) (K : impl_goodMatcher.Pt → Option (Tup [.bool])) : impl_goodMatcher.Pt → Option (Tup [.bool])
  | .p0 a0 => (impl_isName n a0.1).bind fun r4 => cond (!r4) (K (.p4 true a0.1 a0.2.1 a0.2.2.1)) (cond (decide (a0.2.1 < (1 : Int))) (K (.p4 true a0.1 a0.2.1 a0.2.2.1)) (cond (decide ((4 : Int) < a0.2.1)) (K (.p4 true a0.1 a0.2.1 a0.2.2.1)) ((impl_printed n a0.2.2.1 (100 : Int)).bind fun r5 => K (.p4 (!r5) a0.1 a0.2.1 a0.2.2.1))))
  | .p4 y1 y2 y3 y4 => cond y1 (some false) (cond (decide (y3 < (3 : Int))) (some true) ((impl_GoodPattern n y4).bind fun r7 => some r7))
def impl_goodMatcher (n : Nat) (a0 : (ByteArray) × ((Int) × ((ByteArray) × (Unit)))) : Option (Tup [.bool]) := goRec impl_goodMatcher.step n (.p0 a0)
def impl_goodMatcher.spec : Ctr := ⟨142, [.v (.pair .str (.pair (.int .i64) (.pair .str .unit)))], [.bool], [], fun n x => impl_goodMatcher n x.1⟩
theorem impl_goodMatcher.seg_eq (n : Nat) (goto : Nat → St → Option (Tup [.bool])) (y : impl_goodMatcher.Pt) : seg ⟨ty, gl, impl_goodMatcher.md, calOf impl_goodMatcher.T n⟩ impl_goodMatcher.F.np impl_goodMatcher.F.ks goto (impl_goodMatcher.F.fin ⟨ty, gl, impl_goodMatcher.md, calOf impl_goodMatcher.T 0⟩ [.bool]) impl_goodMatcher.F.c (impl_goodMatcher.lb y) (impl_goodMatcher.st y) = impl_goodMatcher.step n (fun z => goto (impl_goodMatcher.lb z) (impl_goodMatcher.st z)) y := by
  cases y <;> kernel_rfl
theorem impl_goodMatcher.text : Text Go.Proofs.Tryz.prog impl_goodMatcher.F impl_goodMatcher.spec := ⟨⟨Go.Proofs.Tryz.f142, by kernel_rfl, by kernel_rfl, by decide +kernel, by kernel_rfl, by kernel_rfl, of_decide_eq_true (by kernel_rfl)⟩, fun _ => rfl, fun _ => rfl, rfl⟩
theorem impl_goodMatcher.ok : CtrOK Go.Proofs.Tryz.prog gl impl_goodMatcher.spec :=
  ctr_ok (T := impl_goodMatcher.T) (F := impl_goodMatcher.F) (lb := impl_goodMatcher.lb) (st := impl_goodMatcher.st) (step := impl_goodMatcher.step) (md := impl_goodMatcher.md) tabs impl_goodMatcher.text impl_goodMatcher.seg_eq (fun n x => ⟨.p0 x.1, rfl, rfl, rfl⟩) (consC impl_isName.ok (consC impl_printed.ok (consC impl_GoodPattern.ok (nilC))))

/-! loop.example/g00039/impl.GoodMatchers$1 -/
def impl_GoodMatchers_1.T : List Ctr := [impl_goodMatcher.spec]
def impl_GoodMatchers_1.md : List (Nat × List Md) := []
noncomputable def impl_GoodMatchers_1.F : Fun := ⟨(Go.Proofs.Tryz.f141.body).getD .skip, [.v (.pair .str (.pair (.int .i64) (.pair .str .unit)))], [(.tmp 2, .bool)], [], 0, []⟩
inductive impl_GoodMatchers_1.Pt where
  | p0 (a0 : (ByteArray) × ((Int) × ((ByteArray) × (Unit))))
def impl_GoodMatchers_1.lb : impl_GoodMatchers_1.Pt → Nat
  | .p0 _ => 0
def impl_GoodMatchers_1.st : impl_GoodMatchers_1.Pt → St
  | .p0 a0 => enter [.v (.pair .str (.pair (.int .i64) (.pair .str .unit))) a0] 0
def impl_GoodMatchers_1.step (n : Nat) (K : impl_GoodMatchers_1.Pt → Option (Tup [.bool])) : impl_GoodMatchers_1.Pt → Option (Tup [.bool])
  | .p0 a0 => (impl_goodMatcher n a0).bind fun r4 => some (!r4)
def impl_GoodMatchers_1 (n : Nat) (a0 : (ByteArray) × ((Int) × ((ByteArray) × (Unit)))) : Option (Tup [.bool]) := goRec impl_GoodMatchers_1.step n (.p0 a0)
def impl_GoodMatchers_1.spec : Ctr := ⟨141, [.v (.pair .str (.pair (.int .i64) (.pair .str .unit)))], [.bool], [], fun n x => impl_GoodMatchers_1 n x.1⟩
theorem impl_GoodMatchers_1.seg_eq (n : Nat) (goto : Nat → St → Option (Tup [.bool])) (y : impl_GoodMatchers_1.Pt) : seg ⟨ty, gl, impl_GoodMatchers_1.md, calOf impl_GoodMatchers_1.T n⟩ impl_GoodMatchers_1.F.np impl_GoodMatchers_1.F.ks goto (impl_GoodMatchers_1.F.fin ⟨ty, gl, impl_GoodMatchers_1.md, calOf impl_GoodMatchers_1.T 0⟩ [.bool]) impl_GoodMatchers_1.F.c (impl_GoodMatchers_1.lb y) (impl_GoodMatchers_1.st y) = impl_GoodMatchers_1.step n (fun z => goto (impl_GoodMatchers_1.lb z) (impl_GoodMatchers_1.st z)) y := by
  cases y <;> kernel_rfl
theorem impl_GoodMatchers_1.text : Text Go.Proofs.Tryz.prog impl_GoodMatchers_1.F impl_GoodMatchers_1.spec := ⟨⟨Go.Proofs.Tryz.f141, by kernel_rfl, by kernel_rfl, by decide +kernel, by kernel_rfl, by kernel_rfl, of_decide_eq_true (by kernel_rfl)⟩, fun _ => rfl, fun _ => rfl, rfl⟩
theorem impl_GoodMatchers_1.ok : CtrOK Go.Proofs.Tryz.prog gl impl_GoodMatchers_1.spec :=
  ctr_ok (T := impl_GoodMatchers_1.T) (F := impl_GoodMatchers_1.F) (lb := impl_GoodMatchers_1.lb) (st := impl_GoodMatchers_1.st) (step := impl_GoodMatchers_1.step) (md := impl_GoodMatchers_1.md) tabs impl_GoodMatchers_1.text impl_GoodMatchers_1.seg_eq (fun n x => ⟨.p0 x.1, rfl, rfl, rfl⟩) (consC impl_goodMatcher.ok (nilC))

/-! slices.IndexFunc[[]loop.example/g00039/impl.Matcher,loop.example/g00039/impl.Matcher] -/
def slices_IndexFunc_Matcher_impl_GoodMatchers_1.T : List Ctr := [impl_GoodMatchers_1.spec]
def slices_IndexFunc_Matcher_impl_GoodMatchers_1.md : List (Nat × List Md) := []
noncomputable def slices_IndexFunc_Matcher_impl_GoodMatchers_1.F : Fun := ⟨(Go.Proofs.Tryz.f181.body).getD .skip, [.v (.sl false (.pair .str (.pair (.int .i64) (.pair .str .unit)))), .fn 141 []], [(.tmp 4, (.int .i64))], [], 0, [(7, ⟨[0, 1, 7, 8], [], [], false⟩)]⟩
inductive slices_IndexFunc_Matcher_impl_GoodMatchers_1.Pt where
  | p0 (a0 : List ((ByteArray) × ((Int) × ((ByteArray) × (Unit)))))
  | p7 (y1 : List ((ByteArray) × ((Int) × ((ByteArray) × (Unit))))) (y2 : Int) (y3 : Int)
def slices_IndexFunc_Matcher_impl_GoodMatchers_1.lb : slices_IndexFunc_Matcher_impl_GoodMatchers_1.Pt → Nat
  | .p0 _ => 0
  | .p7 _ _ _ => 7
def slices_IndexFunc_Matcher_impl_GoodMatchers_1.st : slices_IndexFunc_Matcher_impl_GoodMatchers_1.Pt → St
  | .p0 a0 => enter [.v (.sl false (.pair .str (.pair (.int .i64) (.pair .str .unit)))) a0, .fn 141 []] 0
  | .p7 y1 y2 y3 => ⟨[(0, .im (.sl false (.pair .str (.pair (.int .i64) (.pair .str .unit)))) y1), (1, .fn 141 []), (7, .im (.int .i64) y2), (8, .im (.int .i64) y3)], [], 0⟩
def slices_IndexFunc_Matcher_impl_GoodMatchers_1.step (n : Nat) (K : slices_IndexFunc_Matcher_impl_GoodMatchers_1.Pt → Option (Tup [(.int .i64)])) : slices_IndexFunc_Matcher_impl_GoodMatchers_1.Pt → Option (Tup [(.int .i64)])
  | .p0 a0 => K (.p7 a0 ((List.length a0) : Int) (0 : Int))
  | .p7 y1 y2 y3 => cond (decide (y3 < y2)) (cond (inB y3 (List.length y1)) ((impl_GoodMatchers_1 n (List.getD y1 (Int.toNat y3) default)).bind fun r6 => cond r6 (some y3) (K (.p7 y1 y2 (IntKind.wrap .i64 (y3 + (1 : Int)))))) (none)) (some (-(1 : Int)))
def slices_IndexFunc_Matcher_impl_GoodMatchers_1 (n : Nat) (a0 : List ((ByteArray) × ((Int) × ((ByteArray) × (Unit))))) : Option (Tup [(.int .i64)]) := goRec slices_IndexFunc_Matcher_impl_GoodMatchers_1.step n (.p0 a0)
def slices_IndexFunc_Matcher_impl_GoodMatchers_1.spec : Ctr := ⟨181, [.v (.sl false (.pair .str (.pair (.int .i64) (.pair .str .unit)))), .fn 141 []], [(.int .i64)], [], fun n x => slices_IndexFunc_Matcher_impl_GoodMatchers_1 n x.1⟩
theorem slices_IndexFunc_Matcher_impl_GoodMatchers_1.seg_eq (n : Nat) (goto : Nat → St → Option (Tup [(.int .i64)])) (y : slices_IndexFunc_Matcher_impl_GoodMatchers_1.Pt) : seg ⟨ty, gl, slices_IndexFunc_Matcher_impl_GoodMatchers_1.md, calOf slices_IndexFunc_Matcher_impl_GoodMatchers_1.T n⟩ slices_IndexFunc_Matcher_impl_GoodMatchers_1.F.np slices_IndexFunc_Matcher_impl_GoodMatchers_1.F.ks goto (slices_IndexFunc_Matcher_impl_GoodMatchers_1.F.fin ⟨ty, gl, slices_IndexFunc_Matcher_impl_GoodMatchers_1.md, calOf slices_IndexFunc_Matcher_impl_GoodMatchers_1.T 0⟩ [(.int .i64)]) slices_IndexFunc_Matcher_impl_GoodMatchers_1.F.c (slices_IndexFunc_Matcher_impl_GoodMatchers_1.lb y) (slices_IndexFunc_Matcher_impl_GoodMatchers_1.st y) = slices_IndexFunc_Matcher_impl_GoodMatchers_1.step n (fun z => goto (slices_IndexFunc_Matcher_impl_GoodMatchers_1.lb z) (slices_IndexFunc_Matcher_impl_GoodMatchers_1.st z)) y := by
  cases y <;> kernel_rfl
theorem slices_IndexFunc_Matcher_impl_GoodMatchers_1.text : Text Go.Proofs.Tryz.prog slices_IndexFunc_Matcher_impl_GoodMatchers_1.F slices_IndexFunc_Matcher_impl_GoodMatchers_1.spec := ⟨⟨Go.Proofs.Tryz.f181, by kernel_rfl, by kernel_rfl, by decide +kernel, by kernel_rfl, by kernel_rfl, of_decide_eq_true (by kernel_rfl)⟩, fun _ => rfl, fun _ => rfl, rfl⟩
theorem slices_IndexFunc_Matcher_impl_GoodMatchers_1.ok : CtrOK Go.Proofs.Tryz.prog gl slices_IndexFunc_Matcher_impl_GoodMatchers_1.spec :=
  ctr_ok (T := slices_IndexFunc_Matcher_impl_GoodMatchers_1.T) (F := slices_IndexFunc_Matcher_impl_GoodMatchers_1.F) (lb := slices_IndexFunc_Matcher_impl_GoodMatchers_1.lb) (st := slices_IndexFunc_Matcher_impl_GoodMatchers_1.st) (step := slices_IndexFunc_Matcher_impl_GoodMatchers_1.step) (md := slices_IndexFunc_Matcher_impl_GoodMatchers_1.md) tabs slices_IndexFunc_Matcher_impl_GoodMatchers_1.text slices_IndexFunc_Matcher_impl_GoodMatchers_1.seg_eq (fun n x => ⟨.p0 x.1, rfl, rfl, rfl⟩) (consC impl_GoodMatchers_1.ok (nilC))

/-! slices.ContainsFunc[[]loop.example/g00039/impl.Matcher,loop.example/g00039/impl.Matcher] -/
def slices_ContainsFunc_Matcher_impl_GoodMatchers_1.T : List Ctr := [slices_IndexFunc_Matcher_impl_GoodMatchers_1.spec]
def slices_ContainsFunc_Matcher_impl_GoodMatchers_1.md : List (Nat × List Md) := [(181, [.v, .fn])]
noncomputable def slices_ContainsFunc_Matcher_impl_GoodMatchers_1.F : Fun := ⟨(Go.Proofs.Tryz.f140.body).getD .skip, [.v (.sl false (.pair .str (.pair (.int .i64) (.pair .str .unit)))), .fn 141 []], [(.tmp 4, .bool)], [], 0, []⟩
inductive slices_ContainsFunc_Matcher_impl_GoodMatchers_1.Pt where
  | p0 (a0 : List ((ByteArray) × ((Int) × ((ByteArray) × (Unit)))))
def slices_ContainsFunc_Matcher_impl_GoodMatchers_1.lb : slices_ContainsFunc_Matcher_impl_GoodMatchers_1.Pt → Nat
  | .p0 _ => 0
def slices_ContainsFunc_Matcher_impl_GoodMatchers_1.st : slices_ContainsFunc_Matcher_impl_GoodMatchers_1.Pt → St
  | .p0 a0 => enter [.v (.sl false (.pair .str (.pair (.int .i64) (.pair .str .unit)))) a0, .fn 141 []] 0
def slices_ContainsFunc_Matcher_impl_GoodMatchers_1.step (n : Nat) (K : slices_ContainsFunc_Matcher_impl_GoodMatchers_1.Pt → Option (Tup [.bool])) : slices_ContainsFunc_Matcher_impl_GoodMatchers_1.Pt → Option (Tup [.bool])
  | .p0 a0 => (slices_IndexFunc_Matcher_impl_GoodMatchers_1 n a0).bind fun (r4 : Int) => some (decide ((0 : Int) ≤ r4))
def slices_ContainsFunc_Matcher_impl_GoodMatchers_1 (n : Nat) (a0 : List ((ByteArray) × ((Int) × ((ByteArray) × (Unit))))) : Option (Tup [.bool]) := goRec slices_ContainsFunc_Matcher_impl_GoodMatchers_1.step n (.p0 a0)
def slices_ContainsFunc_Matcher_impl_GoodMatchers_1.spec : Ctr := ⟨140, [.v (.sl false (.pair .str (.pair (.int .i64) (.pair .str .unit)))), .fn 141 []], [.bool], [], fun n x => slices_ContainsFunc_Matcher_impl_GoodMatchers_1 n x.1⟩
theorem slices_ContainsFunc_Matcher_impl_GoodMatchers_1.seg_eq (n : Nat) (goto : Nat → St → Option (Tup [.bool])) (y : slices_ContainsFunc_Matcher_impl_GoodMatchers_1.Pt) : seg ⟨ty, gl, slices_ContainsFunc_Matcher_impl_GoodMatchers_1.md, calOf slices_ContainsFunc_Matcher_impl_GoodMatchers_1.T n⟩ slices_ContainsFunc_Matcher_impl_GoodMatchers_1.F.np slices_ContainsFunc_Matcher_impl_GoodMatchers_1.F.ks goto (slices_ContainsFunc_Matcher_impl_GoodMatchers_1.F.fin ⟨ty, gl, slices_ContainsFunc_Matcher_impl_GoodMatchers_1.md, calOf slices_ContainsFunc_Matcher_impl_GoodMatchers_1.T 0⟩ [.bool]) slices_ContainsFunc_Matcher_impl_GoodMatchers_1.F.c (slices_ContainsFunc_Matcher_impl_GoodMatchers_1.lb y) (slices_ContainsFunc_Matcher_impl_GoodMatchers_1.st y) = slices_ContainsFunc_Matcher_impl_GoodMatchers_1.step n (fun z => goto (slices_ContainsFunc_Matcher_impl_GoodMatchers_1.lb z) (slices_ContainsFunc_Matcher_impl_GoodMatchers_1.st z)) y := by
  cases y <;> kernel_rfl
theorem slices_ContainsFunc_Matcher_impl_GoodMatchers_1.text : Text Go.Proofs.Tryz.prog slices_ContainsFunc_Matcher_impl_GoodMatchers_1.F slices_ContainsFunc_Matcher_impl_GoodMatchers_1.spec := ⟨⟨Go.Proofs.Tryz.f140, by kernel_rfl, by kernel_rfl, by decide +kernel, by kernel_rfl, by kernel_rfl, of_decide_eq_true (by kernel_rfl)⟩, fun _ => rfl, fun _ => rfl, rfl⟩
theorem slices_ContainsFunc_Matcher_impl_GoodMatchers_1.ok : CtrOK Go.Proofs.Tryz.prog gl slices_ContainsFunc_Matcher_impl_GoodMatchers_1.spec :=
  ctr_ok (T := slices_ContainsFunc_Matcher_impl_GoodMatchers_1.T) (F := slices_ContainsFunc_Matcher_impl_GoodMatchers_1.F) (lb := slices_ContainsFunc_Matcher_impl_GoodMatchers_1.lb) (st := slices_ContainsFunc_Matcher_impl_GoodMatchers_1.st) (step := slices_ContainsFunc_Matcher_impl_GoodMatchers_1.step) (md := slices_ContainsFunc_Matcher_impl_GoodMatchers_1.md) tabs slices_ContainsFunc_Matcher_impl_GoodMatchers_1.text slices_ContainsFunc_Matcher_impl_GoodMatchers_1.seg_eq (fun n x => ⟨.p0 x.1, rfl, rfl, rfl⟩) (consC slices_IndexFunc_Matcher_impl_GoodMatchers_1.ok (nilC))

/-! loop.example/g00039/impl.GoodMatchers -/
def impl_GoodMatchers.T : List Ctr := [impl_GoodMatchers_1.spec, slices_ContainsFunc_Matcher_impl_GoodMatchers_1.spec]
def impl_GoodMatchers.md : List (Nat × List Md) := [(140, [.v, .fn])]
noncomputable def impl_GoodMatchers.F : Fun := ⟨(Go.Proofs.Tryz.f93.body).getD .skip, [.v (.sl false (.pair .str (.pair (.int .i64) (.pair .str .unit))))], [(.tmp 2, .bool)], [], 0, []⟩
inductive impl_GoodMatchers.Pt where
  | p0 (a0 : List ((ByteArray) × ((Int) × ((ByteArray) × (Unit)))))
def impl_GoodMatchers.lb : impl_GoodMatchers.Pt → Nat
  | .p0 _ => 0
def impl_GoodMatchers.st : impl_GoodMatchers.Pt → St
  | .p0 a0 => enter [.v (.sl false (.pair .str (.pair (.int .i64) (.pair .str .unit)))) a0] 0
def impl_GoodMatchers.step (n : Nat) (K : impl_GoodMatchers.Pt → Option (Tup [.bool])) : impl_GoodMatchers.Pt → Option (Tup [.bool])
  | .p0 a0 => cond (decide (((List.length a0) : Int) ≤ (10 : Int))) ((slices_ContainsFunc_Matcher_impl_GoodMatchers_1 n a0).bind fun r4 => some (!r4)) (some false)
def impl_GoodMatchers (n : Nat) (a0 : List ((ByteArray) × ((Int) × ((ByteArray) × (Unit))))) : Option (Tup [.bool]) := goRec impl_GoodMatchers.step n (.p0 a0)
def impl_GoodMatchers.spec : Ctr := ⟨93, [.v (.sl false (.pair .str (.pair (.int .i64) (.pair .str .unit))))], [.bool], [], fun n x => impl_GoodMatchers n x.1⟩
theorem impl_GoodMatchers.seg_eq (n : Nat) (goto : Nat → St → Option (Tup [.bool])) (y : impl_GoodMatchers.Pt) : seg ⟨ty, gl, impl_GoodMatchers.md, calOf impl_GoodMatchers.T n⟩ impl_GoodMatchers.F.np impl_GoodMatchers.F.ks goto (impl_GoodMatchers.F.fin ⟨ty, gl, impl_GoodMatchers.md, calOf impl_GoodMatchers.T 0⟩ [.bool]) impl_GoodMatchers.F.c (impl_GoodMatchers.lb y) (impl_GoodMatchers.st y) = impl_GoodMatchers.step n (fun z => goto (impl_GoodMatchers.lb z) (impl_GoodMatchers.st z)) y := by
  cases y <;> kernel_rfl
theorem impl_GoodMatchers.text : Text Go.Proofs.Tryz.prog impl_GoodMatchers.F impl_GoodMatchers.spec := ⟨⟨Go.Proofs.Tryz.f93, by kernel_rfl, by kernel_rfl, by decide +kernel, by kernel_rfl, by kernel_rfl, of_decide_eq_true (by kernel_rfl)⟩, fun _ => rfl, fun _ => rfl, rfl⟩
theorem impl_GoodMatchers.ok : CtrOK Go.Proofs.Tryz.prog gl impl_GoodMatchers.spec :=
  ctr_ok (T := impl_GoodMatchers.T) (F := impl_GoodMatchers.F) (lb := impl_GoodMatchers.lb) (st := impl_GoodMatchers.st) (step := impl_GoodMatchers.step) (md := impl_GoodMatchers.md) tabs impl_GoodMatchers.text impl_GoodMatchers.seg_eq (fun n x => ⟨.p0 x.1, rfl, rfl, rfl⟩) (consC impl_GoodMatchers_1.ok (consC slices_ContainsFunc_Matcher_impl_GoodMatchers_1.ok (nilC)))

/-! loop.example/g00039/impl.rising[string] -/
def impl_rising_string.T : List Ctr := []
def impl_rising_string.md : List (Nat × List Md) := []
noncomputable def impl_rising_string.F : Fun := ⟨(Go.Proofs.Tryz.f144.body).getD .skip, [.v (.sl false .str)], [(.tmp 2, .bool)], [], 0, [(7, ⟨[0, 3], [], [], false⟩)]⟩
inductive impl_rising_string.Pt where
  | p0 (a0 : List (ByteArray))
  | p7 (y1 : List (ByteArray)) (y2 : Int)
def impl_rising_string.lb : impl_rising_string.Pt → Nat
  | .p0 _ => 0
  | .p7 _ _ => 7
def impl_rising_string.st : impl_rising_string.Pt → St
  | .p0 a0 => enter [.v (.sl false .str) a0] 0
  | .p7 y1 y2 => ⟨[(0, .im (.sl false .str) y1), (3, .im (.int .i64) y2)], [], 0⟩
def impl_rising_string.step (n : Nat) (K : impl_rising_string.Pt → Option (Tup [.bool])) : impl_rising_string.Pt → Option (Tup [.bool])
  | .p0 a0 => K (.p7 a0 (1 : Int))
  | .p7 y1 y2 => cond (decide (y2 < ((List.length y1) : Int))) (cond (inB (IntKind.wrap .i64 (y2 - (1 : Int))) (List.length y1)) (cond (inB y2 (List.length y1)) (cond (!(slt (List.getD y1 (Int.toNat (IntKind.wrap .i64 (y2 - (1 : Int)))) default) (List.getD y1 (Int.toNat y2) default))) (some false) (K (.p7 y1 (IntKind.wrap .i64 (y2 + (1 : Int)))))) (none)) (none)) (some true)
def impl_rising_string (n : Nat) (a0 : List (ByteArray)) : Option (Tup [.bool]) := goRec impl_rising_string.step n (.p0 a0)
def impl_rising_string.spec : Ctr := ⟨144, [.v (.sl false .str)], [.bool], [], fun n x => impl_rising_string n x.1⟩
theorem impl_rising_string.seg_eq (n : Nat) (goto : Nat → St → Option (Tup [.bool])) (y : impl_rising_string.Pt) : seg ⟨ty, gl, impl_rising_string.md, calOf impl_rising_string.T n⟩ impl_rising_string.F.np impl_rising_string.F.ks goto (impl_rising_string.F.fin ⟨ty, gl, impl_rising_string.md, calOf impl_rising_string.T 0⟩ [.bool]) impl_rising_string.F.c (impl_rising_string.lb y) (impl_rising_string.st y) = impl_rising_string.step n (fun z => goto (impl_rising_string.lb z) (impl_rising_string.st z)) y := by
  cases y <;> kernel_rfl
theorem impl_rising_string.text : Text Go.Proofs.Tryz.prog impl_rising_string.F impl_rising_string.spec := ⟨⟨Go.Proofs.Tryz.f144, by kernel_rfl, by kernel_rfl, by decide +kernel, by kernel_rfl, by kernel_rfl, of_decide_eq_true (by kernel_rfl)⟩, fun _ => rfl, fun _ => rfl, rfl⟩
theorem impl_rising_string.ok : CtrOK Go.Proofs.Tryz.prog gl impl_rising_string.spec :=
  ctr_ok (T := impl_rising_string.T) (F := impl_rising_string.F) (lb := impl_rising_string.lb) (st := impl_rising_string.st) (step := impl_rising_string.step) (md := impl_rising_string.md) tabs impl_rising_string.text impl_rising_string.seg_eq (fun n x => ⟨.p0 x.1, rfl, rfl, rfl⟩) (nilC)

/-! loop.example/g00039/impl.goodNames$1 -/
def impl_goodNames_1.T : List Ctr := [impl_isName.spec]
def impl_goodNames_1.md : List (Nat × List Md) := []
noncomputable def impl_goodNames_1.F : Fun := ⟨(Go.Proofs.Tryz.f146.body).getD .skip, [.v .str], [(.tmp 2, .bool)], [], 0, []⟩
inductive impl_goodNames_1.Pt where
  | p0 (a0 : ByteArray)
def impl_goodNames_1.lb : impl_goodNames_1.Pt → Nat
  | .p0 _ => 0
def impl_goodNames_1.st : impl_goodNames_1.Pt → St
  | .p0 a0 => enter [.v .str a0] 0
def impl_goodNames_1.step (n : Nat) (K : impl_goodNames_1.Pt → Option (Tup [.bool])) : impl_goodNames_1.Pt → Option (Tup [.bool])
  | .p0 a0 => (impl_isName n a0).bind fun r4 => some (!r4)
def impl_goodNames_1 (n : Nat) (a0 : ByteArray) : Option (Tup [.bool]) := goRec impl_goodNames_1.step n (.p0 a0)
def impl_goodNames_1.spec : Ctr := ⟨146, [.v .str], [.bool], [], fun n x => impl_goodNames_1 n x.1⟩
theorem impl_goodNames_1.seg_eq (n : Nat) (goto : Nat → St → Option (Tup [.bool])) (y : impl_goodNames_1.Pt) : seg ⟨ty, gl, impl_goodNames_1.md, calOf impl_goodNames_1.T n⟩ impl_goodNames_1.F.np impl_goodNames_1.F.ks goto (impl_goodNames_1.F.fin ⟨ty, gl, impl_goodNames_1.md, calOf impl_goodNames_1.T 0⟩ [.bool]) impl_goodNames_1.F.c (impl_goodNames_1.lb y) (impl_goodNames_1.st y) = impl_goodNames_1.step n (fun z => goto (impl_goodNames_1.lb z) (impl_goodNames_1.st z)) y := by
  cases y <;> kernel_rfl
theorem impl_goodNames_1.text : Text Go.Proofs.Tryz.prog impl_goodNames_1.F impl_goodNames_1.spec := ⟨⟨Go.Proofs.Tryz.f146, by kernel_rfl, by kernel_rfl, by decide +kernel, by kernel_rfl, by kernel_rfl, of_decide_eq_true (by kernel_rfl)⟩, fun _ => rfl, fun _ => rfl, rfl⟩
theorem impl_goodNames_1.ok : CtrOK Go.Proofs.Tryz.prog gl impl_goodNames_1.spec :=
  ctr_ok (T := impl_goodNames_1.T) (F := impl_goodNames_1.F) (lb := impl_goodNames_1.lb) (st := impl_goodNames_1.st) (step := impl_goodNames_1.step) (md := impl_goodNames_1.md) tabs impl_goodNames_1.text impl_goodNames_1.seg_eq (fun n x => ⟨.p0 x.1, rfl, rfl, rfl⟩) (consC impl_isName.ok (nilC))

/-! slices.IndexFunc[[]string,string] -/
def slices_IndexFunc_string_impl_goodNames_1.T : List Ctr := [impl_goodNames_1.spec]
def slices_IndexFunc_string_impl_goodNames_1.md : List (Nat × List Md) := []
noncomputable def slices_IndexFunc_string_impl_goodNames_1.F : Fun := ⟨(Go.Proofs.Tryz.f183.body).getD .skip, [.v (.sl false .str), .fn 146 []], [(.tmp 4, (.int .i64))], [], 0, [(7, ⟨[0, 1, 7, 8], [], [], false⟩)]⟩
inductive slices_IndexFunc_string_impl_goodNames_1.Pt where
  | p0 (a0 : List (ByteArray))
  | p7 (y1 : List (ByteArray)) (y2 : Int) (y3 : Int)
def slices_IndexFunc_string_impl_goodNames_1.lb : slices_IndexFunc_string_impl_goodNames_1.Pt → Nat
  | .p0 _ => 0
  | .p7 _ _ _ => 7
def slices_IndexFunc_string_impl_goodNames_1.st : slices_IndexFunc_string_impl_goodNames_1.Pt → St
  | .p0 a0 => enter [.v (.sl false .str) a0, .fn 146 []] 0
  | .p7 y1 y2 y3 => ⟨[(0, .im (.sl false .str) y1), (1, .fn 146 []), (7, .im (.int .i64) y2), (8, .im (.int .i64) y3)], [], 0⟩
def slices_IndexFunc_string_impl_goodNames_1.step (n : Nat) (K : slices_IndexFunc_string_impl_goodNames_1.Pt → Option (Tup [(.int .i64)])) : slices_IndexFunc_string_impl_goodNames_1.Pt → Option (Tup [(.int .i64)])
  | .p0 a0 => K (.p7 a0 ((List.length a0) : Int) (0 : Int))
  | .p7 y1 y2 y3 => cond (decide (y3 < y2)) (cond (inB y3 (List.length y1)) ((impl_goodNames_1 n (List.getD y1 (Int.toNat y3) default)).bind fun r6 => cond r6 (some y3) (K (.p7 y1 y2 (IntKind.wrap .i64 (y3 + (1 : Int)))))) (none)) (some (-(1 : Int)))
def slices_IndexFunc_string_impl_goodNames_1 (n : Nat) (a0 : List (ByteArray)) : Option (Tup [(.int .i64)]) := goRec slices_IndexFunc_string_impl_goodNames_1.step n (.p0 a0)
def slices_IndexFunc_string_impl_goodNames_1.spec : Ctr := ⟨183, [.v (.sl false .str), .fn 146 []], [(.int .i64)], [], fun n x => slices_IndexFunc_string_impl_goodNames_1 n x.1⟩
theorem slices_IndexFunc_string_impl_goodNames_1.seg_eq (n : Nat) (goto : Nat → St → Option (Tup [(.int .i64)])) (y : slices_IndexFunc_string_impl_goodNames_1.Pt) : seg ⟨ty, gl, slices_IndexFunc_string_impl_goodNames_1.md, calOf slices_IndexFunc_string_impl_goodNames_1.T n⟩ slices_IndexFunc_string_impl_goodNames_1.F.np slices_IndexFunc_string_impl_goodNames_1.F.ks goto (slices_IndexFunc_string_impl_goodNames_1.F.fin ⟨ty, gl, slices_IndexFunc_string_impl_goodNames_1.md, calOf slices_IndexFunc_string_impl_goodNames_1.T 0⟩ [(.int .i64)]) slices_IndexFunc_string_impl_goodNames_1.F.c (slices_IndexFunc_string_impl_goodNames_1.lb y) (slices_IndexFunc_string_impl_goodNames_1.st y) = slices_IndexFunc_string_impl_goodNames_1.step n (fun z => goto (slices_IndexFunc_string_impl_goodNames_1.lb z) (slices_IndexFunc_string_impl_goodNames_1.st z)) y := by
  cases y <;> kernel_rfl
theorem slices_IndexFunc_string_impl_goodNames_1.text : Text Go.Proofs.Tryz.prog slices_IndexFunc_string_impl_goodNames_1.F slices_IndexFunc_string_impl_goodNames_1.spec := ⟨⟨Go.Proofs.Tryz.f183, by kernel_rfl, by kernel_rfl, by decide +kernel, by kernel_rfl, by kernel_rfl, of_decide_eq_true (by kernel_rfl)⟩, fun _ => rfl, fun _ => rfl, rfl⟩
theorem slices_IndexFunc_string_impl_goodNames_1.ok : CtrOK Go.Proofs.Tryz.prog gl slices_IndexFunc_string_impl_goodNames_1.spec :=
  ctr_ok (T := slices_IndexFunc_string_impl_goodNames_1.T) (F := slices_IndexFunc_string_impl_goodNames_1.F) (lb := slices_IndexFunc_string_impl_goodNames_1.lb) (st := slices_IndexFunc_string_impl_goodNames_1.st) (step := slices_IndexFunc_string_impl_goodNames_1.step) (md := slices_IndexFunc_string_impl_goodNames_1.md) tabs slices_IndexFunc_string_impl_goodNames_1.text slices_IndexFunc_string_impl_goodNames_1.seg_eq (fun n x => ⟨.p0 x.1, rfl, rfl, rfl⟩) (consC impl_goodNames_1.ok (nilC))

/-! slices.ContainsFunc[[]string,string] -/
def slices_ContainsFunc_string_impl_goodNames_1.T : List Ctr := [slices_IndexFunc_string_impl_goodNames_1.spec]
def slices_ContainsFunc_string_impl_goodNames_1.md : List (Nat × List Md) := [(183, [.v, .fn])]
noncomputable def slices_ContainsFunc_string_impl_goodNames_1.F : Fun := ⟨(Go.Proofs.Tryz.f145.body).getD .skip, [.v (.sl false .str), .fn 146 []], [(.tmp 4, .bool)], [], 0, []⟩
inductive slices_ContainsFunc_string_impl_goodNames_1.Pt where
  | p0 (a0 : List (ByteArray))
def slices_ContainsFunc_string_impl_goodNames_1.lb : slices_ContainsFunc_string_impl_goodNames_1.Pt → Nat
  | .p0 _ => 0
def slices_ContainsFunc_string_impl_goodNames_1.st : slices_ContainsFunc_string_impl_goodNames_1.Pt → St
  | .p0 a0 => enter [.v (.sl false .str) a0, .fn 146 []] 0
def slices_ContainsFunc_string_impl_goodNames_1.step (n : Nat) (K : slices_ContainsFunc_string_impl_goodNames_1.Pt → Option (Tup [.bool])) : slices_ContainsFunc_string_impl_goodNames_1.Pt → Option (Tup [.bool])
  | .p0 a0 => (slices_IndexFunc_string_impl_goodNames_1 n a0).bind fun (r4 : Int) => some (decide ((0 : Int) ≤ r4))
def slices_ContainsFunc_string_impl_goodNames_1 (n : Nat) (a0 : List (ByteArray)) : Option (Tup [.bool]) := goRec slices_ContainsFunc_string_impl_goodNames_1.step n (.p0 a0)
def slices_ContainsFunc_string_impl_goodNames_1.spec : Ctr := ⟨145, [.v (.sl false .str), .fn 146 []], [.bool], [], fun n x => slices_ContainsFunc_string_impl_goodNames_1 n x.1⟩
theorem slices_ContainsFunc_string_impl_goodNames_1.seg_eq (n : Nat) (goto : Nat → St → Option (Tup [.bool])) (y : slices_ContainsFunc_string_impl_goodNames_1.Pt) : seg ⟨ty, gl, slices_ContainsFunc_string_impl_goodNames_1.md, calOf slices_ContainsFunc_string_impl_goodNames_1.T n⟩ slices_ContainsFunc_string_impl_goodNames_1.F.np slices_ContainsFunc_string_impl_goodNames_1.F.ks goto (slices_ContainsFunc_string_impl_goodNames_1.F.fin ⟨ty, gl, slices_ContainsFunc_string_impl_goodNames_1.md, calOf slices_ContainsFunc_string_impl_goodNames_1.T 0⟩ [.bool]) slices_ContainsFunc_string_impl_goodNames_1.F.c (slices_ContainsFunc_string_impl_goodNames_1.lb y) (slices_ContainsFunc_string_impl_goodNames_1.st y) = slices_ContainsFunc_string_impl_goodNames_1.step n (fun z => goto (slices_ContainsFunc_string_impl_goodNames_1.lb z) (slices_ContainsFunc_string_impl_goodNames_1.st z)) y := by
  cases y <;> kernel_rfl
theorem slices_ContainsFunc_string_impl_goodNames_1.text : Text Go.Proofs.Tryz.prog slices_ContainsFunc_string_impl_goodNames_1.F slices_ContainsFunc_string_impl_goodNames_1.spec := ⟨⟨Go.Proofs.Tryz.f145, by kernel_rfl, by kernel_rfl, by decide +kernel, by kernel_rfl, by kernel_rfl, of_decide_eq_true (by kernel_rfl)⟩, fun _ => rfl, fun _ => rfl, rfl⟩
theorem slices_ContainsFunc_string_impl_goodNames_1.ok : CtrOK Go.Proofs.Tryz.prog gl slices_ContainsFunc_string_impl_goodNames_1.spec :=
  ctr_ok (T := slices_ContainsFunc_string_impl_goodNames_1.T) (F := slices_ContainsFunc_string_impl_goodNames_1.F) (lb := slices_ContainsFunc_string_impl_goodNames_1.lb) (st := slices_ContainsFunc_string_impl_goodNames_1.st) (step := slices_ContainsFunc_string_impl_goodNames_1.step) (md := slices_ContainsFunc_string_impl_goodNames_1.md) tabs slices_ContainsFunc_string_impl_goodNames_1.text slices_ContainsFunc_string_impl_goodNames_1.seg_eq (fun n x => ⟨.p0 x.1, rfl, rfl, rfl⟩) (consC slices_IndexFunc_string_impl_goodNames_1.ok (nilC))

/-! loop.example/g00039/impl.goodNames -/
def impl_goodNames.T : List Ctr := [impl_rising_string.spec, impl_goodNames_1.spec, slices_ContainsFunc_string_impl_goodNames_1.spec]
def impl_goodNames.md : List (Nat × List Md) := [(145, [.v, .fn])]
noncomputable def impl_goodNames.F : Fun := ⟨(Go.Proofs.Tryz.f96.body).getD .skip, [.v (.sl false .str)], [(.tmp 2, .bool)], [], 0, []⟩
inductive impl_goodNames.Pt where
  | p0 (a0 : List (ByteArray))
def impl_goodNames.lb : impl_goodNames.Pt → Nat
  | .p0 _ => 0
def impl_goodNames.st : impl_goodNames.Pt → St
  | .p0 a0 => enter [.v (.sl false .str) a0] 0
def impl_goodNames.step (n : Nat) (K : impl_goodNames.Pt → Option (Tup [.bool])) : impl_goodNames.Pt → Option (Tup [.bool])
  | .p0 a0 => cond (decide (((List.length a0) : Int) ≤ (10 : Int))) ((impl_rising_string n a0).bind fun r4 => cond r4 ((slices_ContainsFunc_string_impl_goodNames_1 n a0).bind fun r5 => some (!r5)) (some false)) (some false)
def impl_goodNames (n : Nat) (a0 : List (ByteArray)) : Option (Tup [.bool]) := goRec impl_goodNames.step n (.p0 a0)
def impl_goodNames.spec : Ctr := ⟨96, [.v (.sl false .str)], [.bool], [], fun n x => impl_goodNames n x.1⟩
theorem impl_goodNames.seg_eq (n : Nat) (goto : Nat → St → Option (Tup [.bool])) (y : impl_goodNames.Pt) : seg ⟨ty, gl, impl_goodNames.md, calOf impl_goodNames.T n⟩ impl_goodNames.F.np impl_goodNames.F.ks goto (impl_goodNames.F.fin ⟨ty, gl, impl_goodNames.md, calOf impl_goodNames.T 0⟩ [.bool]) impl_goodNames.F.c (impl_goodNames.lb y) (impl_goodNames.st y) = impl_goodNames.step n (fun z => goto (impl_goodNames.lb z) (impl_goodNames.st z)) y := by
  cases y <;> kernel_rfl
theorem impl_goodNames.text : Text Go.Proofs.Tryz.prog impl_goodNames.F impl_goodNames.spec := ⟨⟨Go.Proofs.Tryz.f96, by kernel_rfl, by kernel_rfl, by decide +kernel, by kernel_rfl, by kernel_rfl, of_decide_eq_true (by kernel_rfl)⟩, fun _ => rfl, fun _ => rfl, rfl⟩
theorem impl_goodNames.ok : CtrOK Go.Proofs.Tryz.prog gl impl_goodNames.spec :=
  ctr_ok (T := impl_goodNames.T) (F := impl_goodNames.F) (lb := impl_goodNames.lb) (st := impl_goodNames.st) (step := impl_goodNames.step) (md := impl_goodNames.md) tabs impl_goodNames.text impl_goodNames.seg_eq (fun n x => ⟨.p0 x.1, rfl, rfl, rfl⟩) (consC impl_rising_string.ok (consC impl_goodNames_1.ok (consC slices_ContainsFunc_string_impl_goodNames_1.ok (nilC))))

/-! loop.example/g00039/impl.isTime -/
def impl_isTime.T : List Ctr := []
def impl_isTime.md : List (Nat × List Md) := []
noncomputable def impl_isTime.F : Fun := ⟨(Go.Proofs.Tryz.f55.body).getD .skip, [.v (.int .i64)], [(.tmp 2, .bool)], [], 0, []⟩
inductive impl_isTime.Pt where
  | p0 (a0 : Int)
def impl_isTime.lb : impl_isTime.Pt → Nat
  | .p0 _ => 0
def impl_isTime.st : impl_isTime.Pt → St
  | .p0 a0 => enter [.v (.int .i64) a0] 0
def impl_isTime.step (n : Nat) (K : impl_isTime.Pt → Option (Tup [.bool])) : impl_isTime.Pt → Option (Tup [.bool])
  | .p0 a0 => cond (decide ((0 : Int) ≤ a0)) (some (decide (a0 ≤ (1000000000000 : Int)))) (some false)
def impl_isTime (n : Nat) (a0 : Int) : Option (Tup [.bool]) := goRec impl_isTime.step n (.p0 a0)
def impl_isTime.spec : Ctr := ⟨55, [.v (.int .i64)], [.bool], [], fun n x => impl_isTime n x.1⟩
theorem impl_isTime.seg_eq (n : Nat) (goto : Nat → St → Option (Tup [.bool])) (y : impl_isTime.Pt) : seg ⟨ty, gl, impl_isTime.md, calOf impl_isTime.T n⟩ impl_isTime.F.np impl_isTime.F.ks goto (impl_isTime.F.fin ⟨ty, gl, impl_isTime.md, calOf impl_isTime.T 0⟩ [.bool]) impl_isTime.F.c (impl_isTime.lb y) (impl_isTime.st y) = impl_isTime.step n (fun z => goto (impl_isTime.lb z) (impl_isTime.st z)) y := by
  cases y <;> kernel_rfl
theorem impl_isTime.text : Text Go.Proofs.Tryz.prog impl_isTime.F impl_isTime.spec := ⟨⟨Go.Proofs.Tryz.f55, by kernel_rfl, by kernel_rfl, by decide +kernel, by kernel_rfl, by kernel_rfl, of_decide_eq_true (by kernel_rfl)⟩, fun _ => rfl, fun _ => rfl, rfl⟩
theorem impl_isTime.ok : CtrOK Go.Proofs.Tryz.prog gl impl_isTime.spec :=
  ctr_ok (T := impl_isTime.T) (F := impl_isTime.F) (lb := impl_isTime.lb) (st := impl_isTime.st) (step := impl_isTime.step) (md := impl_isTime.md) tabs impl_isTime.text impl_isTime.seg_eq (fun n x => ⟨.p0 x.1, rfl, rfl, rfl⟩) (nilC)

/-! loop.example/g00039/impl.rising[int] -/
def impl_rising_int.T : List Ctr := []
def impl_rising_int.md : List (Nat × List Md) := []
noncomputable def impl_rising_int.F : Fun := ⟨(Go.Proofs.Tryz.f99.body).getD .skip, [.v (.sl false (.int .i64))], [(.tmp 2, .bool)], [], 0, [(7, ⟨[0, 3], [], [], false⟩)]⟩
inductive impl_rising_int.Pt where
  | p0 (a0 : List (Int))
  | p7 (y1 : List (Int)) (y2 : Int)
def impl_rising_int.lb : impl_rising_int.Pt → Nat
  | .p0 _ => 0
  | .p7 _ _ => 7
def impl_rising_int.st : impl_rising_int.Pt → St
  | .p0 a0 => enter [.v (.sl false (.int .i64)) a0] 0
  | .p7 y1 y2 => ⟨[(0, .im (.sl false (.int .i64)) y1), (3, .im (.int .i64) y2)], [], 0⟩
def impl_rising_int.step (n : Nat) (K : impl_rising_int.Pt → Option (Tup [.bool])) : impl_rising_int.Pt → Option (Tup [.bool])
  | .p0 a0 => K (.p7 a0 (1 : Int))
  | .p7 y1 y2 => cond (decide (y2 < ((List.length y1) : Int))) (cond (inB (IntKind.wrap .i64 (y2 - (1 : Int))) (List.length y1)) (cond (inB y2 (List.length y1)) (cond (decide ((List.getD y1 (Int.toNat y2) default) ≤ (List.getD y1 (Int.toNat (IntKind.wrap .i64 (y2 - (1 : Int)))) default))) (some false) (K (.p7 y1 (IntKind.wrap .i64 (y2 + (1 : Int)))))) (none)) (none)) (some true)
def impl_rising_int (n : Nat) (a0 : List (Int)) : Option (Tup [.bool]) := goRec impl_rising_int.step n (.p0 a0)
def impl_rising_int.spec : Ctr := ⟨99, [.v (.sl false (.int .i64))], [.bool], [], fun n x => impl_rising_int n x.1⟩
theorem impl_rising_int.seg_eq (n : Nat) (goto : Nat → St → Option (Tup [.bool])) (y : impl_rising_int.Pt) : seg ⟨ty, gl, impl_rising_int.md, calOf impl_rising_int.T n⟩ impl_rising_int.F.np impl_rising_int.F.ks goto (impl_rising_int.F.fin ⟨ty, gl, impl_rising_int.md, calOf impl_rising_int.T 0⟩ [.bool]) impl_rising_int.F.c (impl_rising_int.lb y) (impl_rising_int.st y) = impl_rising_int.step n (fun z => goto (impl_rising_int.lb z) (impl_rising_int.st z)) y := by
  cases y <;> kernel_rfl
theorem impl_rising_int.text : Text Go.Proofs.Tryz.prog impl_rising_int.F impl_rising_int.spec := ⟨⟨Go.Proofs.Tryz.f99, by kernel_rfl, by kernel_rfl, by decide +kernel, by kernel_rfl, by kernel_rfl, of_decide_eq_true (by kernel_rfl)⟩, fun _ => rfl, fun _ => rfl, rfl⟩
theorem impl_rising_int.ok : CtrOK Go.Proofs.Tryz.prog gl impl_rising_int.spec :=
  ctr_ok (T := impl_rising_int.T) (F := impl_rising_int.F) (lb := impl_rising_int.lb) (st := impl_rising_int.st) (step := impl_rising_int.step) (md := impl_rising_int.md) tabs impl_rising_int.text impl_rising_int.seg_eq (fun n x => ⟨.p0 x.1, rfl, rfl, rfl⟩) (nilC)

/-! loop.example/g00039/impl.goodRoute -/
def impl_goodRoute.T : List Ctr := [impl_isName.spec, impl_GoodMatchers.spec, impl_goodNames.spec, impl_isTime.spec, impl_rising_int.spec]
def impl_goodRoute.md : List (Nat × List Md) := []
noncomputable def impl_goodRoute.F : Fun := ⟨(Go.Proofs.Tryz.f91.body).getD .skip, [.v (.pair .str (.pair (.sl false (.pair .str (.pair (.int .i64) (.pair .str .unit)))) (.pair (.sl false .str) (.pair (.int .i64) (.pair (.int .i64) (.pair (.int .i64) (.pair (.sl false (.int .i64)) (.pair .bool (.pair (.int .i64) .unit)))))))))], [(.tmp 2, .bool)], [], 0, [(4, ⟨[1, 60], [], [(1, 1, (.pair .str (.pair (.int .i64) (.pair .str .unit)))), (1, 2, .str), (1, 6, (.int .i64))], false⟩), (15, ⟨[62, 63, 64], [(62, (.int .i64))], [], false⟩)]⟩
inductive impl_goodRoute.Pt where
  | p0 (a0 : (ByteArray) × ((List ((ByteArray) × ((Int) × ((ByteArray) × (Unit))))) × ((List (ByteArray)) × ((Int) × ((Int) × ((Int) × ((List (Int)) × ((Bool) × ((Int) × (Unit))))))))))
  | p4 (y1 : Bool) (y2 : ByteArray) (y3 : List ((ByteArray) × ((Int) × ((ByteArray) × (Unit))))) (y4 : List (ByteArray)) (y5 : Int) (y6 : Int) (y7 : Int) (y8 : List (Int)) (y9 : Bool) (y10 : Int)
  | p15 (y1 : List (Int)) (y2 : Int) (y3 : Int)
def impl_goodRoute.lb : impl_goodRoute.Pt → Nat
  | .p0 _ => 0
  | .p4 _ _ _ _ _ _ _ _ _ _ => 4
  | .p15 _ _ _ => 15
def impl_goodRoute.st : impl_goodRoute.Pt → St
  | .p0 a0 => enter [.v (.pair .str (.pair (.sl false (.pair .str (.pair (.int .i64) (.pair .str .unit)))) (.pair (.sl false .str) (.pair (.int .i64) (.pair (.int .i64) (.pair (.int .i64) (.pair (.sl false (.int .i64)) (.pair .bool (.pair (.int .i64) .unit))))))))) a0] 0
  | .p4 y1 y2 y3 y4 y5 y6 y7 y8 y9 y10 => ⟨[(1, .po 0 0), (60, .im .bool y1)], [(0, .obj [.im .str y2, .im (.sl false (.pair .str (.pair (.int .i64) (.pair .str .unit)))) y3, .im (.sl false .str) y4, .im (.int .i64) y5, .im (.int .i64) y6, .im (.int .i64) y7, .im (.sl false (.int .i64)) y8, .im .bool y9, .im (.int .i64) y10])], 1⟩
  | .p15 y1 y2 y3 => ⟨[(62, .im (.sl false (.int .i64)) y1), (63, .im (.int .i64) y2), (64, .im (.int .i64) y3)], [], 0⟩
def impl_goodRoute.step (n : Nat) (K : impl_goodRoute.Pt → Option (Tup [.bool])) : impl_goodRoute.Pt → Option (Tup [.bool])
  | .p0 a0 => (impl_isName n a0.1).bind fun r4 => cond (!r4) (K (.p4 true a0.1 a0.2.1 a0.2.2.1 a0.2.2.2.1 a0.2.2.2.2.1 a0.2.2.2.2.2.1 a0.2.2.2.2.2.2.1 a0.2.2.2.2.2.2.2.1 a0.2.2.2.2.2.2.2.2.1)) ((impl_GoodMatchers n a0.2.1).bind fun r5 => cond (!r5) (K (.p4 true a0.1 a0.2.1 a0.2.2.1 a0.2.2.2.1 a0.2.2.2.2.1 a0.2.2.2.2.2.1 a0.2.2.2.2.2.2.1 a0.2.2.2.2.2.2.2.1 a0.2.2.2.2.2.2.2.2.1)) ((impl_goodNames n a0.2.2.1).bind fun r6 => cond (!r6) (K (.p4 true a0.1 a0.2.1 a0.2.2.1 a0.2.2.2.1 a0.2.2.2.2.1 a0.2.2.2.2.2.1 a0.2.2.2.2.2.2.1 a0.2.2.2.2.2.2.2.1 a0.2.2.2.2.2.2.2.2.1)) ((impl_isTime n a0.2.2.2.1).bind fun r7 => cond (!r7) (K (.p4 true a0.1 a0.2.1 a0.2.2.1 a0.2.2.2.1 a0.2.2.2.2.1 a0.2.2.2.2.2.1 a0.2.2.2.2.2.2.1 a0.2.2.2.2.2.2.2.1 a0.2.2.2.2.2.2.2.2.1)) ((impl_isTime n a0.2.2.2.2.1).bind fun r8 => cond (!r8) (K (.p4 true a0.1 a0.2.1 a0.2.2.1 a0.2.2.2.1 a0.2.2.2.2.1 a0.2.2.2.2.2.1 a0.2.2.2.2.2.2.1 a0.2.2.2.2.2.2.2.1 a0.2.2.2.2.2.2.2.2.1)) (cond (decide (a0.2.2.2.2.1 = (0 : Int))) (K (.p4 true a0.1 a0.2.1 a0.2.2.1 a0.2.2.2.1 a0.2.2.2.2.1 a0.2.2.2.2.2.1 a0.2.2.2.2.2.2.1 a0.2.2.2.2.2.2.2.1 a0.2.2.2.2.2.2.2.2.1)) ((impl_isTime n a0.2.2.2.2.2.1).bind fun r9 => cond (!r9) (K (.p4 true a0.1 a0.2.1 a0.2.2.1 a0.2.2.2.1 a0.2.2.2.2.1 a0.2.2.2.2.2.1 a0.2.2.2.2.2.2.1 a0.2.2.2.2.2.2.2.1 a0.2.2.2.2.2.2.2.2.1)) (cond (decide (a0.2.2.2.2.2.1 = (0 : Int))) (K (.p4 true a0.1 a0.2.1 a0.2.2.1 a0.2.2.2.1 a0.2.2.2.2.1 a0.2.2.2.2.2.1 a0.2.2.2.2.2.2.1 a0.2.2.2.2.2.2.2.1 a0.2.2.2.2.2.2.2.2.1)) (cond (decide ((20 : Int) < ((List.length a0.2.2.2.2.2.2.1) : Int))) (K (.p4 true a0.1 a0.2.1 a0.2.2.1 a0.2.2.2.1 a0.2.2.2.2.1 a0.2.2.2.2.2.1 a0.2.2.2.2.2.2.1 a0.2.2.2.2.2.2.2.1 a0.2.2.2.2.2.2.2.2.1)) ((impl_rising_int n a0.2.2.2.2.2.2.1).bind fun r10 => K (.p4 (!r10) a0.1 a0.2.1 a0.2.2.1 a0.2.2.2.1 a0.2.2.2.2.1 a0.2.2.2.2.2.1 a0.2.2.2.2.2.2.1 a0.2.2.2.2.2.2.2.1 a0.2.2.2.2.2.2.2.2.1))))))))))
  | .p4 y1 y2 y3 y4 y5 y6 y7 y8 y9 y10 => cond y1 (some false) (K (.p15 y8 ((List.length y8) : Int) (0 : Int)))
  | .p15 y1 y2 y3 => cond (decide (y3 < y2)) (cond (inB y3 (List.length y1)) (cond (decide ((List.getD y1 (Int.toNat y3) default) < (0 : Int))) (some false) (cond (decide ((20 : Int) ≤ (List.getD y1 (Int.toNat y3) default))) (some false) (K (.p15 y1 y2 (IntKind.wrap .i64 (y3 + (1 : Int))))))) (none)) (some true)
def impl_goodRoute (n : Nat) (a0 : (ByteArray) × ((List ((ByteArray) × ((Int) × ((ByteArray) × (Unit))))) × ((List (ByteArray)) × ((Int) × ((Int) × ((Int) × ((List (Int)) × ((Bool) × ((Int) × (Unit)))))))))) : Option (Tup [.bool]) := goRec impl_goodRoute.step n (.p0 a0)
def impl_goodRoute.spec : Ctr := ⟨91, [.v (.pair .str (.pair (.sl false (.pair .str (.pair (.int .i64) (.pair .str .unit)))) (.pair (.sl false .str) (.pair (.int .i64) (.pair (.int .i64) (.pair (.int .i64) (.pair (.sl false (.int .i64)) (.pair .bool (.pair (.int .i64) .unit)))))))))], [.bool], [], fun n x => impl_goodRoute n x.1⟩
theorem impl_goodRoute.seg_eq (n : Nat) (goto : Nat → St → Option (Tup [.bool])) (y : impl_goodRoute.Pt) : seg ⟨ty, gl, impl_goodRoute.md, calOf impl_goodRoute.T n⟩ impl_goodRoute.F.np impl_goodRoute.F.ks goto (impl_goodRoute.F.fin ⟨ty, gl, impl_goodRoute.md, calOf impl_goodRoute.T 0⟩ [.bool]) impl_goodRoute.F.c (impl_goodRoute.lb y) (impl_goodRoute.st y) = impl_goodRoute.step n (fun z => goto (impl_goodRoute.lb z) (impl_goodRoute.st z)) y := by
  cases y <;> kernel_rfl
theorem impl_goodRoute.text : Text Go.Proofs.Tryz.prog impl_goodRoute.F impl_goodRoute.spec := ⟨⟨Go.Proofs.Tryz.f91, by kernel_rfl, by kernel_rfl, by decide +kernel, by kernel_rfl, by kernel_rfl, of_decide_eq_true (by kernel_rfl)⟩, fun _ => rfl, fun _ => rfl, rfl⟩
theorem impl_goodRoute.ok : CtrOK Go.Proofs.Tryz.prog gl impl_goodRoute.spec :=
  ctr_ok (T := impl_goodRoute.T) (F := impl_goodRoute.F) (lb := impl_goodRoute.lb) (st := impl_goodRoute.st) (step := impl_goodRoute.step) (md := impl_goodRoute.md) tabs impl_goodRoute.text impl_goodRoute.seg_eq (fun n x => ⟨.p0 x.1, rfl, rfl, rfl⟩) (consC impl_isName.ok (consC impl_GoodMatchers.ok (consC impl_goodNames.ok (consC impl_isTime.ok (consC impl_rising_int.ok (nilC))))))

/-! loop.example/g00039/impl.GoodRoutes$1 -/
def impl_GoodRoutes_1.T : List Ctr := [impl_goodRoute.spec]
def impl_GoodRoutes_1.md : List (Nat × List Md) := []
noncomputable def impl_GoodRoutes_1.F : Fun := ⟨(Go.Proofs.Tryz.f90.body).getD .skip, [.v (.pair .str (.pair (.sl false (.pair .str (.pair (.int .i64) (.pair .str .unit)))) (.pair (.sl false .str) (.pair (.int .i64) (.pair (.int .i64) (.pair (.int .i64) (.pair (.sl false (.int .i64)) (.pair .bool (.pair (.int .i64) .unit)))))))))], [(.tmp 2, .bool)], [], 0, []⟩
inductive impl_GoodRoutes_1.Pt where
  | p0 (a0 : (ByteArray) × ((List ((ByteArray) × ((Int) × ((ByteArray) × (Unit))))) × ((List (ByteArray)) × ((Int) × ((Int) × ((Int) × ((List (Int)) × ((Bool) × ((Int) × (Unit))))))))))
def impl_GoodRoutes_1.lb : impl_GoodRoutes_1.Pt → Nat
  | .p0 _ => 0
def impl_GoodRoutes_1.st : impl_GoodRoutes_1.Pt → St
  | .p0 a0 => enter [.v (.pair .str (.pair (.sl false (.pair .str (.pair (.int .i64) (.pair .str .unit)))) (.pair (.sl false .str) (.pair (.int .i64) (.pair (.int .i64) (.pair (.int .i64) (.pair (.sl false (.int .i64)) (.pair .bool (.pair (.int .i64) .unit))))))))) a0] 0
def impl_GoodRoutes_1.step (n : Nat) (K : impl_GoodRoutes_1.Pt → Option (Tup [.bool])) : impl_GoodRoutes_1.Pt → Option (Tup [.bool])
  | .p0 a0 => (impl_goodRoute n a0).bind fun r4 => some (!r4)
def impl_GoodRoutes_1 (n : Nat) (a0 : (ByteArray) × ((List ((ByteArray) × ((Int) × ((ByteArray) × (Unit))))) × ((List (ByteArray)) × ((Int) × ((Int) × ((Int) × ((List (Int)) × ((Bool) × ((Int) × (Unit)))))))))) : Option (Tup [.bool]) := goRec impl_GoodRoutes_1.step n (.p0 a0)
def impl_GoodRoutes_1.spec : Ctr := ⟨90, [.v (.pair .str (.pair (.sl false (.pair .str (.pair (.int .i64) (.pair .str .unit)))) (.pair (.sl false .str) (.pair (.int .i64) (.pair (.int .i64) (.pair (.int .i64) (.pair (.sl false (.int .i64)) (.pair .bool (.pair (.int .i64) .unit)))))))))], [.bool], [], fun n x => impl_GoodRoutes_1 n x.1⟩
theorem impl_GoodRoutes_1.seg_eq (n : Nat) (goto : Nat → St → Option (Tup [.bool])) (y : impl_GoodRoutes_1.Pt) : seg ⟨ty, gl, impl_GoodRoutes_1.md, calOf impl_GoodRoutes_1.T n⟩ impl_GoodRoutes_1.F.np impl_GoodRoutes_1.F.ks goto (impl_GoodRoutes_1.F.fin ⟨ty, gl, impl_GoodRoutes_1.md, calOf impl_GoodRoutes_1.T 0⟩ [.bool]) impl_GoodRoutes_1.F.c (impl_GoodRoutes_1.lb y) (impl_GoodRoutes_1.st y) = impl_GoodRoutes_1.step n (fun z => goto (impl_GoodRoutes_1.lb z) (impl_GoodRoutes_1.st z)) y := by
  cases y <;> kernel_rfl
theorem impl_GoodRoutes_1.text : Text Go.Proofs.Tryz.prog impl_GoodRoutes_1.F impl_GoodRoutes_1.spec := ⟨⟨Go.Proofs.Tryz.f90, by kernel_rfl, by kernel_rfl, by decide +kernel, by kernel_rfl, by kernel_rfl, of_decide_eq_true (by kernel_rfl)⟩, fun _ => rfl, fun _ => rfl, rfl⟩
theorem impl_GoodRoutes_1.ok : CtrOK Go.Proofs.Tryz.prog gl impl_GoodRoutes_1.spec :=
  ctr_ok (T := impl_GoodRoutes_1.T) (F := impl_GoodRoutes_1.F) (lb := impl_GoodRoutes_1.lb) (st := impl_GoodRoutes_1.st) (step := impl_GoodRoutes_1.step) (md := impl_GoodRoutes_1.md) tabs impl_GoodRoutes_1.text impl_GoodRoutes_1.seg_eq (fun n x => ⟨.p0 x.1, rfl, rfl, rfl⟩) (consC impl_goodRoute.ok (nilC))

/-! slices.IndexFunc[[]loop.example/g00039/impl.Route,loop.example/g00039/impl.Route] -/
def slices_IndexFunc_Route_impl_GoodRoutes_1.T : List Ctr := [impl_GoodRoutes_1.spec]
def slices_IndexFunc_Route_impl_GoodRoutes_1.md : List (Nat × List Md) := []
noncomputable def slices_IndexFunc_Route_impl_GoodRoutes_1.F : Fun := ⟨(Go.Proofs.Tryz.f106.body).getD .skip, [.v (.sl false (.pair .str (.pair (.sl false (.pair .str (.pair (.int .i64) (.pair .str .unit)))) (.pair (.sl false .str) (.pair (.int .i64) (.pair (.int .i64) (.pair (.int .i64) (.pair (.sl false (.int .i64)) (.pair .bool (.pair (.int .i64) .unit)))))))))), .fn 90 []], [(.tmp 4, (.int .i64))], [], 0, [(7, ⟨[0, 1, 7, 8], [], [], false⟩)]⟩
inductive slices_IndexFunc_Route_impl_GoodRoutes_1.Pt where
  | p0 (a0 : List ((ByteArray) × ((List ((ByteArray) × ((Int) × ((ByteArray) × (Unit))))) × ((List (ByteArray)) × ((Int) × ((Int) × ((Int) × ((List (Int)) × ((Bool) × ((Int) × (Unit)))))))))))
  | p7 (y1 : List ((ByteArray) × ((List ((ByteArray) × ((Int) × ((ByteArray) × (Unit))))) × ((List (ByteArray)) × ((Int) × ((Int) × ((Int) × ((List (Int)) × ((Bool) × ((Int) × (Unit))))))))))) (y2 : Int) (y3 : Int)
def slices_IndexFunc_Route_impl_GoodRoutes_1.lb : slices_IndexFunc_Route_impl_GoodRoutes_1.Pt → Nat
  | .p0 _ => 0
  | .p7 _ _ _ => 7
def slices_IndexFunc_Route_impl_GoodRoutes_1.st : slices_IndexFunc_Route_impl_GoodRoutes_1.Pt → St
  | .p0 a0 => enter [.v (.sl false (.pair .str (.pair (.sl false (.pair .str (.pair (.int .i64) (.pair .str .unit)))) (.pair (.sl false .str) (.pair (.int .i64) (.pair (.int .i64) (.pair (.int .i64) (.pair (.sl false (.int .i64)) (.pair .bool (.pair (.int .i64) .unit)))))))))) a0, .fn 90 []] 0
  | .p7 y1 y2 y3 => ⟨[(0, .im (.sl false (.pair .str (.pair (.sl false (.pair .str (.pair (.int .i64) (.pair .str .unit)))) (.pair (.sl false .str) (.pair (.int .i64) (.pair (.int .i64) (.pair (.int .i64) (.pair (.sl false (.int .i64)) (.pair .bool (.pair (.int .i64) .unit)))))))))) y1), (1, .fn 90 []), (7, .im (.int .i64) y2), (8, .im (.int .i64) y3)], [], 0⟩
def slices_IndexFunc_Route_impl_GoodRoutes_1.step (n : Nat) (K : slices_IndexFunc_Route_impl_GoodRoutes_1.Pt → Option (Tup [(.int .i64)])) : slices_IndexFunc_Route_impl_GoodRoutes_1.Pt → Option (Tup [(.int .i64)])
  | .p0 a0 => K (.p7 a0 ((List.length a0) : Int) (0 : Int))
  | .p7 y1 y2 y3 => cond (decide (y3 < y2)) (cond (inB y3 (List.length y1)) ((impl_GoodRoutes_1 n (List.getD y1 (Int.toNat y3) default)).bind fun r6 => cond r6 (some y3) (K (.p7 y1 y2 (IntKind.wrap .i64 (y3 + (1 : Int)))))) (none)) (some (-(1 : Int)))
def slices_IndexFunc_Route_impl_GoodRoutes_1 (n : Nat) (a0 : List ((ByteArray) × ((List ((ByteArray) × ((Int) × ((ByteArray) × (Unit))))) × ((List (ByteArray)) × ((Int) × ((Int) × ((Int) × ((List (Int)) × ((Bool) × ((Int) × (Unit))))))))))) : Option (Tup [(.int .i64)]) := goRec slices_IndexFunc_Route_impl_GoodRoutes_1.step n (.p0 a0)
def slices_IndexFunc_Route_impl_GoodRoutes_1.spec : Ctr := ⟨106, [.v (.sl false (.pair .str (.pair (.sl false (.pair .str (.pair (.int .i64) (.pair .str .unit)))) (.pair (.sl false .str) (.pair (.int .i64) (.pair (.int .i64) (.pair (.int .i64) (.pair (.sl false (.int .i64)) (.pair .bool (.pair (.int .i64) .unit)))))))))), .fn 90 []], [(.int .i64)], [], fun n x => slices_IndexFunc_Route_impl_GoodRoutes_1 n x.1⟩
theorem slices_IndexFunc_Route_impl_GoodRoutes_1.seg_eq (n : Nat) (goto : Nat → St → Option (Tup [(.int .i64)])) (y : slices_IndexFunc_Route_impl_GoodRoutes_1.Pt) : seg ⟨ty, gl, slices_IndexFunc_Route_impl_GoodRoutes_1.md, calOf slices_IndexFunc_Route_impl_GoodRoutes_1.T n⟩ slices_IndexFunc_Route_impl_GoodRoutes_1.F.np slices_IndexFunc_Route_impl_GoodRoutes_1.F.ks goto (slices_IndexFunc_Route_impl_GoodRoutes_1.F.fin ⟨ty, gl, slices_IndexFunc_Route_impl_GoodRoutes_1.md, calOf slices_IndexFunc_Route_impl_GoodRoutes_1.T 0⟩ [(.int .i64)]) slices_IndexFunc_Route_impl_GoodRoutes_1.F.c (slices_IndexFunc_Route_impl_GoodRoutes_1.lb y) (slices_IndexFunc_Route_impl_GoodRoutes_1.st y) = slices_IndexFunc_Route_impl_GoodRoutes_1.step n (fun z => goto (slices_IndexFunc_Route_impl_GoodRoutes_1.lb z) (slices_IndexFunc_Route_impl_GoodRoutes_1.st z)) y := by
  cases y <;> kernel_rfl
theorem slices_IndexFunc_Route_impl_GoodRoutes_1.text : Text Go.Proofs.Tryz.prog slices_IndexFunc_Route_impl_GoodRoutes_1.F slices_IndexFunc_Route_impl_GoodRoutes_1.spec := ⟨⟨Go.Proofs.Tryz.f106, by kernel_rfl, by kernel_rfl, by decide +kernel, by kernel_rfl, by kernel_rfl, of_decide_eq_true (by kernel_rfl)⟩, fun _ => rfl, fun _ => rfl, rfl⟩
theorem slices_IndexFunc_Route_impl_GoodRoutes_1.ok : CtrOK Go.Proofs.Tryz.prog gl slices_IndexFunc_Route_impl_GoodRoutes_1.spec :=
  ctr_ok (T := slices_IndexFunc_Route_impl_GoodRoutes_1.T) (F := slices_IndexFunc_Route_impl_GoodRoutes_1.F) (lb := slices_IndexFunc_Route_impl_GoodRoutes_1.lb) (st := slices_IndexFunc_Route_impl_GoodRoutes_1.st) (step := slices_IndexFunc_Route_impl_GoodRoutes_1.step) (md := slices_IndexFunc_Route_impl_GoodRoutes_1.md) tabs slices_IndexFunc_Route_impl_GoodRoutes_1.text slices_IndexFunc_Route_impl_GoodRoutes_1.seg_eq (fun n x => ⟨.p0 x.1, rfl, rfl, rfl⟩) (consC impl_GoodRoutes_1.ok (nilC))

/-! slices.ContainsFunc[[]loop.example/g00039/impl.Route,loop.example/g00039/impl.Route] -/
def slices_ContainsFunc_Route_impl_GoodRoutes_1.T : List Ctr := [slices_IndexFunc_Route_impl_GoodRoutes_1.spec]
def slices_ContainsFunc_Route_impl_GoodRoutes_1.md : List (Nat × List Md) := [(106, [.v, .fn])]
noncomputable def slices_ContainsFunc_Route_impl_GoodRoutes_1.F : Fun := ⟨(Go.Proofs.Tryz.f57.body).getD .skip, [.v (.sl false (.pair .str (.pair (.sl false (.pair .str (.pair (.int .i64) (.pair .str .unit)))) (.pair (.sl false .str) (.pair (.int .i64) (.pair (.int .i64) (.pair (.int .i64) (.pair (.sl false (.int .i64)) (.pair .bool (.pair (.int .i64) .unit)))))))))), .fn 90 []], [(.tmp 4, .bool)], [], 0, []⟩
inductive slices_ContainsFunc_Route_impl_GoodRoutes_1.Pt where
  | p0 (a0 : List ((ByteArray) × ((List ((ByteArray) × ((Int) × ((ByteArray) × (Unit))))) × ((List (ByteArray)) × ((Int) × ((Int) × ((Int) × ((List (Int)) × ((Bool) × ((Int) × (Unit)))))))))))
def slices_ContainsFunc_Route_impl_GoodRoutes_1.lb : slices_ContainsFunc_Route_impl_GoodRoutes_1.Pt → Nat
  | .p0 _ => 0
def slices_ContainsFunc_Route_impl_GoodRoutes_1.st : slices_ContainsFunc_Route_impl_GoodRoutes_1.Pt → St
  | .p0 a0 => enter [.v (.sl false (.pair .str (.pair (.sl false (.pair .str (.pair (.int .i64) (.pair .str .unit)))) (.pair (.sl false .str) (.pair (.int .i64) (.pair (.int .i64) (.pair (.int .i64) (.pair (.sl false (.int .i64)) (.pair .bool (.pair (.int .i64) .unit)))))))))) a0, .fn 90 []] 0
def slices_ContainsFunc_Route_impl_GoodRoutes_1.step (n : Nat) (K : slices_ContainsFunc_Route_impl_GoodRoutes_1.Pt → Option (Tup [.bool])) : slices_ContainsFunc_Route_impl_GoodRoutes_1.Pt → Option (Tup [.bool])
  | .p0 a0 => (slices_IndexFunc_Route_impl_GoodRoutes_1 n a0).bind fun (r4 : Int) => some (decide ((0 : Int) ≤ r4))
def slices_ContainsFunc_Route_impl_GoodRoutes_1 (n : Nat) (a0 : List ((ByteArray) × ((List ((ByteArray) × ((Int) × ((ByteArray) × (Unit))))) × ((List (ByteArray)) × ((Int) × ((Int) × ((Int) × ((List (Int)) × ((Bool) × ((Int) × (Unit))))))))))) : Option (Tup [.bool]) := goRec slices_ContainsFunc_Route_impl_GoodRoutes_1.step n (.p0 a0)
def slices_ContainsFunc_Route_impl_GoodRoutes_1.spec : Ctr := ⟨57, [.v (.sl false (.pair .str (.pair (.sl false (.pair .str (.pair (.int .i64) (.pair .str .unit)))) (.pair (.sl false .str) (.pair (.int .i64) (.pair (.int .i64) (.pair (.int .i64) (.pair (.sl false (.int .i64)) (.pair .bool (.pair (.int .i64) .unit)))))))))), .fn 90 []], [.bool], [], fun n x => slices_ContainsFunc_Route_impl_GoodRoutes_1 n x.1⟩
theorem slices_ContainsFunc_Route_impl_GoodRoutes_1.seg_eq (n : Nat) (goto : Nat → St → Option (Tup [.bool])) (y : slices_ContainsFunc_Route_impl_GoodRoutes_1.Pt) : seg ⟨ty, gl, slices_ContainsFunc_Route_impl_GoodRoutes_1.md, calOf slices_ContainsFunc_Route_impl_GoodRoutes_1.T n⟩ slices_ContainsFunc_Route_impl_GoodRoutes_1.F.np slices_ContainsFunc_Route_impl_GoodRoutes_1.F.ks goto (slices_ContainsFunc_Route_impl_GoodRoutes_1.F.fin ⟨ty, gl, slices_ContainsFunc_Route_impl_GoodRoutes_1.md, calOf slices_ContainsFunc_Route_impl_GoodRoutes_1.T 0⟩ [.bool]) slices_ContainsFunc_Route_impl_GoodRoutes_1.F.c (slices_ContainsFunc_Route_impl_GoodRoutes_1.lb y) (slices_ContainsFunc_Route_impl_GoodRoutes_1.st y) = slices_ContainsFunc_Route_impl_GoodRoutes_1.step n (fun z => goto (slices_ContainsFunc_Route_impl_GoodRoutes_1.lb z) (slices_ContainsFunc_Route_impl_GoodRoutes_1.st z)) y := by
  cases y <;> kernel_rfl
theorem slices_ContainsFunc_Route_impl_GoodRoutes_1.text : Text Go.Proofs.Tryz.prog slices_ContainsFunc_Route_impl_GoodRoutes_1.F slices_ContainsFunc_Route_impl_GoodRoutes_1.spec := ⟨⟨Go.Proofs.Tryz.f57, by kernel_rfl, by kernel_rfl, by decide +kernel, by kernel_rfl, by kernel_rfl, of_decide_eq_true (by kernel_rfl)⟩, fun _ => rfl, fun _ => rfl, rfl⟩
theorem slices_ContainsFunc_Route_impl_GoodRoutes_1.ok : CtrOK Go.Proofs.Tryz.prog gl slices_ContainsFunc_Route_impl_GoodRoutes_1.spec :=
  ctr_ok (T := slices_ContainsFunc_Route_impl_GoodRoutes_1.T) (F := slices_ContainsFunc_Route_impl_GoodRoutes_1.F) (lb := slices_ContainsFunc_Route_impl_GoodRoutes_1.lb) (st := slices_ContainsFunc_Route_impl_GoodRoutes_1.st) (step := slices_ContainsFunc_Route_impl_GoodRoutes_1.step) (md := slices_ContainsFunc_Route_impl_GoodRoutes_1.md) tabs slices_ContainsFunc_Route_impl_GoodRoutes_1.text slices_ContainsFunc_Route_impl_GoodRoutes_1.seg_eq (fun n x => ⟨.p0 x.1, rfl, rfl, rfl⟩) (consC slices_IndexFunc_Route_impl_GoodRoutes_1.ok (nilC))

/-! loop.example/g00039/impl.GoodRoutes -/
def impl_GoodRoutes.T : List Ctr := [impl_depths.spec, impl_GoodRoutes_1.spec, slices_ContainsFunc_Route_impl_GoodRoutes_1.spec]
def impl_GoodRoutes.md : List (Nat × List Md) := [(57, [.v, .fn])]
noncomputable def impl_GoodRoutes.F : Fun := ⟨(Go.Proofs.Tryz.f42.body).getD .skip, [.v (.sl false (.pair .str (.pair (.sl false (.pair .str (.pair (.int .i64) (.pair .str .unit)))) (.pair (.sl false .str) (.pair (.int .i64) (.pair (.int .i64) (.pair (.int .i64) (.pair (.sl false (.int .i64)) (.pair .bool (.pair (.int .i64) .unit))))))))))], [(.tmp 2, .bool)], [], 0, []⟩
inductive impl_GoodRoutes.Pt where
  | p0 (a0 : List ((ByteArray) × ((List ((ByteArray) × ((Int) × ((ByteArray) × (Unit))))) × ((List (ByteArray)) × ((Int) × ((Int) × ((Int) × ((List (Int)) × ((Bool) × ((Int) × (Unit)))))))))))
def impl_GoodRoutes.lb : impl_GoodRoutes.Pt → Nat
  | .p0 _ => 0
def impl_GoodRoutes.st : impl_GoodRoutes.Pt → St
  | .p0 a0 => enter [.v (.sl false (.pair .str (.pair (.sl false (.pair .str (.pair (.int .i64) (.pair .str .unit)))) (.pair (.sl false .str) (.pair (.int .i64) (.pair (.int .i64) (.pair (.int .i64) (.pair (.sl false (.int .i64)) (.pair .bool (.pair (.int .i64) .unit)))))))))) a0] 0
def impl_GoodRoutes.step (n : Nat) (K : impl_GoodRoutes.Pt → Option (Tup [.bool])) : impl_GoodRoutes.Pt → Option (Tup [.bool])
  | .p0 a0 => (impl_depths n a0).bind fun r4 => cond (!(List.isEmpty r4)) (cond (inB (0 : Int) (List.length a0)) (cond (decide (((List.length (List.getD a0 (Int.toNat (0 : Int)) default).2.1) : Int) = (0 : Int))) (cond (inB (0 : Int) (List.length a0)) (cond (!(List.getD a0 (Int.toNat (0 : Int)) default).2.2.2.2.2.2.2.1) ((slices_ContainsFunc_Route_impl_GoodRoutes_1 n a0).bind fun r5 => some (!r5)) (some false)) (none)) (some false)) (none)) (some false)
def impl_GoodRoutes (n : Nat) (a0 : List ((ByteArray) × ((List ((ByteArray) × ((Int) × ((ByteArray) × (Unit))))) × ((List (ByteArray)) × ((Int) × ((Int) × ((Int) × ((List (Int)) × ((Bool) × ((Int) × (Unit))))))))))) : Option (Tup [.bool]) := goRec impl_GoodRoutes.step n (.p0 a0)
def impl_GoodRoutes.spec : Ctr := ⟨42, [.v (.sl false (.pair .str (.pair (.sl false (.pair .str (.pair (.int .i64) (.pair .str .unit)))) (.pair (.sl false .str) (.pair (.int .i64) (.pair (.int .i64) (.pair (.int .i64) (.pair (.sl false (.int .i64)) (.pair .bool (.pair (.int .i64) .unit))))))))))], [.bool], [], fun n x => impl_GoodRoutes n x.1⟩
theorem impl_GoodRoutes.seg_eq (n : Nat) (goto : Nat → St → Option (Tup [.bool])) (y : impl_GoodRoutes.Pt) : seg ⟨ty, gl, impl_GoodRoutes.md, calOf impl_GoodRoutes.T n⟩ impl_GoodRoutes.F.np impl_GoodRoutes.F.ks goto (impl_GoodRoutes.F.fin ⟨ty, gl, impl_GoodRoutes.md, calOf impl_GoodRoutes.T 0⟩ [.bool]) impl_GoodRoutes.F.c (impl_GoodRoutes.lb y) (impl_GoodRoutes.st y) = impl_GoodRoutes.step n (fun z => goto (impl_GoodRoutes.lb z) (impl_GoodRoutes.st z)) y := by
  cases y <;> kernel_rfl
theorem impl_GoodRoutes.text : Text Go.Proofs.Tryz.prog impl_GoodRoutes.F impl_GoodRoutes.spec := ⟨⟨Go.Proofs.Tryz.f42, by kernel_rfl, by kernel_rfl, by decide +kernel, by kernel_rfl, by kernel_rfl, of_decide_eq_true (by kernel_rfl)⟩, fun _ => rfl, fun _ => rfl, rfl⟩
theorem impl_GoodRoutes.ok : CtrOK Go.Proofs.Tryz.prog gl impl_GoodRoutes.spec :=
  ctr_ok (T := impl_GoodRoutes.T) (F := impl_GoodRoutes.F) (lb := impl_GoodRoutes.lb) (st := impl_GoodRoutes.st) (step := impl_GoodRoutes.step) (md := impl_GoodRoutes.md) tabs impl_GoodRoutes.text impl_GoodRoutes.seg_eq (fun n x => ⟨.p0 x.1, rfl, rfl, rfl⟩) (consC impl_depths.ok (consC impl_GoodRoutes_1.ok (consC slices_ContainsFunc_Route_impl_GoodRoutes_1.ok (nilC))))

/-! loop.example/g00039/impl.isValue -/
def impl_isValue.T : List Ctr := [impl_printed.spec]
def impl_isValue.md : List (Nat × List Md) := []
noncomputable def impl_isValue.F : Fun := ⟨(Go.Proofs.Tryz.f120.body).getD .skip, [.v .str], [(.tmp 2, .bool)], [], 0, []⟩
inductive impl_isValue.Pt where
  | p0 (a0 : ByteArray)
def impl_isValue.lb : impl_isValue.Pt → Nat
  | .p0 _ => 0
def impl_isValue.st : impl_isValue.Pt → St
  | .p0 a0 => enter [.v .str a0] 0
def impl_isValue.step (n : Nat) (K : impl_isValue.Pt → Option (Tup [.bool])) : impl_isValue.Pt → Option (Tup [.bool])
  | .p0 a0 => cond (!(seq a0 (⟨#[]⟩ : ByteArray))) ((impl_printed n a0 (100 : Int)).bind fun r4 => some r4) (some false)
def impl_isValue (n : Nat) (a0 : ByteArray) : Option (Tup [.bool]) := goRec impl_isValue.step n (.p0 a0)
def impl_isValue.spec : Ctr := ⟨120, [.v .str], [.bool], [], fun n x => impl_isValue n x.1⟩
theorem impl_isValue.seg_eq (n : Nat) (goto : Nat → St → Option (Tup [.bool])) (y : impl_isValue.Pt) : seg ⟨ty, gl, impl_isValue.md, calOf impl_isValue.T n⟩ impl_isValue.F.np impl_isValue.F.ks goto (impl_isValue.F.fin ⟨ty, gl, impl_isValue.md, calOf impl_isValue.T 0⟩ [.bool]) impl_isValue.F.c (impl_isValue.lb y) (impl_isValue.st y) = impl_isValue.step n (fun z => goto (impl_isValue.lb z) (impl_isValue.st z)) y := by
  cases y <;> kernel_rfl
theorem impl_isValue.text : Text Go.Proofs.Tryz.prog impl_isValue.F impl_isValue.spec := ⟨⟨Go.Proofs.Tryz.f120, by kernel_rfl, by kernel_rfl, by decide +kernel, by kernel_rfl, by kernel_rfl, of_decide_eq_true (by kernel_rfl)⟩, fun _ => rfl, fun _ => rfl, rfl⟩
theorem impl_isValue.ok : CtrOK Go.Proofs.Tryz.prog gl impl_isValue.spec :=
  ctr_ok (T := impl_isValue.T) (F := impl_isValue.F) (lb := impl_isValue.lb) (st := impl_isValue.st) (step := impl_isValue.step) (md := impl_isValue.md) tabs impl_isValue.text impl_isValue.seg_eq (fun n x => ⟨.p0 x.1, rfl, rfl, rfl⟩) (consC impl_printed.ok (nilC))

/-! loop.example/g00039/impl.GoodLabels -/
def impl_GoodLabels.T : List Ctr := [impl_isName.spec, impl_isValue.spec]
def impl_GoodLabels.md : List (Nat × List Md) := []
noncomputable def impl_GoodLabels.F : Fun := ⟨(Go.Proofs.Tryz.f68.body).getD .skip, [.v (.sl false (.pair .str (.pair .str .unit)))], [(.tmp 2, .bool)], [], 0, [(15, ⟨[0, 8, 9, 10], [(8, (.pair .str (.pair .str .unit)))], [], false⟩), (26, ⟨[0, 8, 9, 10, 39], [(8, (.pair .str (.pair .str .unit)))], [], false⟩)]⟩
inductive impl_GoodLabels.Pt where
  | p0 (a0 : List ((ByteArray) × ((ByteArray) × (Unit))))
  | p15 (y1 : List ((ByteArray) × ((ByteArray) × (Unit)))) (y2 : List ((ByteArray) × ((ByteArray) × (Unit)))) (y3 : Int) (y4 : Int)
  | p26 (y1 : List ((ByteArray) × ((ByteArray) × (Unit)))) (y2 : List ((ByteArray) × ((ByteArray) × (Unit)))) (y3 : Int) (y4 : Int) (y5 : Bool)
def impl_GoodLabels.lb : impl_GoodLabels.Pt → Nat
  | .p0 _ => 0
  | .p15 _ _ _ _ => 15
  | .p26 _ _ _ _ _ => 26
def impl_GoodLabels.st : impl_GoodLabels.Pt → St
  | .p0 a0 => enter [.v (.sl false (.pair .str (.pair .str .unit))) a0] 0
  | .p15 y1 y2 y3 y4 => ⟨[(0, .im (.sl false (.pair .str (.pair .str .unit))) y1), (8, .im (.sl false (.pair .str (.pair .str .unit))) y2), (9, .im (.int .i64) y3), (10, .im (.int .i64) y4)], [], 0⟩
  | .p26 y1 y2 y3 y4 y5 => ⟨[(0, .im (.sl false (.pair .str (.pair .str .unit))) y1), (8, .im (.sl false (.pair .str (.pair .str .unit))) y2), (9, .im (.int .i64) y3), (10, .im (.int .i64) y4), (39, .im .bool y5)], [], 0⟩
def impl_GoodLabels.step (n : Nat) (K : impl_GoodLabels.Pt → Option (Tup [.bool])) : impl_GoodLabels.Pt → Option (Tup [.bool])
  | .p0 a0 => cond (decide ((20 : Int) < ((List.length a0) : Int))) (some false) (K (.p15 a0 a0 ((List.length a0) : Int) (0 : Int)))
  | .p15 y1 y2 y3 y4 => cond (decide (y4 < y3)) (cond (inB y4 (List.length y2)) ((impl_isName n (List.getD y2 (Int.toNat y4) default).1).bind fun r7 => cond (!r7) (K (.p26 y1 y2 y3 y4 true)) ((impl_isValue n (List.getD y2 (Int.toNat y4) default).2.1).bind fun r8 => cond (!r8) (K (.p26 y1 y2 y3 y4 true)) (cond (decide ((0 : Int) < y4)) (cond (inB (IntKind.wrap .i64 (y4 - (1 : Int))) (List.length y1)) (K (.p26 y1 y2 y3 y4 (!(slt (List.getD y1 (Int.toNat (IntKind.wrap .i64 (y4 - (1 : Int)))) default).1 (List.getD y2 (Int.toNat y4) default).1)))) (none)) (K (.p26 y1 y2 y3 y4 false))))) (none)) (some true)
  | .p26 y1 y2 y3 y4 y5 => cond y5 (some false) (K (.p15 y1 y2 y3 (IntKind.wrap .i64 (y4 + (1 : Int)))))
def impl_GoodLabels (n : Nat) (a0 : List ((ByteArray) × ((ByteArray) × (Unit)))) : Option (Tup [.bool]) := goRec impl_GoodLabels.step n (.p0 a0)
def impl_GoodLabels.spec : Ctr := ⟨68, [.v (.sl false (.pair .str (.pair .str .unit)))], [.bool], [], fun n x => impl_GoodLabels n x.1⟩
theorem impl_GoodLabels.seg_eq (n : Nat) (goto : Nat → St → Option (Tup [.bool])) (y : impl_GoodLabels.Pt) : seg ⟨ty, gl, impl_GoodLabels.md, calOf impl_GoodLabels.T n⟩ impl_GoodLabels.F.np impl_GoodLabels.F.ks goto (impl_GoodLabels.F.fin ⟨ty, gl, impl_GoodLabels.md, calOf impl_GoodLabels.T 0⟩ [.bool]) impl_GoodLabels.F.c (impl_GoodLabels.lb y) (impl_GoodLabels.st y) = impl_GoodLabels.step n (fun z => goto (impl_GoodLabels.lb z) (impl_GoodLabels.st z)) y := by
  cases y <;> kernel_rfl
theorem impl_GoodLabels.text : Text Go.Proofs.Tryz.prog impl_GoodLabels.F impl_GoodLabels.spec := ⟨⟨Go.Proofs.Tryz.f68, by kernel_rfl, by kernel_rfl, by decide +kernel, by kernel_rfl, by kernel_rfl, of_decide_eq_true (by kernel_rfl)⟩, fun _ => rfl, fun _ => rfl, rfl⟩
theorem impl_GoodLabels.ok : CtrOK Go.Proofs.Tryz.prog gl impl_GoodLabels.spec :=
  ctr_ok (T := impl_GoodLabels.T) (F := impl_GoodLabels.F) (lb := impl_GoodLabels.lb) (st := impl_GoodLabels.st) (step := impl_GoodLabels.step) (md := impl_GoodLabels.md) tabs impl_GoodLabels.text impl_GoodLabels.seg_eq (fun n x => ⟨.p0 x.1, rfl, rfl, rfl⟩) (consC impl_isName.ok (consC impl_isValue.ok (nilC)))

end Go.RF
