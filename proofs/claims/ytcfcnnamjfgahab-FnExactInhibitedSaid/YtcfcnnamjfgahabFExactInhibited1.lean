/- The functions that the law reaches, each as a Lean function and with its contract, part 1. -/
import Derived.Test.YtcfcnnamjfgahabV1
import Derived.Test.YtcfcnnamjfgahabV2
import Derived.Test.YtcfcnnamjfgahabV3
import Derived.Lib.Bytealg
import Derived.Shelf.Lays
import Derived.Shelf.Small.Strs
import Derived.Test.YtcfcnnamjfgahabProg
open Go Go.VM
namespace Go.IH
set_option maxRecDepth 100000
set_option linter.unusedVariables false
set_option linter.unusedSimpArgs false
def ty : List (Nat × U) := [(0, .oth), (1, .oth), (2, (.int .i64)), (3, (.int .i64)), (4, .bool), (5, (.int .u8)), (6, (.int .u8)), (7, (.pair (.int .i64) (.pair (.int .i64) (.pair .bool (.pair (.int .u8) .unit))))), (8, (.pair (.int .i64) (.pair (.int .i64) (.pair .bool (.pair (.int .u8) .unit))))), (9, .str), (10, .str), (11, .str), (12, (.int .u64)), (13, (.pair .str (.pair (.int .u64) .unit))), (14, (.pair .str (.pair (.int .u64) .unit))), (15, .oth), (16, .oth), (17, .oth), (18, (.pair .oth .unit)), (19, (.pair .oth .unit)), (20, .oth), (21, (.int .i32)), (22, (.sl false (.pair .str (.pair (.sl false (.pair .str (.pair (.int .i64) (.pair .str .unit)))) (.pair (.int .i64) (.pair (.int .i64) .unit)))))), (23, (.sl false (.pair .str (.pair .str .unit)))), (24, .oth), (25, .oth), (26, (.sl false .str)), (27, .oth), (28, (.sl false (.pair .str (.pair (.sl false (.pair .str (.pair (.int .i64) (.pair .str .unit)))) (.pair (.int .i64) (.pair (.int .i64) .unit)))))), (29, .oth), (30, (.sl false (.pair .str (.pair .str .unit)))), (31, .oth), (32, .oth), (33, .oth), (34, .oth), (35, .oth), (36, .oth), (37, .oth), (38, .oth), (39, (.sl false (.pair (.sl false (.pair .str (.pair (.int .i64) (.pair .str .unit)))) (.pair (.sl false (.pair .str (.pair (.int .i64) (.pair .str .unit)))) (.pair (.sl false .str) .unit))))), (40, (.sl false (.sl false (.pair .str (.pair .str .unit))))), (41, .oth), (42, .oth), (43, .oth), (44, (.sl false (.pair (.sl false (.pair .str (.pair (.int .i64) (.pair .str .unit)))) (.pair (.sl false (.pair .str (.pair (.int .i64) (.pair .str .unit)))) (.pair (.sl false .str) .unit))))), (45, .oth), (46, (.sl false (.sl false (.pair .str (.pair .str .unit))))), (47, .oth), (48, .oth), (49, .oth), (50, .oth), (51, (.sl false (.pair .str (.pair (.sl false (.pair .str (.pair (.int .i64) (.pair .str .unit)))) (.pair (.sl false .str) (.pair (.int .i64) (.pair (.int .i64) (.pair (.int .i64) (.pair (.sl false (.int .i64)) (.pair .bool (.pair (.int .i64) .unit))))))))))), (52, .oth), (53, .oth), (54, (.sl false (.pair .str (.pair (.sl false (.pair .str (.pair (.int .i64) (.pair .str .unit)))) (.pair (.sl false .str) (.pair (.int .i64) (.pair (.int .i64) (.pair (.int .i64) (.pair (.sl false (.int .i64)) (.pair .bool (.pair (.int .i64) .unit))))))))))), (55, .oth), (56, .oth), (57, .oth), (58, .oth), (59, (.sl false (.int .u8))), (60, (.sl false (.pair (.sl false (.pair .str (.pair .str .unit))) (.pair (.sl false (.pair (.int .i64) (.pair (.int .i64) .unit))) .unit)))), (61, (.pair (.int .i64) (.pair (.int .i64) (.pair (.int .i64) (.pair (.sl false (.pair (.sl false (.pair .str (.pair .str .unit))) (.pair (.sl false (.pair (.int .i64) (.pair (.int .i64) .unit))) .unit))) .unit))))), (62, (.pair (.int .i64) (.pair (.int .i64) (.pair (.int .i64) (.pair (.sl false (.pair (.sl false (.pair .str (.pair .str .unit))) (.pair (.sl false (.pair (.int .i64) (.pair (.int .i64) .unit))) .unit))) .unit))))), (63, (.sl false (.pair (.sl false (.pair .str (.pair .str .unit))) (.pair (.int .i64) (.pair (.int .i64) .unit))))), (64, .oth), (65, .oth), (66, (.sl false (.int .i64))), (67, .oth), (68, .oth), (69, .oth), (70, .oth), (71, .oth), (72, .oth), (73, (.pair (.sl false (.pair .str (.pair .str .unit))) (.pair (.int .i64) (.pair (.int .i64) .unit)))), (74, (.pair (.sl false (.pair .str (.pair .str .unit))) (.pair (.int .i64) (.pair (.int .i64) .unit)))), (75, .oth), (76, .oth), (77, .oth), (78, .oth), (79, .oth), (80, (.sl false (.pair .str (.pair (.int .i64) (.pair .str .unit))))), (81, (.pair .str (.pair (.sl false (.pair .str (.pair (.int .i64) (.pair .str .unit)))) (.pair (.int .i64) (.pair (.int .i64) .unit))))), (82, (.pair .str (.pair (.sl false (.pair .str (.pair (.int .i64) (.pair .str .unit)))) (.pair (.int .i64) (.pair (.int .i64) .unit))))), (83, .oth), (84, (.pair .str (.pair .str .unit))), (85, (.pair .str (.pair .str .unit))), (86, .oth), (87, .oth), (88, .oth), (89, (.sl false (.pair .str (.pair (.int .i64) (.pair .str .unit))))), (90, (.pair .str (.pair (.sl false (.pair .str (.pair (.int .i64) (.pair .str .unit)))) (.pair (.int .i64) (.pair (.int .i64) .unit))))), (91, (.pair .str (.pair (.sl false (.pair .str (.pair (.int .i64) (.pair .str .unit)))) (.pair (.int .i64) (.pair (.int .i64) .unit))))), (92, .oth), (93, (.pair .str (.pair .str .unit))), (94, .oth), (95, .oth), (96, .oth), (97, .oth), (98, .oth), (99, .oth), (100, (.pair (.sl false (.pair .str (.pair (.int .i64) (.pair .str .unit)))) (.pair (.sl false (.pair .str (.pair (.int .i64) (.pair .str .unit)))) (.pair (.sl false .str) .unit)))), (101, (.pair (.sl false (.pair .str (.pair (.int .i64) (.pair .str .unit)))) (.pair (.sl false (.pair .str (.pair (.int .i64) (.pair .str .unit)))) (.pair (.sl false .str) .unit)))), (102, .oth), (103, (.pair (.sl false (.pair .str (.pair (.int .i64) (.pair .str .unit)))) (.pair (.sl false (.pair .str (.pair (.int .i64) (.pair .str .unit)))) (.pair (.sl false .str) .unit)))), (104, (.pair (.sl false (.pair .str (.pair (.int .i64) (.pair .str .unit)))) (.pair (.sl false (.pair .str (.pair (.int .i64) (.pair .str .unit)))) (.pair (.sl false .str) .unit)))), (105, .oth), (106, .oth), (107, .oth), (108, .oth), (109, (.pair .str (.pair (.sl false (.pair .str (.pair (.int .i64) (.pair .str .unit)))) (.pair (.sl false .str) (.pair (.int .i64) (.pair (.int .i64) (.pair (.int .i64) (.pair (.sl false (.int .i64)) (.pair .bool (.pair (.int .i64) .unit)))))))))), (110, (.pair .str (.pair (.sl false (.pair .str (.pair (.int .i64) (.pair .str .unit)))) (.pair (.sl false .str) (.pair (.int .i64) (.pair (.int .i64) (.pair (.int .i64) (.pair (.sl false (.int .i64)) (.pair .bool (.pair (.int .i64) .unit)))))))))), (111, .oth), (112, .oth), (113, (.pair .str (.pair (.sl false (.pair .str (.pair (.int .i64) (.pair .str .unit)))) (.pair (.sl false .str) (.pair (.int .i64) (.pair (.int .i64) (.pair (.int .i64) (.pair (.sl false (.int .i64)) (.pair .bool (.pair (.int .i64) .unit)))))))))), (114, (.pair .str (.pair (.sl false (.pair .str (.pair (.int .i64) (.pair .str .unit)))) (.pair (.sl false .str) (.pair (.int .i64) (.pair (.int .i64) (.pair (.int .i64) (.pair (.sl false (.int .i64)) (.pair .bool (.pair (.int .i64) .unit)))))))))), (115, .oth), (116, .oth), (117, .oth), (118, .oth), (119, .oth), (120, (.int .u64)), (121, (.pair (.sl false (.int .u8)) (.pair (.int .i64) (.pair (.int .u64) .unit)))), (122, (.pair (.sl false (.int .u8)) (.pair (.int .i64) (.pair (.int .u64) .unit)))), (123, .oth), (124, .oth), (125, .oth), (126, .oth), (127, (.sl false (.pair (.int .i64) (.pair (.int .i64) .unit)))), (128, .oth), (129, (.pair (.sl false (.pair .str (.pair .str .unit))) (.pair (.sl false (.pair (.int .i64) (.pair (.int .i64) .unit))) .unit))), (130, (.pair (.sl false (.pair .str (.pair .str .unit))) (.pair (.sl false (.pair (.int .i64) (.pair (.int .i64) .unit))) .unit))), (131, .oth), (132, .oth), (133, .oth), (134, .oth), (135, .oth), (136, .oth), (137, .oth), (138, .oth), (139, (.pair (.int .i64) (.pair (.int .i64) .unit))), (140, (.pair (.int .i64) (.pair (.int .i64) .unit))), (141, .oth), (142, .oth), (143, .oth), (144, .oth), (145, .oth), (146, .oth), (147, .oth), (148, .oth), (149, .oth), (150, (.pair .str (.pair (.int .i64) (.pair .str .unit)))), (151, (.pair .str (.pair (.int .i64) (.pair .str .unit)))), (152, .oth), (153, .oth), (154, .oth), (155, .oth), (156, .oth), (157, .oth), (158, .oth), (159, .oth), (160, .oth), (161, .oth), (162, .oth), (163, .oth), (164, .oth), (165, .oth), (166, .oth), (167, .oth), (168, .oth), (169, .oth), (170, .oth), (171, .oth), (172, .oth), (173, .oth), (174, .oth), (175, .oth), (176, .oth), (177, .oth), (178, .oth), (179, .oth), (180, .oth), (181, .oth), (182, (.int .u64)), (183, .oth), (184, (.pair .str (.pair (.int .i64) (.pair .str .unit)))), (185, .oth), (186, .oth), (187, .oth), (188, .oth), (189, .oth), (190, .oth), (191, .oth), (192, .oth), (193, .oth), (194, .oth), (195, .oth), (196, .oth), (197, .oth), (198, .oth), (199, .oth), (200, .oth), (201, .oth), (202, .oth), (203, .oth), (204, .oth), (205, .oth), (206, (.sl false (.sl false (.int .i64)))), (207, .oth), (208, .oth), (209, .oth), (210, .oth), (211, .oth), (212, (.sl false .bool)), (213, .oth), (214, (.sl false (.sl false (.pair (.int .u8) (.pair .bool (.pair .bool .unit)))))), (215, .oth), (216, .oth), (217, .oth), (218, .oth), (219, .oth), (220, .oth), (221, (.pair (.int .u8) (.pair .bool (.pair .bool .unit)))), (222, (.pair (.int .u8) (.pair .bool (.pair .bool .unit)))), (223, (.sl false (.pair (.int .u8) (.pair .bool (.pair .bool .unit))))), (224, .oth), (225, .oth), (226, .oth), (227, (.sl false (.sl false .bool))), (228, (.pair .oth (.pair .oth (.pair .oth (.pair .str .unit))))), (229, (.pair .oth (.pair .oth (.pair .oth (.pair .str .unit))))), (230, (.ar 0 .oth)), (233, (.int .u32)), (234, (.int .u8)), (235, (.int .u8)), (236, .oth), (237, .oth), (238, (.int .i32)), (239, (.int .i32)), (240, (.pair (.int .u64) (.pair (.int .u64) (.pair (.int .u32) (.pair (.int .u8) (.pair (.int .u8) (.pair (.int .u8) (.pair (.int .u8) (.pair .oth (.pair .oth (.pair (.int .i32) (.pair (.int .i32) .unit)))))))))))), (241, (.pair (.int .u64) (.pair (.int .u64) (.pair (.int .u32) (.pair (.int .u8) (.pair (.int .u8) (.pair (.int .u8) (.pair (.int .u8) (.pair .oth (.pair .oth (.pair (.int .i32) (.pair (.int .i32) .unit)))))))))))), (242, .oth)]
def gl : List (Nat × TV) := []
theorem tabs : Tabs Go.Proofs.Try.prog ty gl := tabs_of (by kernel_rfl) (by kernel_rfl)
/-! loop.example/g00039/laws.szMatcher -/
def laws_szMatcher.T : List Ctr := []
def laws_szMatcher.md : List (Nat × List Md) := []
noncomputable def laws_szMatcher.F : Fun := ⟨(Go.Proofs.Try.f153.body).getD .skip, [.v (.pair .str (.pair (.int .i64) (.pair .str .unit))), .v (.int .i64)], [(.tmp 4, (.int .i64))], [], 0, []⟩
inductive laws_szMatcher.Pt where
  | p0 (a0 : (ByteArray) × ((Int) × ((ByteArray) × (Unit)))) (a1 : Int)
def laws_szMatcher.lb : laws_szMatcher.Pt → Nat
  | .p0 _ _ => 0
def laws_szMatcher.st : laws_szMatcher.Pt → St
  | .p0 a0 a1 => enter [.v (.pair .str (.pair (.int .i64) (.pair .str .unit))) a0, .v (.int .i64) a1] 0
def laws_szMatcher.step (n : Nat) (K : laws_szMatcher.Pt → Option (Tup [(.int .i64)])) : laws_szMatcher.Pt → Option (Tup [(.int .i64)])
  | .p0 a0 a1 => cond (decide ((IntKind.wrap .i64 (a1 - ((ByteArray.size a0.1) : Int))) < (0 : Int))) (some (-(1 : Int))) (cond (decide ((IntKind.wrap .i64 ((IntKind.wrap .i64 (a1 - ((ByteArray.size a0.1) : Int))) - ((ByteArray.size a0.2.2.1) : Int))) < (0 : Int))) (some (-(1 : Int))) (some (IntKind.wrap .i64 ((IntKind.wrap .i64 (a1 - ((ByteArray.size a0.1) : Int))) - ((ByteArray.size a0.2.2.1) : Int)))))
def laws_szMatcher (n : Nat) (a0 : (ByteArray) × ((Int) × ((ByteArray) × (Unit)))) (a1 : Int) : Option (Tup [(.int .i64)]) := goRec laws_szMatcher.step n (.p0 a0 a1)
def laws_szMatcher.spec : Ctr := ⟨153, [.v (.pair .str (.pair (.int .i64) (.pair .str .unit))), .v (.int .i64)], [(.int .i64)], [], fun n x => laws_szMatcher n x.1 x.2.1⟩
theorem laws_szMatcher.seg_eq (n : Nat) (goto : Nat → St → Option (Tup [(.int .i64)])) (y : laws_szMatcher.Pt) : seg ⟨ty, gl, laws_szMatcher.md, calOf laws_szMatcher.T n⟩ laws_szMatcher.F.np laws_szMatcher.F.ks goto (laws_szMatcher.F.fin ⟨ty, gl, laws_szMatcher.md, calOf laws_szMatcher.T 0⟩ [(.int .i64)]) laws_szMatcher.F.c (laws_szMatcher.lb y) (laws_szMatcher.st y) = laws_szMatcher.step n (fun z => goto (laws_szMatcher.lb z) (laws_szMatcher.st z)) y := by
  cases y <;> kernel_rfl
theorem laws_szMatcher.text : Text Go.Proofs.Try.prog laws_szMatcher.F laws_szMatcher.spec := ⟨⟨Go.Proofs.Try.f153, by kernel_rfl, by kernel_rfl, by decide +kernel, by kernel_rfl, by kernel_rfl, of_decide_eq_true (by kernel_rfl)⟩, fun _ => rfl, fun _ => rfl, rfl⟩
theorem laws_szMatcher.ok : CtrOK Go.Proofs.Try.prog gl laws_szMatcher.spec :=
  ctr_ok (T := laws_szMatcher.T) (F := laws_szMatcher.F) (lb := laws_szMatcher.lb) (st := laws_szMatcher.st) (step := laws_szMatcher.step) (md := laws_szMatcher.md) tabs laws_szMatcher.text laws_szMatcher.seg_eq (fun n x => ⟨.p0 x.1 x.2.1, rfl, rfl, rfl⟩) (nilC)

/-! loop.example/g00039/laws.szMatcherS -/
def laws_szMatcherS.T : List Ctr := [laws_szMatcher.spec]
def laws_szMatcherS.md : List (Nat × List Md) := []
noncomputable def laws_szMatcherS.F : Fun := ⟨(Go.Proofs.Try.f95.body).getD .skip, [.v (.sl false (.pair .str (.pair (.int .i64) (.pair .str .unit)))), .v (.int .i64)], [(.tmp 4, (.int .i64))], [], 0, [(17, ⟨[0, 1, 5], [], []⟩)]⟩
inductive laws_szMatcherS.Pt where
  | p0 (a0 : List ((ByteArray) × ((Int) × ((ByteArray) × (Unit))))) (a1 : Int)
  | p17 (y1 : List ((ByteArray) × ((Int) × ((ByteArray) × (Unit))))) (y2 : Int) (y3 : Int)
def laws_szMatcherS.lb : laws_szMatcherS.Pt → Nat
  | .p0 _ _ => 0
  | .p17 _ _ _ => 17
def laws_szMatcherS.st : laws_szMatcherS.Pt → St
  | .p0 a0 a1 => enter [.v (.sl false (.pair .str (.pair (.int .i64) (.pair .str .unit)))) a0, .v (.int .i64) a1] 0
  | .p17 y1 y2 y3 => ⟨[(0, .im (.sl false (.pair .str (.pair (.int .i64) (.pair .str .unit)))) y1), (1, .im (.int .i64) y2), (5, .im (.int .i64) y3)], [], 0⟩
def laws_szMatcherS.step (n : Nat) (K : laws_szMatcherS.Pt → Option (Tup [(.int .i64)])) : laws_szMatcherS.Pt → Option (Tup [(.int .i64)])
  | .p0 a0 a1 => cond (decide ((IntKind.wrap .i64 (a1 - ((List.length a0) : Int))) < (0 : Int))) (some (-(1 : Int))) (K (.p17 a0 (IntKind.wrap .i64 (a1 - ((List.length a0) : Int))) (0 : Int)))
  | .p17 y1 y2 y3 => cond (decide (y3 < ((List.length y1) : Int))) (cond (inB y3 (List.length y1)) ((laws_szMatcher n (List.getD y1 (Int.toNat y3) default) y2).bind fun (r6 : Int) => cond (decide (r6 < (0 : Int))) (some (-(1 : Int))) (K (.p17 y1 r6 (IntKind.wrap .i64 (y3 + (1 : Int)))))) (none)) (some y2)
def laws_szMatcherS (n : Nat) (a0 : List ((ByteArray) × ((Int) × ((ByteArray) × (Unit))))) (a1 : Int) : Option (Tup [(.int .i64)]) := goRec laws_szMatcherS.step n (.p0 a0 a1)
def laws_szMatcherS.spec : Ctr := ⟨95, [.v (.sl false (.pair .str (.pair (.int .i64) (.pair .str .unit)))), .v (.int .i64)], [(.int .i64)], [], fun n x => laws_szMatcherS n x.1 x.2.1⟩
theorem laws_szMatcherS.seg_eq (n : Nat) (goto : Nat → St → Option (Tup [(.int .i64)])) (y : laws_szMatcherS.Pt) : seg ⟨ty, gl, laws_szMatcherS.md, calOf laws_szMatcherS.T n⟩ laws_szMatcherS.F.np laws_szMatcherS.F.ks goto (laws_szMatcherS.F.fin ⟨ty, gl, laws_szMatcherS.md, calOf laws_szMatcherS.T 0⟩ [(.int .i64)]) laws_szMatcherS.F.c (laws_szMatcherS.lb y) (laws_szMatcherS.st y) = laws_szMatcherS.step n (fun z => goto (laws_szMatcherS.lb z) (laws_szMatcherS.st z)) y := by
  cases y <;> kernel_rfl
theorem laws_szMatcherS.text : Text Go.Proofs.Try.prog laws_szMatcherS.F laws_szMatcherS.spec := ⟨⟨Go.Proofs.Try.f95, by kernel_rfl, by kernel_rfl, by decide +kernel, by kernel_rfl, by kernel_rfl, of_decide_eq_true (by kernel_rfl)⟩, fun _ => rfl, fun _ => rfl, rfl⟩
theorem laws_szMatcherS.ok : CtrOK Go.Proofs.Try.prog gl laws_szMatcherS.spec :=
  ctr_ok (T := laws_szMatcherS.T) (F := laws_szMatcherS.F) (lb := laws_szMatcherS.lb) (st := laws_szMatcherS.st) (step := laws_szMatcherS.step) (md := laws_szMatcherS.md) tabs laws_szMatcherS.text laws_szMatcherS.seg_eq (fun n x => ⟨.p0 x.1 x.2.1, rfl, rfl, rfl⟩) (consC laws_szMatcher.ok (nilC))

/-! loop.example/g00039/laws.szStringS -/
def laws_szStringS.T : List Ctr := []
def laws_szStringS.md : List (Nat × List Md) := []
noncomputable def laws_szStringS.F : Fun := ⟨(Go.Proofs.Try.f107.body).getD .skip, [.v (.sl false .str), .v (.int .i64)], [(.tmp 4, (.int .i64))], [], 0, [(17, ⟨[0, 1, 5], [], []⟩)]⟩
inductive laws_szStringS.Pt where
  | p0 (a0 : List (ByteArray)) (a1 : Int)
  | p17 (y1 : List (ByteArray)) (y2 : Int) (y3 : Int)
def laws_szStringS.lb : laws_szStringS.Pt → Nat
  | .p0 _ _ => 0
  | .p17 _ _ _ => 17
def laws_szStringS.st : laws_szStringS.Pt → St
  | .p0 a0 a1 => enter [.v (.sl false .str) a0, .v (.int .i64) a1] 0
  | .p17 y1 y2 y3 => ⟨[(0, .im (.sl false .str) y1), (1, .im (.int .i64) y2), (5, .im (.int .i64) y3)], [], 0⟩
def laws_szStringS.step (n : Nat) (K : laws_szStringS.Pt → Option (Tup [(.int .i64)])) : laws_szStringS.Pt → Option (Tup [(.int .i64)])
  | .p0 a0 a1 => cond (decide ((IntKind.wrap .i64 (a1 - ((List.length a0) : Int))) < (0 : Int))) (some (-(1 : Int))) (K (.p17 a0 (IntKind.wrap .i64 (a1 - ((List.length a0) : Int))) (0 : Int)))
  | .p17 y1 y2 y3 => cond (decide (y3 < ((List.length y1) : Int))) (cond (inB y3 (List.length y1)) (cond (decide ((IntKind.wrap .i64 (y2 - ((ByteArray.size (List.getD y1 (Int.toNat y3) default)) : Int))) < (0 : Int))) (some (-(1 : Int))) (K (.p17 y1 (IntKind.wrap .i64 (y2 - ((ByteArray.size (List.getD y1 (Int.toNat y3) default)) : Int))) (IntKind.wrap .i64 (y3 + (1 : Int)))))) (none)) (some y2)
def laws_szStringS (n : Nat) (a0 : List (ByteArray)) (a1 : Int) : Option (Tup [(.int .i64)]) := goRec laws_szStringS.step n (.p0 a0 a1)
def laws_szStringS.spec : Ctr := ⟨107, [.v (.sl false .str), .v (.int .i64)], [(.int .i64)], [], fun n x => laws_szStringS n x.1 x.2.1⟩
theorem laws_szStringS.seg_eq (n : Nat) (goto : Nat → St → Option (Tup [(.int .i64)])) (y : laws_szStringS.Pt) : seg ⟨ty, gl, laws_szStringS.md, calOf laws_szStringS.T n⟩ laws_szStringS.F.np laws_szStringS.F.ks goto (laws_szStringS.F.fin ⟨ty, gl, laws_szStringS.md, calOf laws_szStringS.T 0⟩ [(.int .i64)]) laws_szStringS.F.c (laws_szStringS.lb y) (laws_szStringS.st y) = laws_szStringS.step n (fun z => goto (laws_szStringS.lb z) (laws_szStringS.st z)) y := by
  cases y <;> kernel_rfl
theorem laws_szStringS.text : Text Go.Proofs.Try.prog laws_szStringS.F laws_szStringS.spec := ⟨⟨Go.Proofs.Try.f107, by kernel_rfl, by kernel_rfl, by decide +kernel, by kernel_rfl, by kernel_rfl, of_decide_eq_true (by kernel_rfl)⟩, fun _ => rfl, fun _ => rfl, rfl⟩
theorem laws_szStringS.ok : CtrOK Go.Proofs.Try.prog gl laws_szStringS.spec :=
  ctr_ok (T := laws_szStringS.T) (F := laws_szStringS.F) (lb := laws_szStringS.lb) (st := laws_szStringS.st) (step := laws_szStringS.step) (md := laws_szStringS.md) tabs laws_szStringS.text laws_szStringS.seg_eq (fun n x => ⟨.p0 x.1 x.2.1, rfl, rfl, rfl⟩) (nilC)

/-! loop.example/g00039/laws.szInhibit -/
def laws_szInhibit.T : List Ctr := [laws_szMatcherS.spec, laws_szStringS.spec]
def laws_szInhibit.md : List (Nat × List Md) := []
noncomputable def laws_szInhibit.F : Fun := ⟨(Go.Proofs.Try.f60.body).getD .skip, [.v (.pair (.sl false (.pair .str (.pair (.int .i64) (.pair .str .unit)))) (.pair (.sl false (.pair .str (.pair (.int .i64) (.pair .str .unit)))) (.pair (.sl false .str) .unit))), .v (.int .i64)], [(.tmp 4, (.int .i64))], [], 0, []⟩
inductive laws_szInhibit.Pt where
  | p0 (a0 : (List ((ByteArray) × ((Int) × ((ByteArray) × (Unit))))) × ((List ((ByteArray) × ((Int) × ((ByteArray) × (Unit))))) × ((List (ByteArray)) × (Unit)))) (a1 : Int)
def laws_szInhibit.lb : laws_szInhibit.Pt → Nat
  | .p0 _ _ => 0
def laws_szInhibit.st : laws_szInhibit.Pt → St
  | .p0 a0 a1 => enter [.v (.pair (.sl false (.pair .str (.pair (.int .i64) (.pair .str .unit)))) (.pair (.sl false (.pair .str (.pair (.int .i64) (.pair .str .unit)))) (.pair (.sl false .str) .unit))) a0, .v (.int .i64) a1] 0
def laws_szInhibit.step (n : Nat) (K : laws_szInhibit.Pt → Option (Tup [(.int .i64)])) : laws_szInhibit.Pt → Option (Tup [(.int .i64)])
  | .p0 a0 a1 => (laws_szMatcherS n a0.1 a1).bind fun (r5 : Int) => cond (decide (r5 < (0 : Int))) (some (-(1 : Int))) ((laws_szMatcherS n a0.2.1 r5).bind fun (r6 : Int) => cond (decide (r6 < (0 : Int))) (some (-(1 : Int))) ((laws_szStringS n a0.2.2.1 r6).bind fun (r7 : Int) => cond (decide (r7 < (0 : Int))) (some (-(1 : Int))) (some r7)))
def laws_szInhibit (n : Nat) (a0 : (List ((ByteArray) × ((Int) × ((ByteArray) × (Unit))))) × ((List ((ByteArray) × ((Int) × ((ByteArray) × (Unit))))) × ((List (ByteArray)) × (Unit)))) (a1 : Int) : Option (Tup [(.int .i64)]) := goRec laws_szInhibit.step n (.p0 a0 a1)
def laws_szInhibit.spec : Ctr := ⟨60, [.v (.pair (.sl false (.pair .str (.pair (.int .i64) (.pair .str .unit)))) (.pair (.sl false (.pair .str (.pair (.int .i64) (.pair .str .unit)))) (.pair (.sl false .str) .unit))), .v (.int .i64)], [(.int .i64)], [], fun n x => laws_szInhibit n x.1 x.2.1⟩
theorem laws_szInhibit.seg_eq (n : Nat) (goto : Nat → St → Option (Tup [(.int .i64)])) (y : laws_szInhibit.Pt) : seg ⟨ty, gl, laws_szInhibit.md, calOf laws_szInhibit.T n⟩ laws_szInhibit.F.np laws_szInhibit.F.ks goto (laws_szInhibit.F.fin ⟨ty, gl, laws_szInhibit.md, calOf laws_szInhibit.T 0⟩ [(.int .i64)]) laws_szInhibit.F.c (laws_szInhibit.lb y) (laws_szInhibit.st y) = laws_szInhibit.step n (fun z => goto (laws_szInhibit.lb z) (laws_szInhibit.st z)) y := by
  cases y <;> kernel_rfl
theorem laws_szInhibit.text : Text Go.Proofs.Try.prog laws_szInhibit.F laws_szInhibit.spec := ⟨⟨Go.Proofs.Try.f60, by kernel_rfl, by kernel_rfl, by decide +kernel, by kernel_rfl, by kernel_rfl, of_decide_eq_true (by kernel_rfl)⟩, fun _ => rfl, fun _ => rfl, rfl⟩
theorem laws_szInhibit.ok : CtrOK Go.Proofs.Try.prog gl laws_szInhibit.spec :=
  ctr_ok (T := laws_szInhibit.T) (F := laws_szInhibit.F) (lb := laws_szInhibit.lb) (st := laws_szInhibit.st) (step := laws_szInhibit.step) (md := laws_szInhibit.md) tabs laws_szInhibit.text laws_szInhibit.seg_eq (fun n x => ⟨.p0 x.1 x.2.1, rfl, rfl, rfl⟩) (consC laws_szMatcherS.ok (consC laws_szStringS.ok (nilC)))

/-! loop.example/g00039/laws.szInhibitS -/
def laws_szInhibitS.T : List Ctr := [laws_szInhibit.spec]
def laws_szInhibitS.md : List (Nat × List Md) := []
noncomputable def laws_szInhibitS.F : Fun := ⟨(Go.Proofs.Try.f20.body).getD .skip, [.v (.sl false (.pair (.sl false (.pair .str (.pair (.int .i64) (.pair .str .unit)))) (.pair (.sl false (.pair .str (.pair (.int .i64) (.pair .str .unit)))) (.pair (.sl false .str) .unit)))), .v (.int .i64)], [(.tmp 4, (.int .i64))], [], 0, [(17, ⟨[0, 1, 5], [], []⟩)]⟩
inductive laws_szInhibitS.Pt where
  | p0 (a0 : List ((List ((ByteArray) × ((Int) × ((ByteArray) × (Unit))))) × ((List ((ByteArray) × ((Int) × ((ByteArray) × (Unit))))) × ((List (ByteArray)) × (Unit))))) (a1 : Int)
  | p17 (y1 : List ((List ((ByteArray) × ((Int) × ((ByteArray) × (Unit))))) × ((List ((ByteArray) × ((Int) × ((ByteArray) × (Unit))))) × ((List (ByteArray)) × (Unit))))) (y2 : Int) (y3 : Int)
def laws_szInhibitS.lb : laws_szInhibitS.Pt → Nat
  | .p0 _ _ => 0
  | .p17 _ _ _ => 17
def laws_szInhibitS.st : laws_szInhibitS.Pt → St
  | .p0 a0 a1 => enter [.v (.sl false (.pair (.sl false (.pair .str (.pair (.int .i64) (.pair .str .unit)))) (.pair (.sl false (.pair .str (.pair (.int .i64) (.pair .str .unit)))) (.pair (.sl false .str) .unit)))) a0, .v (.int .i64) a1] 0
  | .p17 y1 y2 y3 => ⟨[(0, .im (.sl false (.pair (.sl false (.pair .str (.pair (.int .i64) (.pair .str .unit)))) (.pair (.sl false (.pair .str (.pair (.int .i64) (.pair .str .unit)))) (.pair (.sl false .str) .unit)))) y1), (1, .im (.int .i64) y2), (5, .im (.int .i64) y3)], [], 0⟩
def laws_szInhibitS.step (n : Nat) (K : laws_szInhibitS.Pt → Option (Tup [(.int .i64)])) : laws_szInhibitS.Pt → Option (Tup [(.int .i64)])
  | .p0 a0 a1 => cond (decide ((IntKind.wrap .i64 (a1 - ((List.length a0) : Int))) < (0 : Int))) (some (-(1 : Int))) (K (.p17 a0 (IntKind.wrap .i64 (a1 - ((List.length a0) : Int))) (0 : Int)))
  | .p17 y1 y2 y3 => cond (decide (y3 < ((List.length y1) : Int))) (cond (inB y3 (List.length y1)) ((laws_szInhibit n ((List.getD y1 (Int.toNat y3) default).1, ((List.getD y1 (Int.toNat y3) default).2.1, ((List.getD y1 (Int.toNat y3) default).2.2.1, ()))) y2).bind fun (r6 : Int) => cond (decide (r6 < (0 : Int))) (some (-(1 : Int))) (K (.p17 y1 r6 (IntKind.wrap .i64 (y3 + (1 : Int)))))) (none)) (some y2)
def laws_szInhibitS (n : Nat) (a0 : List ((List ((ByteArray) × ((Int) × ((ByteArray) × (Unit))))) × ((List ((ByteArray) × ((Int) × ((ByteArray) × (Unit))))) × ((List (ByteArray)) × (Unit))))) (a1 : Int) : Option (Tup [(.int .i64)]) := goRec laws_szInhibitS.step n (.p0 a0 a1)
def laws_szInhibitS.spec : Ctr := ⟨20, [.v (.sl false (.pair (.sl false (.pair .str (.pair (.int .i64) (.pair .str .unit)))) (.pair (.sl false (.pair .str (.pair (.int .i64) (.pair .str .unit)))) (.pair (.sl false .str) .unit)))), .v (.int .i64)], [(.int .i64)], [], fun n x => laws_szInhibitS n x.1 x.2.1⟩
theorem laws_szInhibitS.seg_eq (n : Nat) (goto : Nat → St → Option (Tup [(.int .i64)])) (y : laws_szInhibitS.Pt) : seg ⟨ty, gl, laws_szInhibitS.md, calOf laws_szInhibitS.T n⟩ laws_szInhibitS.F.np laws_szInhibitS.F.ks goto (laws_szInhibitS.F.fin ⟨ty, gl, laws_szInhibitS.md, calOf laws_szInhibitS.T 0⟩ [(.int .i64)]) laws_szInhibitS.F.c (laws_szInhibitS.lb y) (laws_szInhibitS.st y) = laws_szInhibitS.step n (fun z => goto (laws_szInhibitS.lb z) (laws_szInhibitS.st z)) y := by
  cases y <;> kernel_rfl
theorem laws_szInhibitS.text : Text Go.Proofs.Try.prog laws_szInhibitS.F laws_szInhibitS.spec := ⟨⟨Go.Proofs.Try.f20, by kernel_rfl, by kernel_rfl, by decide +kernel, by kernel_rfl, by kernel_rfl, of_decide_eq_true (by kernel_rfl)⟩, fun _ => rfl, fun _ => rfl, rfl⟩
theorem laws_szInhibitS.ok : CtrOK Go.Proofs.Try.prog gl laws_szInhibitS.spec :=
  ctr_ok (T := laws_szInhibitS.T) (F := laws_szInhibitS.F) (lb := laws_szInhibitS.lb) (st := laws_szInhibitS.st) (step := laws_szInhibitS.step) (md := laws_szInhibitS.md) tabs laws_szInhibitS.text laws_szInhibitS.seg_eq (fun n x => ⟨.p0 x.1 x.2.1, rfl, rfl, rfl⟩) (consC laws_szInhibit.ok (nilC))

/-! loop.example/g00039/laws.szLabel -/
def laws_szLabel.T : List Ctr := []
def laws_szLabel.md : List (Nat × List Md) := []
noncomputable def laws_szLabel.F : Fun := ⟨(Go.Proofs.Try.f45.body).getD .skip, [.v (.pair .str (.pair .str .unit)), .v (.int .i64)], [(.tmp 4, (.int .i64))], [], 0, []⟩
inductive laws_szLabel.Pt where
  | p0 (a0 : (ByteArray) × ((ByteArray) × (Unit))) (a1 : Int)
def laws_szLabel.lb : laws_szLabel.Pt → Nat
  | .p0 _ _ => 0
def laws_szLabel.st : laws_szLabel.Pt → St
  | .p0 a0 a1 => enter [.v (.pair .str (.pair .str .unit)) a0, .v (.int .i64) a1] 0
def laws_szLabel.step (n : Nat) (K : laws_szLabel.Pt → Option (Tup [(.int .i64)])) : laws_szLabel.Pt → Option (Tup [(.int .i64)])
  | .p0 a0 a1 => cond (decide ((IntKind.wrap .i64 (a1 - ((ByteArray.size a0.1) : Int))) < (0 : Int))) (some (-(1 : Int))) (cond (decide ((IntKind.wrap .i64 ((IntKind.wrap .i64 (a1 - ((ByteArray.size a0.1) : Int))) - ((ByteArray.size a0.2.1) : Int))) < (0 : Int))) (some (-(1 : Int))) (some (IntKind.wrap .i64 ((IntKind.wrap .i64 (a1 - ((ByteArray.size a0.1) : Int))) - ((ByteArray.size a0.2.1) : Int)))))
def laws_szLabel (n : Nat) (a0 : (ByteArray) × ((ByteArray) × (Unit))) (a1 : Int) : Option (Tup [(.int .i64)]) := goRec laws_szLabel.step n (.p0 a0 a1)
def laws_szLabel.spec : Ctr := ⟨45, [.v (.pair .str (.pair .str .unit)), .v (.int .i64)], [(.int .i64)], [], fun n x => laws_szLabel n x.1 x.2.1⟩
theorem laws_szLabel.seg_eq (n : Nat) (goto : Nat → St → Option (Tup [(.int .i64)])) (y : laws_szLabel.Pt) : seg ⟨ty, gl, laws_szLabel.md, calOf laws_szLabel.T n⟩ laws_szLabel.F.np laws_szLabel.F.ks goto (laws_szLabel.F.fin ⟨ty, gl, laws_szLabel.md, calOf laws_szLabel.T 0⟩ [(.int .i64)]) laws_szLabel.F.c (laws_szLabel.lb y) (laws_szLabel.st y) = laws_szLabel.step n (fun z => goto (laws_szLabel.lb z) (laws_szLabel.st z)) y := by
  cases y <;> kernel_rfl
theorem laws_szLabel.text : Text Go.Proofs.Try.prog laws_szLabel.F laws_szLabel.spec := ⟨⟨Go.Proofs.Try.f45, by kernel_rfl, by kernel_rfl, by decide +kernel, by kernel_rfl, by kernel_rfl, of_decide_eq_true (by kernel_rfl)⟩, fun _ => rfl, fun _ => rfl, rfl⟩
theorem laws_szLabel.ok : CtrOK Go.Proofs.Try.prog gl laws_szLabel.spec :=
  ctr_ok (T := laws_szLabel.T) (F := laws_szLabel.F) (lb := laws_szLabel.lb) (st := laws_szLabel.st) (step := laws_szLabel.step) (md := laws_szLabel.md) tabs laws_szLabel.text laws_szLabel.seg_eq (fun n x => ⟨.p0 x.1 x.2.1, rfl, rfl, rfl⟩) (nilC)

/-! loop.example/g00039/laws.szLabelS -/
def laws_szLabelS.T : List Ctr := [laws_szLabel.spec]
def laws_szLabelS.md : List (Nat × List Md) := []
noncomputable def laws_szLabelS.F : Fun := ⟨(Go.Proofs.Try.f8.body).getD .skip, [.v (.sl false (.pair .str (.pair .str .unit))), .v (.int .i64)], [(.tmp 4, (.int .i64))], [], 0, [(17, ⟨[0, 1, 5], [], []⟩)]⟩
inductive laws_szLabelS.Pt where
  | p0 (a0 : List ((ByteArray) × ((ByteArray) × (Unit)))) (a1 : Int)
  | p17 (y1 : List ((ByteArray) × ((ByteArray) × (Unit)))) (y2 : Int) (y3 : Int)
def laws_szLabelS.lb : laws_szLabelS.Pt → Nat
  | .p0 _ _ => 0
  | .p17 _ _ _ => 17
def laws_szLabelS.st : laws_szLabelS.Pt → St
  | .p0 a0 a1 => enter [.v (.sl false (.pair .str (.pair .str .unit))) a0, .v (.int .i64) a1] 0
  | .p17 y1 y2 y3 => ⟨[(0, .im (.sl false (.pair .str (.pair .str .unit))) y1), (1, .im (.int .i64) y2), (5, .im (.int .i64) y3)], [], 0⟩
def laws_szLabelS.step (n : Nat) (K : laws_szLabelS.Pt → Option (Tup [(.int .i64)])) : laws_szLabelS.Pt → Option (Tup [(.int .i64)])
  | .p0 a0 a1 => cond (decide ((IntKind.wrap .i64 (a1 - ((List.length a0) : Int))) < (0 : Int))) (some (-(1 : Int))) (K (.p17 a0 (IntKind.wrap .i64 (a1 - ((List.length a0) : Int))) (0 : Int)))
  | .p17 y1 y2 y3 => cond (decide (y3 < ((List.length y1) : Int))) (cond (inB y3 (List.length y1)) ((laws_szLabel n (List.getD y1 (Int.toNat y3) default) y2).bind fun (r6 : Int) => cond (decide (r6 < (0 : Int))) (some (-(1 : Int))) (K (.p17 y1 r6 (IntKind.wrap .i64 (y3 + (1 : Int)))))) (none)) (some y2)
def laws_szLabelS (n : Nat) (a0 : List ((ByteArray) × ((ByteArray) × (Unit)))) (a1 : Int) : Option (Tup [(.int .i64)]) := goRec laws_szLabelS.step n (.p0 a0 a1)
def laws_szLabelS.spec : Ctr := ⟨8, [.v (.sl false (.pair .str (.pair .str .unit))), .v (.int .i64)], [(.int .i64)], [], fun n x => laws_szLabelS n x.1 x.2.1⟩
theorem laws_szLabelS.seg_eq (n : Nat) (goto : Nat → St → Option (Tup [(.int .i64)])) (y : laws_szLabelS.Pt) : seg ⟨ty, gl, laws_szLabelS.md, calOf laws_szLabelS.T n⟩ laws_szLabelS.F.np laws_szLabelS.F.ks goto (laws_szLabelS.F.fin ⟨ty, gl, laws_szLabelS.md, calOf laws_szLabelS.T 0⟩ [(.int .i64)]) laws_szLabelS.F.c (laws_szLabelS.lb y) (laws_szLabelS.st y) = laws_szLabelS.step n (fun z => goto (laws_szLabelS.lb z) (laws_szLabelS.st z)) y := by
  cases y <;> kernel_rfl
theorem laws_szLabelS.text : Text Go.Proofs.Try.prog laws_szLabelS.F laws_szLabelS.spec := ⟨⟨Go.Proofs.Try.f8, by kernel_rfl, by kernel_rfl, by decide +kernel, by kernel_rfl, by kernel_rfl, of_decide_eq_true (by kernel_rfl)⟩, fun _ => rfl, fun _ => rfl, rfl⟩
theorem laws_szLabelS.ok : CtrOK Go.Proofs.Try.prog gl laws_szLabelS.spec :=
  ctr_ok (T := laws_szLabelS.T) (F := laws_szLabelS.F) (lb := laws_szLabelS.lb) (st := laws_szLabelS.st) (step := laws_szLabelS.step) (md := laws_szLabelS.md) tabs laws_szLabelS.text laws_szLabelS.seg_eq (fun n x => ⟨.p0 x.1 x.2.1, rfl, rfl, rfl⟩) (consC laws_szLabel.ok (nilC))

/-! loop.example/g00039/laws.szLabelSS -/
def laws_szLabelSS.T : List Ctr := [laws_szLabelS.spec]
def laws_szLabelSS.md : List (Nat × List Md) := []
noncomputable def laws_szLabelSS.F : Fun := ⟨(Go.Proofs.Try.f21.body).getD .skip, [.v (.sl false (.sl false (.pair .str (.pair .str .unit)))), .v (.int .i64)], [(.tmp 4, (.int .i64))], [], 0, [(17, ⟨[0, 1, 5], [], []⟩)]⟩
inductive laws_szLabelSS.Pt where
  | p0 (a0 : List (List ((ByteArray) × ((ByteArray) × (Unit))))) (a1 : Int)
  | p17 (y1 : List (List ((ByteArray) × ((ByteArray) × (Unit))))) (y2 : Int) (y3 : Int)
def laws_szLabelSS.lb : laws_szLabelSS.Pt → Nat
  | .p0 _ _ => 0
  | .p17 _ _ _ => 17
def laws_szLabelSS.st : laws_szLabelSS.Pt → St
  | .p0 a0 a1 => enter [.v (.sl false (.sl false (.pair .str (.pair .str .unit)))) a0, .v (.int .i64) a1] 0
  | .p17 y1 y2 y3 => ⟨[(0, .im (.sl false (.sl false (.pair .str (.pair .str .unit)))) y1), (1, .im (.int .i64) y2), (5, .im (.int .i64) y3)], [], 0⟩
def laws_szLabelSS.step (n : Nat) (K : laws_szLabelSS.Pt → Option (Tup [(.int .i64)])) : laws_szLabelSS.Pt → Option (Tup [(.int .i64)])
  | .p0 a0 a1 => cond (decide ((IntKind.wrap .i64 (a1 - ((List.length a0) : Int))) < (0 : Int))) (some (-(1 : Int))) (K (.p17 a0 (IntKind.wrap .i64 (a1 - ((List.length a0) : Int))) (0 : Int)))
  | .p17 y1 y2 y3 => cond (decide (y3 < ((List.length y1) : Int))) (cond (inB y3 (List.length y1)) ((laws_szLabelS n (List.getD y1 (Int.toNat y3) default) y2).bind fun (r6 : Int) => cond (decide (r6 < (0 : Int))) (some (-(1 : Int))) (K (.p17 y1 r6 (IntKind.wrap .i64 (y3 + (1 : Int)))))) (none)) (some y2)
def laws_szLabelSS (n : Nat) (a0 : List (List ((ByteArray) × ((ByteArray) × (Unit))))) (a1 : Int) : Option (Tup [(.int .i64)]) := goRec laws_szLabelSS.step n (.p0 a0 a1)
def laws_szLabelSS.spec : Ctr := ⟨21, [.v (.sl false (.sl false (.pair .str (.pair .str .unit)))), .v (.int .i64)], [(.int .i64)], [], fun n x => laws_szLabelSS n x.1 x.2.1⟩
theorem laws_szLabelSS.seg_eq (n : Nat) (goto : Nat → St → Option (Tup [(.int .i64)])) (y : laws_szLabelSS.Pt) : seg ⟨ty, gl, laws_szLabelSS.md, calOf laws_szLabelSS.T n⟩ laws_szLabelSS.F.np laws_szLabelSS.F.ks goto (laws_szLabelSS.F.fin ⟨ty, gl, laws_szLabelSS.md, calOf laws_szLabelSS.T 0⟩ [(.int .i64)]) laws_szLabelSS.F.c (laws_szLabelSS.lb y) (laws_szLabelSS.st y) = laws_szLabelSS.step n (fun z => goto (laws_szLabelSS.lb z) (laws_szLabelSS.st z)) y := by
  cases y <;> kernel_rfl
theorem laws_szLabelSS.text : Text Go.Proofs.Try.prog laws_szLabelSS.F laws_szLabelSS.spec := ⟨⟨Go.Proofs.Try.f21, by kernel_rfl, by kernel_rfl, by decide +kernel, by kernel_rfl, by kernel_rfl, of_decide_eq_true (by kernel_rfl)⟩, fun _ => rfl, fun _ => rfl, rfl⟩
theorem laws_szLabelSS.ok : CtrOK Go.Proofs.Try.prog gl laws_szLabelSS.spec :=
  ctr_ok (T := laws_szLabelSS.T) (F := laws_szLabelSS.F) (lb := laws_szLabelSS.lb) (st := laws_szLabelSS.st) (step := laws_szLabelSS.step) (md := laws_szLabelSS.md) tabs laws_szLabelSS.text laws_szLabelSS.seg_eq (fun n x => ⟨.p0 x.1 x.2.1, rfl, rfl, rfl⟩) (consC laws_szLabelS.ok (nilC))

/-! loop.example/g00039/laws.toMatcher -/
def laws_toMatcher.T : List Ctr := []
def laws_toMatcher.md : List (Nat × List Md) := []
noncomputable def laws_toMatcher.F : Fun := ⟨(Go.Proofs.Try.f160.body).getD .skip, [.v (.pair .str (.pair (.int .i64) (.pair .str .unit)))], [(.cell 2 151, (.pair .str (.pair (.int .i64) (.pair .str .unit))))], [], 0, []⟩
inductive laws_toMatcher.Pt where
  | p0 (a0 : (ByteArray) × ((Int) × ((ByteArray) × (Unit))))
def laws_toMatcher.lb : laws_toMatcher.Pt → Nat
  | .p0 _ => 0
def laws_toMatcher.st : laws_toMatcher.Pt → St
  | .p0 a0 => enter [.v (.pair .str (.pair (.int .i64) (.pair .str .unit))) a0] 0
def laws_toMatcher.step (n : Nat) (K : laws_toMatcher.Pt → Option (Tup [(.pair .str (.pair (.int .i64) (.pair .str .unit)))])) : laws_toMatcher.Pt → Option (Tup [(.pair .str (.pair (.int .i64) (.pair .str .unit)))])
  | .p0 a0 => some a0
def laws_toMatcher (n : Nat) (a0 : (ByteArray) × ((Int) × ((ByteArray) × (Unit)))) : Option (Tup [(.pair .str (.pair (.int .i64) (.pair .str .unit)))]) := goRec laws_toMatcher.step n (.p0 a0)
def laws_toMatcher.spec : Ctr := ⟨160, [.v (.pair .str (.pair (.int .i64) (.pair .str .unit)))], [(.pair .str (.pair (.int .i64) (.pair .str .unit)))], [], fun n x => laws_toMatcher n x.1⟩
theorem laws_toMatcher.seg_eq (n : Nat) (goto : Nat → St → Option (Tup [(.pair .str (.pair (.int .i64) (.pair .str .unit)))])) (y : laws_toMatcher.Pt) : seg ⟨ty, gl, laws_toMatcher.md, calOf laws_toMatcher.T n⟩ laws_toMatcher.F.np laws_toMatcher.F.ks goto (laws_toMatcher.F.fin ⟨ty, gl, laws_toMatcher.md, calOf laws_toMatcher.T 0⟩ [(.pair .str (.pair (.int .i64) (.pair .str .unit)))]) laws_toMatcher.F.c (laws_toMatcher.lb y) (laws_toMatcher.st y) = laws_toMatcher.step n (fun z => goto (laws_toMatcher.lb z) (laws_toMatcher.st z)) y := by
  cases y <;> kernel_rfl
theorem laws_toMatcher.text : Text Go.Proofs.Try.prog laws_toMatcher.F laws_toMatcher.spec := ⟨⟨Go.Proofs.Try.f160, by kernel_rfl, by kernel_rfl, by decide +kernel, by kernel_rfl, by kernel_rfl, of_decide_eq_true (by kernel_rfl)⟩, fun _ => rfl, fun _ => rfl, rfl⟩
theorem laws_toMatcher.ok : CtrOK Go.Proofs.Try.prog gl laws_toMatcher.spec :=
  ctr_ok (T := laws_toMatcher.T) (F := laws_toMatcher.F) (lb := laws_toMatcher.lb) (st := laws_toMatcher.st) (step := laws_toMatcher.step) (md := laws_toMatcher.md) tabs laws_toMatcher.text laws_toMatcher.seg_eq (fun n x => ⟨.p0 x.1, rfl, rfl, rfl⟩) (nilC)

/-! loop.example/g00039/laws.toMatcherS -/
def laws_toMatcherS.T : List Ctr := [laws_toMatcher.spec]
def laws_toMatcherS.md : List (Nat × List Md) := []
noncomputable def laws_toMatcherS.F : Fun := ⟨(Go.Proofs.Try.f101.body).getD .skip, [.v (.sl false (.pair .str (.pair (.int .i64) (.pair .str .unit))))], [(.tmp 2, (.sl false (.pair .str (.pair (.int .i64) (.pair .str .unit)))))], [], 0, [(9, ⟨[0, 3, 4], [(3, (.pair .str (.pair (.int .i64) (.pair .str .unit))))], []⟩)]⟩
inductive laws_toMatcherS.Pt where
  | p0 (a0 : List ((ByteArray) × ((Int) × ((ByteArray) × (Unit)))))
  | p9 (y1 : List ((ByteArray) × ((Int) × ((ByteArray) × (Unit))))) (y2 : Int) (y3 : List ((ByteArray) × ((Int) × ((ByteArray) × (Unit)))))
def laws_toMatcherS.lb : laws_toMatcherS.Pt → Nat
  | .p0 _ => 0
  | .p9 _ _ _ => 9
def laws_toMatcherS.st : laws_toMatcherS.Pt → St
  | .p0 a0 => enter [.v (.sl false (.pair .str (.pair (.int .i64) (.pair .str .unit)))) a0] 0
  | .p9 y1 y2 y3 => ⟨[(0, .im (.sl false (.pair .str (.pair (.int .i64) (.pair .str .unit)))) y1), (3, .hs 0 [] none 0), (4, .im (.int .i64) y2)], [(0, .arr false (.pair .str (.pair (.int .i64) (.pair .str .unit))) y3 0)], 1⟩
def laws_toMatcherS.step (n : Nat) (K : laws_toMatcherS.Pt → Option (Tup [(.sl false (.pair .str (.pair (.int .i64) (.pair .str .unit))))])) : laws_toMatcherS.Pt → Option (Tup [(.sl false (.pair .str (.pair (.int .i64) (.pair .str .unit))))])
  | .p0 a0 => cond (inC ((List.length a0) : Int) ((List.length a0) : Int) 1000000000) (K (.p9 a0 (0 : Int) (List.replicate (Int.toNat ((List.length a0) : Int)) (default : (ByteArray) × ((Int) × ((ByteArray) × (Unit))))))) (none)
  | .p9 y1 y2 y3 => cond (decide (y2 < ((List.length y1) : Int))) (cond (inB y2 (List.length y1)) ((laws_toMatcher n (List.getD y1 (Int.toNat y2) default)).bind fun r6 => cond (inB y2 (List.length y3)) (K (.p9 y1 (IntKind.wrap .i64 (y2 + (1 : Int))) (List.set y3 (0 + (Int.toNat y2)) r6))) (none)) (none)) (some y3)
def laws_toMatcherS (n : Nat) (a0 : List ((ByteArray) × ((Int) × ((ByteArray) × (Unit))))) : Option (Tup [(.sl false (.pair .str (.pair (.int .i64) (.pair .str .unit))))]) := goRec laws_toMatcherS.step n (.p0 a0)
def laws_toMatcherS.spec : Ctr := ⟨101, [.v (.sl false (.pair .str (.pair (.int .i64) (.pair .str .unit))))], [(.sl false (.pair .str (.pair (.int .i64) (.pair .str .unit))))], [], fun n x => laws_toMatcherS n x.1⟩
theorem laws_toMatcherS.seg_eq (n : Nat) (goto : Nat → St → Option (Tup [(.sl false (.pair .str (.pair (.int .i64) (.pair .str .unit))))])) (y : laws_toMatcherS.Pt) : seg ⟨ty, gl, laws_toMatcherS.md, calOf laws_toMatcherS.T n⟩ laws_toMatcherS.F.np laws_toMatcherS.F.ks goto (laws_toMatcherS.F.fin ⟨ty, gl, laws_toMatcherS.md, calOf laws_toMatcherS.T 0⟩ [(.sl false (.pair .str (.pair (.int .i64) (.pair .str .unit))))]) laws_toMatcherS.F.c (laws_toMatcherS.lb y) (laws_toMatcherS.st y) = laws_toMatcherS.step n (fun z => goto (laws_toMatcherS.lb z) (laws_toMatcherS.st z)) y := by
  cases y <;> kernel_rfl
theorem laws_toMatcherS.text : Text Go.Proofs.Try.prog laws_toMatcherS.F laws_toMatcherS.spec := ⟨⟨Go.Proofs.Try.f101, by kernel_rfl, by kernel_rfl, by decide +kernel, by kernel_rfl, by kernel_rfl, of_decide_eq_true (by kernel_rfl)⟩, fun _ => rfl, fun _ => rfl, rfl⟩
theorem laws_toMatcherS.ok : CtrOK Go.Proofs.Try.prog gl laws_toMatcherS.spec :=
  ctr_ok (T := laws_toMatcherS.T) (F := laws_toMatcherS.F) (lb := laws_toMatcherS.lb) (st := laws_toMatcherS.st) (step := laws_toMatcherS.step) (md := laws_toMatcherS.md) tabs laws_toMatcherS.text laws_toMatcherS.seg_eq (fun n x => ⟨.p0 x.1, rfl, rfl, rfl⟩) (consC laws_toMatcher.ok (nilC))

/-! loop.example/g00039/laws.toStringS -/
def laws_toStringS.T : List Ctr := []
def laws_toStringS.md : List (Nat × List Md) := []
noncomputable def laws_toStringS.F : Fun := ⟨(Go.Proofs.Try.f110.body).getD .skip, [.v (.sl false .str)], [(.tmp 2, (.sl false .str))], [], 0, [(9, ⟨[0, 3, 4], [(3, .str)], []⟩)]⟩
inductive laws_toStringS.Pt where
  | p0 (a0 : List (ByteArray))
  | p9 (y1 : List (ByteArray)) (y2 : Int) (y3 : List (ByteArray))
def laws_toStringS.lb : laws_toStringS.Pt → Nat
  | .p0 _ => 0
  | .p9 _ _ _ => 9
def laws_toStringS.st : laws_toStringS.Pt → St
  | .p0 a0 => enter [.v (.sl false .str) a0] 0
  | .p9 y1 y2 y3 => ⟨[(0, .im (.sl false .str) y1), (3, .hs 0 [] none 0), (4, .im (.int .i64) y2)], [(0, .arr false .str y3 0)], 1⟩
def laws_toStringS.step (n : Nat) (K : laws_toStringS.Pt → Option (Tup [(.sl false .str)])) : laws_toStringS.Pt → Option (Tup [(.sl false .str)])
  | .p0 a0 => cond (inC ((List.length a0) : Int) ((List.length a0) : Int) 1000000000) (K (.p9 a0 (0 : Int) (List.replicate (Int.toNat ((List.length a0) : Int)) (default : ByteArray)))) (none)
  | .p9 y1 y2 y3 => cond (decide (y2 < ((List.length y1) : Int))) (cond (inB y2 (List.length y1)) (cond (inB y2 (List.length y3)) (K (.p9 y1 (IntKind.wrap .i64 (y2 + (1 : Int))) (List.set y3 (0 + (Int.toNat y2)) (List.getD y1 (Int.toNat y2) default)))) (none)) (none)) (some y3)
def laws_toStringS (n : Nat) (a0 : List (ByteArray)) : Option (Tup [(.sl false .str)]) := goRec laws_toStringS.step n (.p0 a0)
def laws_toStringS.spec : Ctr := ⟨110, [.v (.sl false .str)], [(.sl false .str)], [], fun n x => laws_toStringS n x.1⟩
theorem laws_toStringS.seg_eq (n : Nat) (goto : Nat → St → Option (Tup [(.sl false .str)])) (y : laws_toStringS.Pt) : seg ⟨ty, gl, laws_toStringS.md, calOf laws_toStringS.T n⟩ laws_toStringS.F.np laws_toStringS.F.ks goto (laws_toStringS.F.fin ⟨ty, gl, laws_toStringS.md, calOf laws_toStringS.T 0⟩ [(.sl false .str)]) laws_toStringS.F.c (laws_toStringS.lb y) (laws_toStringS.st y) = laws_toStringS.step n (fun z => goto (laws_toStringS.lb z) (laws_toStringS.st z)) y := by
  cases y <;> kernel_rfl
theorem laws_toStringS.text : Text Go.Proofs.Try.prog laws_toStringS.F laws_toStringS.spec := ⟨⟨Go.Proofs.Try.f110, by kernel_rfl, by kernel_rfl, by decide +kernel, by kernel_rfl, by kernel_rfl, of_decide_eq_true (by kernel_rfl)⟩, fun _ => rfl, fun _ => rfl, rfl⟩
theorem laws_toStringS.ok : CtrOK Go.Proofs.Try.prog gl laws_toStringS.spec :=
  ctr_ok (T := laws_toStringS.T) (F := laws_toStringS.F) (lb := laws_toStringS.lb) (st := laws_toStringS.st) (step := laws_toStringS.step) (md := laws_toStringS.md) tabs laws_toStringS.text laws_toStringS.seg_eq (fun n x => ⟨.p0 x.1, rfl, rfl, rfl⟩) (nilC)

/-! loop.example/g00039/laws.toInhibit -/
def laws_toInhibit.T : List Ctr := [laws_toMatcherS.spec, laws_toStringS.spec]
def laws_toInhibit.md : List (Nat × List Md) := []
noncomputable def laws_toInhibit.F : Fun := ⟨(Go.Proofs.Try.f63.body).getD .skip, [.v (.pair (.sl false (.pair .str (.pair (.int .i64) (.pair .str .unit)))) (.pair (.sl false (.pair .str (.pair (.int .i64) (.pair .str .unit)))) (.pair (.sl false .str) .unit)))], [(.cell 2 104, (.pair (.sl false (.pair .str (.pair (.int .i64) (.pair .str .unit)))) (.pair (.sl false (.pair .str (.pair (.int .i64) (.pair .str .unit)))) (.pair (.sl false .str) .unit))))], [], 0, []⟩
inductive laws_toInhibit.Pt where
  | p0 (a0 : (List ((ByteArray) × ((Int) × ((ByteArray) × (Unit))))) × ((List ((ByteArray) × ((Int) × ((ByteArray) × (Unit))))) × ((List (ByteArray)) × (Unit))))
def laws_toInhibit.lb : laws_toInhibit.Pt → Nat
  | .p0 _ => 0
def laws_toInhibit.st : laws_toInhibit.Pt → St
  | .p0 a0 => enter [.v (.pair (.sl false (.pair .str (.pair (.int .i64) (.pair .str .unit)))) (.pair (.sl false (.pair .str (.pair (.int .i64) (.pair .str .unit)))) (.pair (.sl false .str) .unit))) a0] 0
def laws_toInhibit.step (n : Nat) (K : laws_toInhibit.Pt → Option (Tup [(.pair (.sl false (.pair .str (.pair (.int .i64) (.pair .str .unit)))) (.pair (.sl false (.pair .str (.pair (.int .i64) (.pair .str .unit)))) (.pair (.sl false .str) .unit)))])) : laws_toInhibit.Pt → Option (Tup [(.pair (.sl false (.pair .str (.pair (.int .i64) (.pair .str .unit)))) (.pair (.sl false (.pair .str (.pair (.int .i64) (.pair .str .unit)))) (.pair (.sl false .str) .unit)))])
  | .p0 a0 => (laws_toMatcherS n a0.1).bind fun r4 => (laws_toMatcherS n a0.2.1).bind fun r5 => (laws_toStringS n a0.2.2.1).bind fun r6 => some (r4, (r5, (r6, ())))
def laws_toInhibit (n : Nat) (a0 : (List ((ByteArray) × ((Int) × ((ByteArray) × (Unit))))) × ((List ((ByteArray) × ((Int) × ((ByteArray) × (Unit))))) × ((List (ByteArray)) × (Unit)))) : Option (Tup [(.pair (.sl false (.pair .str (.pair (.int .i64) (.pair .str .unit)))) (.pair (.sl false (.pair .str (.pair (.int .i64) (.pair .str .unit)))) (.pair (.sl false .str) .unit)))]) := goRec laws_toInhibit.step n (.p0 a0)
def laws_toInhibit.spec : Ctr := ⟨63, [.v (.pair (.sl false (.pair .str (.pair (.int .i64) (.pair .str .unit)))) (.pair (.sl false (.pair .str (.pair (.int .i64) (.pair .str .unit)))) (.pair (.sl false .str) .unit)))], [(.pair (.sl false (.pair .str (.pair (.int .i64) (.pair .str .unit)))) (.pair (.sl false (.pair .str (.pair (.int .i64) (.pair .str .unit)))) (.pair (.sl false .str) .unit)))], [], fun n x => laws_toInhibit n x.1⟩
theorem laws_toInhibit.seg_eq (n : Nat) (goto : Nat → St → Option (Tup [(.pair (.sl false (.pair .str (.pair (.int .i64) (.pair .str .unit)))) (.pair (.sl false (.pair .str (.pair (.int .i64) (.pair .str .unit)))) (.pair (.sl false .str) .unit)))])) (y : laws_toInhibit.Pt) : seg ⟨ty, gl, laws_toInhibit.md, calOf laws_toInhibit.T n⟩ laws_toInhibit.F.np laws_toInhibit.F.ks goto (laws_toInhibit.F.fin ⟨ty, gl, laws_toInhibit.md, calOf laws_toInhibit.T 0⟩ [(.pair (.sl false (.pair .str (.pair (.int .i64) (.pair .str .unit)))) (.pair (.sl false (.pair .str (.pair (.int .i64) (.pair .str .unit)))) (.pair (.sl false .str) .unit)))]) laws_toInhibit.F.c (laws_toInhibit.lb y) (laws_toInhibit.st y) = laws_toInhibit.step n (fun z => goto (laws_toInhibit.lb z) (laws_toInhibit.st z)) y := by
  cases y <;> kernel_rfl
theorem laws_toInhibit.text : Text Go.Proofs.Try.prog laws_toInhibit.F laws_toInhibit.spec := ⟨⟨Go.Proofs.Try.f63, by kernel_rfl, by kernel_rfl, by decide +kernel, by kernel_rfl, by kernel_rfl, of_decide_eq_true (by kernel_rfl)⟩, fun _ => rfl, fun _ => rfl, rfl⟩
theorem laws_toInhibit.ok : CtrOK Go.Proofs.Try.prog gl laws_toInhibit.spec :=
  ctr_ok (T := laws_toInhibit.T) (F := laws_toInhibit.F) (lb := laws_toInhibit.lb) (st := laws_toInhibit.st) (step := laws_toInhibit.step) (md := laws_toInhibit.md) tabs laws_toInhibit.text laws_toInhibit.seg_eq (fun n x => ⟨.p0 x.1, rfl, rfl, rfl⟩) (consC laws_toMatcherS.ok (consC laws_toStringS.ok (nilC)))

/-! loop.example/g00039/laws.toInhibitS -/
def laws_toInhibitS.T : List Ctr := [laws_toInhibit.spec]
def laws_toInhibitS.md : List (Nat × List Md) := []
noncomputable def laws_toInhibitS.F : Fun := ⟨(Go.Proofs.Try.f23.body).getD .skip, [.v (.sl false (.pair (.sl false (.pair .str (.pair (.int .i64) (.pair .str .unit)))) (.pair (.sl false (.pair .str (.pair (.int .i64) (.pair .str .unit)))) (.pair (.sl false .str) .unit))))], [(.tmp 2, (.sl false (.pair (.sl false (.pair .str (.pair (.int .i64) (.pair .str .unit)))) (.pair (.sl false (.pair .str (.pair (.int .i64) (.pair .str .unit)))) (.pair (.sl false .str) .unit)))))], [], 0, [(9, ⟨[0, 3, 4], [(3, (.pair (.sl false (.pair .str (.pair (.int .i64) (.pair .str .unit)))) (.pair (.sl false (.pair .str (.pair (.int .i64) (.pair .str .unit)))) (.pair (.sl false .str) .unit))))], []⟩)]⟩
inductive laws_toInhibitS.Pt where
  | p0 (a0 : List ((List ((ByteArray) × ((Int) × ((ByteArray) × (Unit))))) × ((List ((ByteArray) × ((Int) × ((ByteArray) × (Unit))))) × ((List (ByteArray)) × (Unit)))))
  | p9 (y1 : List ((List ((ByteArray) × ((Int) × ((ByteArray) × (Unit))))) × ((List ((ByteArray) × ((Int) × ((ByteArray) × (Unit))))) × ((List (ByteArray)) × (Unit))))) (y2 : Int) (y3 : List ((List ((ByteArray) × ((Int) × ((ByteArray) × (Unit))))) × ((List ((ByteArray) × ((Int) × ((ByteArray) × (Unit))))) × ((List (ByteArray)) × (Unit)))))
def laws_toInhibitS.lb : laws_toInhibitS.Pt → Nat
  | .p0 _ => 0
  | .p9 _ _ _ => 9
def laws_toInhibitS.st : laws_toInhibitS.Pt → St
  | .p0 a0 => enter [.v (.sl false (.pair (.sl false (.pair .str (.pair (.int .i64) (.pair .str .unit)))) (.pair (.sl false (.pair .str (.pair (.int .i64) (.pair .str .unit)))) (.pair (.sl false .str) .unit)))) a0] 0
  | .p9 y1 y2 y3 => ⟨[(0, .im (.sl false (.pair (.sl false (.pair .str (.pair (.int .i64) (.pair .str .unit)))) (.pair (.sl false (.pair .str (.pair (.int .i64) (.pair .str .unit)))) (.pair (.sl false .str) .unit)))) y1), (3, .hs 0 [] none 0), (4, .im (.int .i64) y2)], [(0, .arr false (.pair (.sl false (.pair .str (.pair (.int .i64) (.pair .str .unit)))) (.pair (.sl false (.pair .str (.pair (.int .i64) (.pair .str .unit)))) (.pair (.sl false .str) .unit))) y3 0)], 1⟩
def laws_toInhibitS.step (n : Nat) (K : laws_toInhibitS.Pt → Option (Tup [(.sl false (.pair (.sl false (.pair .str (.pair (.int .i64) (.pair .str .unit)))) (.pair (.sl false (.pair .str (.pair (.int .i64) (.pair .str .unit)))) (.pair (.sl false .str) .unit))))])) : laws_toInhibitS.Pt → Option (Tup [(.sl false (.pair (.sl false (.pair .str (.pair (.int .i64) (.pair .str .unit)))) (.pair (.sl false (.pair .str (.pair (.int .i64) (.pair .str .unit)))) (.pair (.sl false .str) .unit))))])
  | .p0 a0 => cond (inC ((List.length a0) : Int) ((List.length a0) : Int) 1000000000) (K (.p9 a0 (0 : Int) (List.replicate (Int.toNat ((List.length a0) : Int)) (default : (List ((ByteArray) × ((Int) × ((ByteArray) × (Unit))))) × ((List ((ByteArray) × ((Int) × ((ByteArray) × (Unit))))) × ((List (ByteArray)) × (Unit))))))) (none)
  | .p9 y1 y2 y3 => cond (decide (y2 < ((List.length y1) : Int))) (cond (inB y2 (List.length y1)) ((laws_toInhibit n ((List.getD y1 (Int.toNat y2) default).1, ((List.getD y1 (Int.toNat y2) default).2.1, ((List.getD y1 (Int.toNat y2) default).2.2.1, ())))).bind fun r6 => cond (inB y2 (List.length y3)) (K (.p9 y1 (IntKind.wrap .i64 (y2 + (1 : Int))) (List.set y3 (0 + (Int.toNat y2)) (r6.1, (r6.2.1, (r6.2.2.1, ())))))) (none)) (none)) (some y3)
def laws_toInhibitS (n : Nat) (a0 : List ((List ((ByteArray) × ((Int) × ((ByteArray) × (Unit))))) × ((List ((ByteArray) × ((Int) × ((ByteArray) × (Unit))))) × ((List (ByteArray)) × (Unit))))) : Option (Tup [(.sl false (.pair (.sl false (.pair .str (.pair (.int .i64) (.pair .str .unit)))) (.pair (.sl false (.pair .str (.pair (.int .i64) (.pair .str .unit)))) (.pair (.sl false .str) .unit))))]) := goRec laws_toInhibitS.step n (.p0 a0)
def laws_toInhibitS.spec : Ctr := ⟨23, [.v (.sl false (.pair (.sl false (.pair .str (.pair (.int .i64) (.pair .str .unit)))) (.pair (.sl false (.pair .str (.pair (.int .i64) (.pair .str .unit)))) (.pair (.sl false .str) .unit))))], [(.sl false (.pair (.sl false (.pair .str (.pair (.int .i64) (.pair .str .unit)))) (.pair (.sl false (.pair .str (.pair (.int .i64) (.pair .str .unit)))) (.pair (.sl false .str) .unit))))], [], fun n x => laws_toInhibitS n x.1⟩
theorem laws_toInhibitS.seg_eq (n : Nat) (goto : Nat → St → Option (Tup [(.sl false (.pair (.sl false (.pair .str (.pair (.int .i64) (.pair .str .unit)))) (.pair (.sl false (.pair .str (.pair (.int .i64) (.pair .str .unit)))) (.pair (.sl false .str) .unit))))])) (y : laws_toInhibitS.Pt) : seg ⟨ty, gl, laws_toInhibitS.md, calOf laws_toInhibitS.T n⟩ laws_toInhibitS.F.np laws_toInhibitS.F.ks goto (laws_toInhibitS.F.fin ⟨ty, gl, laws_toInhibitS.md, calOf laws_toInhibitS.T 0⟩ [(.sl false (.pair (.sl false (.pair .str (.pair (.int .i64) (.pair .str .unit)))) (.pair (.sl false (.pair .str (.pair (.int .i64) (.pair .str .unit)))) (.pair (.sl false .str) .unit))))]) laws_toInhibitS.F.c (laws_toInhibitS.lb y) (laws_toInhibitS.st y) = laws_toInhibitS.step n (fun z => goto (laws_toInhibitS.lb z) (laws_toInhibitS.st z)) y := by
  cases y <;> kernel_rfl
theorem laws_toInhibitS.text : Text Go.Proofs.Try.prog laws_toInhibitS.F laws_toInhibitS.spec := ⟨⟨Go.Proofs.Try.f23, by kernel_rfl, by kernel_rfl, by decide +kernel, by kernel_rfl, by kernel_rfl, of_decide_eq_true (by kernel_rfl)⟩, fun _ => rfl, fun _ => rfl, rfl⟩
theorem laws_toInhibitS.ok : CtrOK Go.Proofs.Try.prog gl laws_toInhibitS.spec :=
  ctr_ok (T := laws_toInhibitS.T) (F := laws_toInhibitS.F) (lb := laws_toInhibitS.lb) (st := laws_toInhibitS.st) (step := laws_toInhibitS.step) (md := laws_toInhibitS.md) tabs laws_toInhibitS.text laws_toInhibitS.seg_eq (fun n x => ⟨.p0 x.1, rfl, rfl, rfl⟩) (consC laws_toInhibit.ok (nilC))

/-! loop.example/g00039/laws.toLabel -/
def laws_toLabel.T : List Ctr := []
def laws_toLabel.md : List (Nat × List Md) := []
noncomputable def laws_toLabel.F : Fun := ⟨(Go.Proofs.Try.f51.body).getD .skip, [.v (.pair .str (.pair .str .unit))], [(.cell 2 93, (.pair .str (.pair .str .unit)))], [], 0, []⟩
inductive laws_toLabel.Pt where
  | p0 (a0 : (ByteArray) × ((ByteArray) × (Unit)))
def laws_toLabel.lb : laws_toLabel.Pt → Nat
  | .p0 _ => 0
def laws_toLabel.st : laws_toLabel.Pt → St
  | .p0 a0 => enter [.v (.pair .str (.pair .str .unit)) a0] 0
def laws_toLabel.step (n : Nat) (K : laws_toLabel.Pt → Option (Tup [(.pair .str (.pair .str .unit))])) : laws_toLabel.Pt → Option (Tup [(.pair .str (.pair .str .unit))])
  | .p0 a0 => some a0
def laws_toLabel (n : Nat) (a0 : (ByteArray) × ((ByteArray) × (Unit))) : Option (Tup [(.pair .str (.pair .str .unit))]) := goRec laws_toLabel.step n (.p0 a0)
def laws_toLabel.spec : Ctr := ⟨51, [.v (.pair .str (.pair .str .unit))], [(.pair .str (.pair .str .unit))], [], fun n x => laws_toLabel n x.1⟩
theorem laws_toLabel.seg_eq (n : Nat) (goto : Nat → St → Option (Tup [(.pair .str (.pair .str .unit))])) (y : laws_toLabel.Pt) : seg ⟨ty, gl, laws_toLabel.md, calOf laws_toLabel.T n⟩ laws_toLabel.F.np laws_toLabel.F.ks goto (laws_toLabel.F.fin ⟨ty, gl, laws_toLabel.md, calOf laws_toLabel.T 0⟩ [(.pair .str (.pair .str .unit))]) laws_toLabel.F.c (laws_toLabel.lb y) (laws_toLabel.st y) = laws_toLabel.step n (fun z => goto (laws_toLabel.lb z) (laws_toLabel.st z)) y := by
  cases y <;> kernel_rfl
theorem laws_toLabel.text : Text Go.Proofs.Try.prog laws_toLabel.F laws_toLabel.spec := ⟨⟨Go.Proofs.Try.f51, by kernel_rfl, by kernel_rfl, by decide +kernel, by kernel_rfl, by kernel_rfl, of_decide_eq_true (by kernel_rfl)⟩, fun _ => rfl, fun _ => rfl, rfl⟩
theorem laws_toLabel.ok : CtrOK Go.Proofs.Try.prog gl laws_toLabel.spec :=
  ctr_ok (T := laws_toLabel.T) (F := laws_toLabel.F) (lb := laws_toLabel.lb) (st := laws_toLabel.st) (step := laws_toLabel.step) (md := laws_toLabel.md) tabs laws_toLabel.text laws_toLabel.seg_eq (fun n x => ⟨.p0 x.1, rfl, rfl, rfl⟩) (nilC)

/-! loop.example/g00039/laws.toLabelS -/
def laws_toLabelS.T : List Ctr := [laws_toLabel.spec]
def laws_toLabelS.md : List (Nat × List Md) := []
noncomputable def laws_toLabelS.F : Fun := ⟨(Go.Proofs.Try.f11.body).getD .skip, [.v (.sl false (.pair .str (.pair .str .unit)))], [(.tmp 2, (.sl false (.pair .str (.pair .str .unit))))], [], 0, [(9, ⟨[0, 3, 4], [(3, (.pair .str (.pair .str .unit)))], []⟩)]⟩
inductive laws_toLabelS.Pt where
  | p0 (a0 : List ((ByteArray) × ((ByteArray) × (Unit))))
  | p9 (y1 : List ((ByteArray) × ((ByteArray) × (Unit)))) (y2 : Int) (y3 : List ((ByteArray) × ((ByteArray) × (Unit))))
def laws_toLabelS.lb : laws_toLabelS.Pt → Nat
  | .p0 _ => 0
  | .p9 _ _ _ => 9
def laws_toLabelS.st : laws_toLabelS.Pt → St
  | .p0 a0 => enter [.v (.sl false (.pair .str (.pair .str .unit))) a0] 0
  | .p9 y1 y2 y3 => ⟨[(0, .im (.sl false (.pair .str (.pair .str .unit))) y1), (3, .hs 0 [] none 0), (4, .im (.int .i64) y2)], [(0, .arr false (.pair .str (.pair .str .unit)) y3 0)], 1⟩
def laws_toLabelS.step (n : Nat) (K : laws_toLabelS.Pt → Option (Tup [(.sl false (.pair .str (.pair .str .unit)))])) : laws_toLabelS.Pt → Option (Tup [(.sl false (.pair .str (.pair .str .unit)))])
  | .p0 a0 => cond (inC ((List.length a0) : Int) ((List.length a0) : Int) 1000000000) (K (.p9 a0 (0 : Int) (List.replicate (Int.toNat ((List.length a0) : Int)) (default : (ByteArray) × ((ByteArray) × (Unit)))))) (none)
  | .p9 y1 y2 y3 => cond (decide (y2 < ((List.length y1) : Int))) (cond (inB y2 (List.length y1)) ((laws_toLabel n (List.getD y1 (Int.toNat y2) default)).bind fun r6 => cond (inB y2 (List.length y3)) (K (.p9 y1 (IntKind.wrap .i64 (y2 + (1 : Int))) (List.set y3 (0 + (Int.toNat y2)) r6))) (none)) (none)) (some y3)
def laws_toLabelS (n : Nat) (a0 : List ((ByteArray) × ((ByteArray) × (Unit)))) : Option (Tup [(.sl false (.pair .str (.pair .str .unit)))]) := goRec laws_toLabelS.step n (.p0 a0)
def laws_toLabelS.spec : Ctr := ⟨11, [.v (.sl false (.pair .str (.pair .str .unit)))], [(.sl false (.pair .str (.pair .str .unit)))], [], fun n x => laws_toLabelS n x.1⟩
theorem laws_toLabelS.seg_eq (n : Nat) (goto : Nat → St → Option (Tup [(.sl false (.pair .str (.pair .str .unit)))])) (y : laws_toLabelS.Pt) : seg ⟨ty, gl, laws_toLabelS.md, calOf laws_toLabelS.T n⟩ laws_toLabelS.F.np laws_toLabelS.F.ks goto (laws_toLabelS.F.fin ⟨ty, gl, laws_toLabelS.md, calOf laws_toLabelS.T 0⟩ [(.sl false (.pair .str (.pair .str .unit)))]) laws_toLabelS.F.c (laws_toLabelS.lb y) (laws_toLabelS.st y) = laws_toLabelS.step n (fun z => goto (laws_toLabelS.lb z) (laws_toLabelS.st z)) y := by
  cases y <;> kernel_rfl
theorem laws_toLabelS.text : Text Go.Proofs.Try.prog laws_toLabelS.F laws_toLabelS.spec := ⟨⟨Go.Proofs.Try.f11, by kernel_rfl, by kernel_rfl, by decide +kernel, by kernel_rfl, by kernel_rfl, of_decide_eq_true (by kernel_rfl)⟩, fun _ => rfl, fun _ => rfl, rfl⟩
theorem laws_toLabelS.ok : CtrOK Go.Proofs.Try.prog gl laws_toLabelS.spec :=
  ctr_ok (T := laws_toLabelS.T) (F := laws_toLabelS.F) (lb := laws_toLabelS.lb) (st := laws_toLabelS.st) (step := laws_toLabelS.step) (md := laws_toLabelS.md) tabs laws_toLabelS.text laws_toLabelS.seg_eq (fun n x => ⟨.p0 x.1, rfl, rfl, rfl⟩) (consC laws_toLabel.ok (nilC))

/-! loop.example/g00039/laws.toLabelSS -/
def laws_toLabelSS.T : List Ctr := [laws_toLabelS.spec]
def laws_toLabelSS.md : List (Nat × List Md) := []
noncomputable def laws_toLabelSS.F : Fun := ⟨(Go.Proofs.Try.f24.body).getD .skip, [.v (.sl false (.sl false (.pair .str (.pair .str .unit))))], [(.tmp 2, (.sl false (.sl false (.pair .str (.pair .str .unit)))))], [], 0, [(9, ⟨[0, 3, 4], [(3, (.sl false (.pair .str (.pair .str .unit))))], []⟩)]⟩
inductive laws_toLabelSS.Pt where
  | p0 (a0 : List (List ((ByteArray) × ((ByteArray) × (Unit)))))
  | p9 (y1 : List (List ((ByteArray) × ((ByteArray) × (Unit))))) (y2 : Int) (y3 : List (List ((ByteArray) × ((ByteArray) × (Unit)))))
def laws_toLabelSS.lb : laws_toLabelSS.Pt → Nat
  | .p0 _ => 0
  | .p9 _ _ _ => 9
def laws_toLabelSS.st : laws_toLabelSS.Pt → St
  | .p0 a0 => enter [.v (.sl false (.sl false (.pair .str (.pair .str .unit)))) a0] 0
  | .p9 y1 y2 y3 => ⟨[(0, .im (.sl false (.sl false (.pair .str (.pair .str .unit)))) y1), (3, .hs 0 [] none 0), (4, .im (.int .i64) y2)], [(0, .arr false (.sl false (.pair .str (.pair .str .unit))) y3 0)], 1⟩
def laws_toLabelSS.step (n : Nat) (K : laws_toLabelSS.Pt → Option (Tup [(.sl false (.sl false (.pair .str (.pair .str .unit))))])) : laws_toLabelSS.Pt → Option (Tup [(.sl false (.sl false (.pair .str (.pair .str .unit))))])
  | .p0 a0 => cond (inC ((List.length a0) : Int) ((List.length a0) : Int) 1000000000) (K (.p9 a0 (0 : Int) (List.replicate (Int.toNat ((List.length a0) : Int)) (default : List ((ByteArray) × ((ByteArray) × (Unit))))))) (none)
  | .p9 y1 y2 y3 => cond (decide (y2 < ((List.length y1) : Int))) (cond (inB y2 (List.length y1)) ((laws_toLabelS n (List.getD y1 (Int.toNat y2) default)).bind fun r6 => cond (inB y2 (List.length y3)) (K (.p9 y1 (IntKind.wrap .i64 (y2 + (1 : Int))) (List.set y3 (0 + (Int.toNat y2)) r6))) (none)) (none)) (some y3)
def laws_toLabelSS (n : Nat) (a0 : List (List ((ByteArray) × ((ByteArray) × (Unit))))) : Option (Tup [(.sl false (.sl false (.pair .str (.pair .str .unit))))]) := goRec laws_toLabelSS.step n (.p0 a0)
def laws_toLabelSS.spec : Ctr := ⟨24, [.v (.sl false (.sl false (.pair .str (.pair .str .unit))))], [(.sl false (.sl false (.pair .str (.pair .str .unit))))], [], fun n x => laws_toLabelSS n x.1⟩
theorem laws_toLabelSS.seg_eq (n : Nat) (goto : Nat → St → Option (Tup [(.sl false (.sl false (.pair .str (.pair .str .unit))))])) (y : laws_toLabelSS.Pt) : seg ⟨ty, gl, laws_toLabelSS.md, calOf laws_toLabelSS.T n⟩ laws_toLabelSS.F.np laws_toLabelSS.F.ks goto (laws_toLabelSS.F.fin ⟨ty, gl, laws_toLabelSS.md, calOf laws_toLabelSS.T 0⟩ [(.sl false (.sl false (.pair .str (.pair .str .unit))))]) laws_toLabelSS.F.c (laws_toLabelSS.lb y) (laws_toLabelSS.st y) = laws_toLabelSS.step n (fun z => goto (laws_toLabelSS.lb z) (laws_toLabelSS.st z)) y := by
  cases y <;> kernel_rfl
theorem laws_toLabelSS.text : Text Go.Proofs.Try.prog laws_toLabelSS.F laws_toLabelSS.spec := ⟨⟨Go.Proofs.Try.f24, by kernel_rfl, by kernel_rfl, by decide +kernel, by kernel_rfl, by kernel_rfl, of_decide_eq_true (by kernel_rfl)⟩, fun _ => rfl, fun _ => rfl, rfl⟩
theorem laws_toLabelSS.ok : CtrOK Go.Proofs.Try.prog gl laws_toLabelSS.spec :=
  ctr_ok (T := laws_toLabelSS.T) (F := laws_toLabelSS.F) (lb := laws_toLabelSS.lb) (st := laws_toLabelSS.st) (step := laws_toLabelSS.step) (md := laws_toLabelSS.md) tabs laws_toLabelSS.text laws_toLabelSS.seg_eq (fun n x => ⟨.p0 x.1, rfl, rfl, rfl⟩) (consC laws_toLabelS.ok (nilC))

/-! loop.example/g00039/spec.l2Digit -/
def spec_l2Digit.T : List Ctr := []
def spec_l2Digit.md : List (Nat × List Md) := []
noncomputable def spec_l2Digit.F : Fun := ⟨(Go.Proofs.Try.f154.body).getD .skip, [.v (.int .u8)], [(.tmp 2, .bool)], [], 0, []⟩
inductive spec_l2Digit.Pt where
  | p0 (a0 : Int)
def spec_l2Digit.lb : spec_l2Digit.Pt → Nat
  | .p0 _ => 0
def spec_l2Digit.st : spec_l2Digit.Pt → St
  | .p0 a0 => enter [.v (.int .u8) a0] 0
def spec_l2Digit.step (n : Nat) (K : spec_l2Digit.Pt → Option (Tup [.bool])) : spec_l2Digit.Pt → Option (Tup [.bool])
  | .p0 a0 => cond (decide ((48 : Int) ≤ a0)) (some (decide (a0 ≤ (57 : Int)))) (some false)
def spec_l2Digit (n : Nat) (a0 : Int) : Option (Tup [.bool]) := goRec spec_l2Digit.step n (.p0 a0)
def spec_l2Digit.spec : Ctr := ⟨154, [.v (.int .u8)], [.bool], [], fun n x => spec_l2Digit n x.1⟩
theorem spec_l2Digit.seg_eq (n : Nat) (goto : Nat → St → Option (Tup [.bool])) (y : spec_l2Digit.Pt) : seg ⟨ty, gl, spec_l2Digit.md, calOf spec_l2Digit.T n⟩ spec_l2Digit.F.np spec_l2Digit.F.ks goto (spec_l2Digit.F.fin ⟨ty, gl, spec_l2Digit.md, calOf spec_l2Digit.T 0⟩ [.bool]) spec_l2Digit.F.c (spec_l2Digit.lb y) (spec_l2Digit.st y) = spec_l2Digit.step n (fun z => goto (spec_l2Digit.lb z) (spec_l2Digit.st z)) y := by
  cases y <;> kernel_rfl
theorem spec_l2Digit.text : Text Go.Proofs.Try.prog spec_l2Digit.F spec_l2Digit.spec := ⟨⟨Go.Proofs.Try.f154, by kernel_rfl, by kernel_rfl, by decide +kernel, by kernel_rfl, by kernel_rfl, of_decide_eq_true (by kernel_rfl)⟩, fun _ => rfl, fun _ => rfl, rfl⟩
theorem spec_l2Digit.ok : CtrOK Go.Proofs.Try.prog gl spec_l2Digit.spec :=
  ctr_ok (T := spec_l2Digit.T) (F := spec_l2Digit.F) (lb := spec_l2Digit.lb) (st := spec_l2Digit.st) (step := spec_l2Digit.step) (md := spec_l2Digit.md) tabs spec_l2Digit.text spec_l2Digit.seg_eq (fun n x => ⟨.p0 x.1, rfl, rfl, rfl⟩) (nilC)

/-! loop.example/g00039/spec.l2Letter -/
def spec_l2Letter.T : List Ctr := []
def spec_l2Letter.md : List (Nat × List Md) := []
noncomputable def spec_l2Letter.F : Fun := ⟨(Go.Proofs.Try.f155.body).getD .skip, [.v (.int .u8)], [(.tmp 2, .bool)], [], 0, []⟩
inductive spec_l2Letter.Pt where
  | p0 (a0 : Int)
def spec_l2Letter.lb : spec_l2Letter.Pt → Nat
  | .p0 _ => 0
def spec_l2Letter.st : spec_l2Letter.Pt → St
  | .p0 a0 => enter [.v (.int .u8) a0] 0
def spec_l2Letter.step (n : Nat) (K : spec_l2Letter.Pt → Option (Tup [.bool])) : spec_l2Letter.Pt → Option (Tup [.bool])
  | .p0 a0 => cond (decide ((97 : Int) ≤ a0)) (cond (decide (a0 ≤ (122 : Int))) (some true) (cond (decide ((65 : Int) ≤ a0)) (some (decide (a0 ≤ (90 : Int)))) (some false))) (cond (decide ((65 : Int) ≤ a0)) (some (decide (a0 ≤ (90 : Int)))) (some false))
def spec_l2Letter (n : Nat) (a0 : Int) : Option (Tup [.bool]) := goRec spec_l2Letter.step n (.p0 a0)
def spec_l2Letter.spec : Ctr := ⟨155, [.v (.int .u8)], [.bool], [], fun n x => spec_l2Letter n x.1⟩
theorem spec_l2Letter.seg_eq (n : Nat) (goto : Nat → St → Option (Tup [.bool])) (y : spec_l2Letter.Pt) : seg ⟨ty, gl, spec_l2Letter.md, calOf spec_l2Letter.T n⟩ spec_l2Letter.F.np spec_l2Letter.F.ks goto (spec_l2Letter.F.fin ⟨ty, gl, spec_l2Letter.md, calOf spec_l2Letter.T 0⟩ [.bool]) spec_l2Letter.F.c (spec_l2Letter.lb y) (spec_l2Letter.st y) = spec_l2Letter.step n (fun z => goto (spec_l2Letter.lb z) (spec_l2Letter.st z)) y := by
  cases y <;> kernel_rfl
theorem spec_l2Letter.text : Text Go.Proofs.Try.prog spec_l2Letter.F spec_l2Letter.spec := ⟨⟨Go.Proofs.Try.f155, by kernel_rfl, by kernel_rfl, by decide +kernel, by kernel_rfl, by kernel_rfl, of_decide_eq_true (by kernel_rfl)⟩, fun _ => rfl, fun _ => rfl, rfl⟩
theorem spec_l2Letter.ok : CtrOK Go.Proofs.Try.prog gl spec_l2Letter.spec :=
  ctr_ok (T := spec_l2Letter.T) (F := spec_l2Letter.F) (lb := spec_l2Letter.lb) (st := spec_l2Letter.st) (step := spec_l2Letter.step) (md := spec_l2Letter.md) tabs spec_l2Letter.text spec_l2Letter.seg_eq (fun n x => ⟨.p0 x.1, rfl, rfl, rfl⟩) (nilC)

/-! loop.example/g00039/spec.l2Name -/
def spec_l2Name.T : List Ctr := [spec_l2Digit.spec, spec_l2Letter.spec]
def spec_l2Name.md : List (Nat × List Md) := []
noncomputable def spec_l2Name.F : Fun := ⟨(Go.Proofs.Try.f96.body).getD .skip, [.v .str], [(.tmp 2, .bool)], [], 0, [(4, ⟨[0, 16], [], []⟩), (15, ⟨[0, 3], [], []⟩), (24, ⟨[0, 3, 40], [], []⟩)]⟩
inductive spec_l2Name.Pt where
  | p0 (a0 : ByteArray)
  | p4 (y1 : ByteArray) (y2 : Bool)
  | p15 (y1 : ByteArray) (y2 : Int)
  | p24 (y1 : ByteArray) (y2 : Int) (y3 : Bool)
def spec_l2Name.lb : spec_l2Name.Pt → Nat
  | .p0 _ => 0
  | .p4 _ _ => 4
  | .p15 _ _ => 15
  | .p24 _ _ _ => 24
def spec_l2Name.st : spec_l2Name.Pt → St
  | .p0 a0 => enter [.v .str a0] 0
  | .p4 y1 y2 => ⟨[(0, .im .str y1), (16, .im .bool y2)], [], 0⟩
  | .p15 y1 y2 => ⟨[(0, .im .str y1), (3, .im (.int .i64) y2)], [], 0⟩
  | .p24 y1 y2 y3 => ⟨[(0, .im .str y1), (3, .im (.int .i64) y2), (40, .im .bool y3)], [], 0⟩
def spec_l2Name.step (n : Nat) (K : spec_l2Name.Pt → Option (Tup [.bool])) : spec_l2Name.Pt → Option (Tup [.bool])
  | .p0 a0 => cond (decide (((ByteArray.size a0) : Int) < (1 : Int))) (K (.p4 a0 true)) (cond (decide ((40 : Int) < ((ByteArray.size a0) : Int))) (K (.p4 a0 true)) (cond (inB (0 : Int) (ByteArray.size a0)) ((spec_l2Digit n (bt a0 (0 : Int))).bind fun r4 => K (.p4 a0 r4)) (none)))
  | .p4 y1 y2 => cond y2 (some false) (K (.p15 y1 (0 : Int)))
  | .p15 y1 y2 => cond (decide (y2 < ((ByteArray.size y1) : Int))) (cond (inB y2 (ByteArray.size y1)) ((spec_l2Letter n (bt y1 y2)).bind fun r5 => cond (!r5) (cond (inB y2 (ByteArray.size y1)) ((spec_l2Digit n (bt y1 y2)).bind fun r6 => cond (!r6) (cond (inB y2 (ByteArray.size y1)) (K (.p24 y1 y2 (!(decide ((bt y1 y2) = (95 : Int)))))) (none)) (K (.p24 y1 y2 false))) (none)) (K (.p24 y1 y2 false))) (none)) (some true)
  | .p24 y1 y2 y3 => cond y3 (some false) (K (.p15 y1 (IntKind.wrap .i64 (y2 + (1 : Int)))))
def spec_l2Name (n : Nat) (a0 : ByteArray) : Option (Tup [.bool]) := goRec spec_l2Name.step n (.p0 a0)
def spec_l2Name.spec : Ctr := ⟨96, [.v .str], [.bool], [], fun n x => spec_l2Name n x.1⟩
theorem spec_l2Name.seg_eq (n : Nat) (goto : Nat → St → Option (Tup [.bool])) (y : spec_l2Name.Pt) : seg ⟨ty, gl, spec_l2Name.md, calOf spec_l2Name.T n⟩ spec_l2Name.F.np spec_l2Name.F.ks goto (spec_l2Name.F.fin ⟨ty, gl, spec_l2Name.md, calOf spec_l2Name.T 0⟩ [.bool]) spec_l2Name.F.c (spec_l2Name.lb y) (spec_l2Name.st y) = spec_l2Name.step n (fun z => goto (spec_l2Name.lb z) (spec_l2Name.st z)) y := by
  cases y <;> kernel_rfl
theorem spec_l2Name.text : Text Go.Proofs.Try.prog spec_l2Name.F spec_l2Name.spec := ⟨⟨Go.Proofs.Try.f96, by kernel_rfl, by kernel_rfl, by decide +kernel, by kernel_rfl, by kernel_rfl, of_decide_eq_true (by kernel_rfl)⟩, fun _ => rfl, fun _ => rfl, rfl⟩
theorem spec_l2Name.ok : CtrOK Go.Proofs.Try.prog gl spec_l2Name.spec :=
  ctr_ok (T := spec_l2Name.T) (F := spec_l2Name.F) (lb := spec_l2Name.lb) (st := spec_l2Name.st) (step := spec_l2Name.step) (md := spec_l2Name.md) tabs spec_l2Name.text spec_l2Name.seg_eq (fun n x => ⟨.p0 x.1, rfl, rfl, rfl⟩) (consC spec_l2Digit.ok (consC spec_l2Letter.ok (nilC)))

/-! loop.example/g00039/spec.l2Printed -/
def spec_l2Printed.T : List Ctr := []
def spec_l2Printed.md : List (Nat × List Md) := []
noncomputable def spec_l2Printed.F : Fun := ⟨(Go.Proofs.Try.f156.body).getD .skip, [.v .str], [(.tmp 2, .bool)], [], 0, [(7, ⟨[0, 3], [], []⟩)]⟩
inductive spec_l2Printed.Pt where
  | p0 (a0 : ByteArray)
  | p7 (y1 : ByteArray) (y2 : Int)
def spec_l2Printed.lb : spec_l2Printed.Pt → Nat
  | .p0 _ => 0
  | .p7 _ _ => 7
def spec_l2Printed.st : spec_l2Printed.Pt → St
  | .p0 a0 => enter [.v .str a0] 0
  | .p7 y1 y2 => ⟨[(0, .im .str y1), (3, .im (.int .i64) y2)], [], 0⟩
def spec_l2Printed.step (n : Nat) (K : spec_l2Printed.Pt → Option (Tup [.bool])) : spec_l2Printed.Pt → Option (Tup [.bool])
  | .p0 a0 => K (.p7 a0 (0 : Int))
  | .p7 y1 y2 => cond (decide (y2 < ((ByteArray.size y1) : Int))) (cond (inB y2 (ByteArray.size y1)) (cond (decide ((bt y1 y2) < (32 : Int))) (some false) (cond (inB y2 (ByteArray.size y1)) (cond (decide ((126 : Int) < (bt y1 y2))) (some false) (K (.p7 y1 (IntKind.wrap .i64 (y2 + (1 : Int)))))) (none))) (none)) (some true)
def spec_l2Printed (n : Nat) (a0 : ByteArray) : Option (Tup [.bool]) := goRec spec_l2Printed.step n (.p0 a0)
def spec_l2Printed.spec : Ctr := ⟨156, [.v .str], [.bool], [], fun n x => spec_l2Printed n x.1⟩
theorem spec_l2Printed.seg_eq (n : Nat) (goto : Nat → St → Option (Tup [.bool])) (y : spec_l2Printed.Pt) : seg ⟨ty, gl, spec_l2Printed.md, calOf spec_l2Printed.T n⟩ spec_l2Printed.F.np spec_l2Printed.F.ks goto (spec_l2Printed.F.fin ⟨ty, gl, spec_l2Printed.md, calOf spec_l2Printed.T 0⟩ [.bool]) spec_l2Printed.F.c (spec_l2Printed.lb y) (spec_l2Printed.st y) = spec_l2Printed.step n (fun z => goto (spec_l2Printed.lb z) (spec_l2Printed.st z)) y := by
  cases y <;> kernel_rfl
theorem spec_l2Printed.text : Text Go.Proofs.Try.prog spec_l2Printed.F spec_l2Printed.spec := ⟨⟨Go.Proofs.Try.f156, by kernel_rfl, by kernel_rfl, by decide +kernel, by kernel_rfl, by kernel_rfl, of_decide_eq_true (by kernel_rfl)⟩, fun _ => rfl, fun _ => rfl, rfl⟩
theorem spec_l2Printed.ok : CtrOK Go.Proofs.Try.prog gl spec_l2Printed.spec :=
  ctr_ok (T := spec_l2Printed.T) (F := spec_l2Printed.F) (lb := spec_l2Printed.lb) (st := spec_l2Printed.st) (step := spec_l2Printed.step) (md := spec_l2Printed.md) tabs spec_l2Printed.text spec_l2Printed.seg_eq (fun n x => ⟨.p0 x.1, rfl, rfl, rfl⟩) (nilC)

/-! loop.example/g00039/spec.l2Alternatives -/
def spec_l2Alternatives.T : List Ctr := [spec_l2Printed.spec]
def spec_l2Alternatives.md : List (Nat × List Md) := []
noncomputable def spec_l2Alternatives.F : Fun := ⟨(Go.Proofs.Try.f194.body).getD .skip, [.v .str], [(.tmp 2, (.sl false (.sl false (.int .i64)))), (.tmp 3, .bool)], [], 0, [(8, ⟨[0, 4, 5, 14], [(4, (.sl false (.int .i64))), (5, (.int .i64))], []⟩), (19, ⟨[0, 4, 5, 6], [(4, (.sl false (.int .i64))), (5, (.int .i64))], []⟩), (51, ⟨[0, 4, 5, 6, 78], [(4, (.sl false (.int .i64))), (5, (.int .i64))], []⟩)]⟩
inductive spec_l2Alternatives.Pt where
  | p0 (a0 : ByteArray)
  | p8 (y1 : ByteArray) (y2 : Bool) (y3 : List (List (Int))) (y4 : List (Int))
  | p19 (y1 : ByteArray) (y2 : Int) (y3 : List (List (Int))) (y4 : List (Int))
  | p51 (y1 : ByteArray) (y2 : Int) (y3 : Bool) (y4 : List (List (Int))) (y5 : List (Int))
def spec_l2Alternatives.lb : spec_l2Alternatives.Pt → Nat
  | .p0 _ => 0
  | .p8 _ _ _ _ => 8
  | .p19 _ _ _ _ => 19
  | .p51 _ _ _ _ _ => 51
def spec_l2Alternatives.st : spec_l2Alternatives.Pt → St
  | .p0 a0 => enter [.v .str a0] 0
  | .p8 y1 y2 y3 y4 => ⟨[(0, .im .str y1), (4, .hs 0 [] none 0), (5, .hs 1 [] none 0), (14, .im .bool y2)], [(0, .arr true (.sl false (.int .i64)) y3 0), (1, .arr true (.int .i64) y4 0)], 2⟩
  | .p19 y1 y2 y3 y4 => ⟨[(0, .im .str y1), (4, .hs 0 [] none 0), (5, .hs 1 [] none 0), (6, .im (.int .i64) y2)], [(0, .arr true (.sl false (.int .i64)) y3 0), (1, .arr true (.int .i64) y4 0)], 2⟩
  | .p51 y1 y2 y3 y4 y5 => ⟨[(0, .im .str y1), (4, .hs 0 [] none 0), (5, .hs 1 [] none 0), (6, .im (.int .i64) y2), (78, .im .bool y3)], [(0, .arr true (.sl false (.int .i64)) y4 0), (1, .arr true (.int .i64) y5 0)], 2⟩
def spec_l2Alternatives.step (n : Nat) (K : spec_l2Alternatives.Pt → Option (Tup [(.sl false (.sl false (.int .i64))), .bool])) : spec_l2Alternatives.Pt → Option (Tup [(.sl false (.sl false (.int .i64))), .bool])
  | .p0 a0 => cond (decide ((100 : Int) < ((ByteArray.size a0) : Int))) (K (.p8 a0 true ([] : List (List (Int))) ([] : List (Int)))) ((spec_l2Printed n a0).bind fun r4 => K (.p8 a0 (!r4) ([] : List (List (Int))) ([] : List (Int))))
  | .p8 y1 y2 y3 y4 => cond y2 (some (([] : List (List (Int))), false)) (K (.p19 y1 (0 : Int) y3 y4))
  | .p19 y1 y2 y3 y4 => cond (decide (y2 < ((ByteArray.size y1) : Int))) (cond (inB y2 (ByteArray.size y1)) (cond (decide ((bt y1 y2) = (124 : Int))) (cond (room ((List.length y3) + (List.length [y4]))) (K (.p19 y1 (IntKind.wrap .i64 (y2 + (1 : Int))) (y3 ++ [y4]) ([] : List (Int)))) (none)) (cond (decide ((bt y1 y2) = (42 : Int))) (cond (room ((List.length y4) + (List.length [(-(1 : Int))]))) (K (.p19 y1 (IntKind.wrap .i64 (y2 + (1 : Int))) y3 (y4 ++ [(-(1 : Int))]))) (none)) (cond (decide ((bt y1 y2) = (63 : Int))) (cond (room ((List.length y4) + (List.length [(-(2 : Int))]))) (K (.p19 y1 (IntKind.wrap .i64 (y2 + (1 : Int))) y3 (y4 ++ [(-(2 : Int))]))) (none)) (cond (decide ((bt y1 y2) = (92 : Int))) (cond (decide ((IntKind.wrap .i64 (y2 + (1 : Int))) = ((ByteArray.size y1) : Int))) (K (.p51 y1 (IntKind.wrap .i64 (y2 + (1 : Int))) true y3 y4)) (cond (inB (IntKind.wrap .i64 (y2 + (1 : Int))) (ByteArray.size y1)) (cond (!(decide ((bt y1 (IntKind.wrap .i64 (y2 + (1 : Int)))) = (42 : Int)))) (cond (inB (IntKind.wrap .i64 (y2 + (1 : Int))) (ByteArray.size y1)) (cond (!(decide ((bt y1 (IntKind.wrap .i64 (y2 + (1 : Int)))) = (63 : Int)))) (cond (inB (IntKind.wrap .i64 (y2 + (1 : Int))) (ByteArray.size y1)) (cond (!(decide ((bt y1 (IntKind.wrap .i64 (y2 + (1 : Int)))) = (124 : Int)))) (cond (inB (IntKind.wrap .i64 (y2 + (1 : Int))) (ByteArray.size y1)) (K (.p51 y1 (IntKind.wrap .i64 (y2 + (1 : Int))) (!(decide ((bt y1 (IntKind.wrap .i64 (y2 + (1 : Int)))) = (92 : Int)))) y3 y4)) (none)) (K (.p51 y1 (IntKind.wrap .i64 (y2 + (1 : Int))) false y3 y4))) (none)) (K (.p51 y1 (IntKind.wrap .i64 (y2 + (1 : Int))) false y3 y4))) (none)) (K (.p51 y1 (IntKind.wrap .i64 (y2 + (1 : Int))) false y3 y4))) (none))) (cond (inB y2 (ByteArray.size y1)) (cond (room ((List.length y4) + (List.length [(IntKind.wrap .i64 (bt y1 y2))]))) (K (.p19 y1 (IntKind.wrap .i64 (y2 + (1 : Int))) y3 (y4 ++ [(IntKind.wrap .i64 (bt y1 y2))]))) (none)) (none)))))) (none)) (cond (room ((List.length y3) + (List.length [y4]))) (some ((y3 ++ [y4]), true)) (none))
  | .p51 y1 y2 y3 y4 y5 => cond y3 (some (([] : List (List (Int))), false)) (cond (inB y2 (ByteArray.size y1)) (cond (room ((List.length y5) + (List.length [(IntKind.wrap .i64 (bt y1 y2))]))) (K (.p19 y1 (IntKind.wrap .i64 (y2 + (1 : Int))) y4 (y5 ++ [(IntKind.wrap .i64 (bt y1 y2))]))) (none)) (none))
def spec_l2Alternatives (n : Nat) (a0 : ByteArray) : Option (Tup [(.sl false (.sl false (.int .i64))), .bool]) := goRec spec_l2Alternatives.step n (.p0 a0)
def spec_l2Alternatives.spec : Ctr := ⟨194, [.v .str], [(.sl false (.sl false (.int .i64))), .bool], [], fun n x => spec_l2Alternatives n x.1⟩
theorem spec_l2Alternatives.seg_eq (n : Nat) (goto : Nat → St → Option (Tup [(.sl false (.sl false (.int .i64))), .bool])) (y : spec_l2Alternatives.Pt) : seg ⟨ty, gl, spec_l2Alternatives.md, calOf spec_l2Alternatives.T n⟩ spec_l2Alternatives.F.np spec_l2Alternatives.F.ks goto (spec_l2Alternatives.F.fin ⟨ty, gl, spec_l2Alternatives.md, calOf spec_l2Alternatives.T 0⟩ [(.sl false (.sl false (.int .i64))), .bool]) spec_l2Alternatives.F.c (spec_l2Alternatives.lb y) (spec_l2Alternatives.st y) = spec_l2Alternatives.step n (fun z => goto (spec_l2Alternatives.lb z) (spec_l2Alternatives.st z)) y := by
  cases y <;> kernel_rfl
theorem spec_l2Alternatives.text : Text Go.Proofs.Try.prog spec_l2Alternatives.F spec_l2Alternatives.spec := ⟨⟨Go.Proofs.Try.f194, by kernel_rfl, by kernel_rfl, by decide +kernel, by kernel_rfl, by kernel_rfl, of_decide_eq_true (by kernel_rfl)⟩, fun _ => rfl, fun _ => rfl, rfl⟩
theorem spec_l2Alternatives.ok : CtrOK Go.Proofs.Try.prog gl spec_l2Alternatives.spec :=
  ctr_ok (T := spec_l2Alternatives.T) (F := spec_l2Alternatives.F) (lb := spec_l2Alternatives.lb) (st := spec_l2Alternatives.st) (step := spec_l2Alternatives.step) (md := spec_l2Alternatives.md) tabs spec_l2Alternatives.text spec_l2Alternatives.seg_eq (fun n x => ⟨.p0 x.1, rfl, rfl, rfl⟩) (consC spec_l2Printed.ok (nilC))

/-! loop.example/g00039/spec.GoodPattern -/
def spec_GoodPattern.T : List Ctr := [spec_l2Alternatives.spec]
def spec_GoodPattern.md : List (Nat × List Md) := []
noncomputable def spec_GoodPattern.F : Fun := ⟨(Go.Proofs.Try.f157.body).getD .skip, [.v .str], [(.tmp 2, .bool)], [], 0, []⟩
inductive spec_GoodPattern.Pt where
  | p0 (a0 : ByteArray)
def spec_GoodPattern.lb : spec_GoodPattern.Pt → Nat
  | .p0 _ => 0
def spec_GoodPattern.st : spec_GoodPattern.Pt → St
  | .p0 a0 => enter [.v .str a0] 0
def spec_GoodPattern.step (n : Nat) (K : spec_GoodPattern.Pt → Option (Tup [.bool])) : spec_GoodPattern.Pt → Option (Tup [.bool])
  | .p0 a0 => (spec_l2Alternatives n a0).bind fun r4 => some r4.2
def spec_GoodPattern (n : Nat) (a0 : ByteArray) : Option (Tup [.bool]) := goRec spec_GoodPattern.step n (.p0 a0)
def spec_GoodPattern.spec : Ctr := ⟨157, [.v .str], [.bool], [], fun n x => spec_GoodPattern n x.1⟩
theorem spec_GoodPattern.seg_eq (n : Nat) (goto : Nat → St → Option (Tup [.bool])) (y : spec_GoodPattern.Pt) : seg ⟨ty, gl, spec_GoodPattern.md, calOf spec_GoodPattern.T n⟩ spec_GoodPattern.F.np spec_GoodPattern.F.ks goto (spec_GoodPattern.F.fin ⟨ty, gl, spec_GoodPattern.md, calOf spec_GoodPattern.T 0⟩ [.bool]) spec_GoodPattern.F.c (spec_GoodPattern.lb y) (spec_GoodPattern.st y) = spec_GoodPattern.step n (fun z => goto (spec_GoodPattern.lb z) (spec_GoodPattern.st z)) y := by
  cases y <;> kernel_rfl
theorem spec_GoodPattern.text : Text Go.Proofs.Try.prog spec_GoodPattern.F spec_GoodPattern.spec := ⟨⟨Go.Proofs.Try.f157, by kernel_rfl, by kernel_rfl, by decide +kernel, by kernel_rfl, by kernel_rfl, of_decide_eq_true (by kernel_rfl)⟩, fun _ => rfl, fun _ => rfl, rfl⟩
theorem spec_GoodPattern.ok : CtrOK Go.Proofs.Try.prog gl spec_GoodPattern.spec :=
  ctr_ok (T := spec_GoodPattern.T) (F := spec_GoodPattern.F) (lb := spec_GoodPattern.lb) (st := spec_GoodPattern.st) (step := spec_GoodPattern.step) (md := spec_GoodPattern.md) tabs spec_GoodPattern.text spec_GoodPattern.seg_eq (fun n x => ⟨.p0 x.1, rfl, rfl, rfl⟩) (consC spec_l2Alternatives.ok (nilC))

/-! loop.example/g00039/spec.GoodMatchers -/
def spec_GoodMatchers.T : List Ctr := [spec_l2Name.spec, spec_l2Printed.spec, spec_GoodPattern.spec]
def spec_GoodMatchers.md : List (Nat × List Md) := []
noncomputable def spec_GoodMatchers.F : Fun := ⟨(Go.Proofs.Try.f97.body).getD .skip, [.v (.sl false (.pair .str (.pair (.int .i64) (.pair .str .unit))))], [(.tmp 2, .bool)], [], 0, [(15, ⟨[8, 9, 10], [(8, (.pair .str (.pair (.int .i64) (.pair .str .unit))))], []⟩), (26, ⟨[8, 9, 10, 50], [(8, (.pair .str (.pair (.int .i64) (.pair .str .unit))))], []⟩)]⟩
inductive spec_GoodMatchers.Pt where
  | p0 (a0 : List ((ByteArray) × ((Int) × ((ByteArray) × (Unit)))))
  | p15 (y1 : List ((ByteArray) × ((Int) × ((ByteArray) × (Unit))))) (y2 : Int) (y3 : Int)
  | p26 (y1 : List ((ByteArray) × ((Int) × ((ByteArray) × (Unit))))) (y2 : Int) (y3 : Int) (y4 : Bool)
def spec_GoodMatchers.lb : spec_GoodMatchers.Pt → Nat
  | .p0 _ => 0
  | .p15 _ _ _ => 15
  | .p26 _ _ _ _ => 26
def spec_GoodMatchers.st : spec_GoodMatchers.Pt → St
  | .p0 a0 => enter [.v (.sl false (.pair .str (.pair (.int .i64) (.pair .str .unit)))) a0] 0
  | .p15 y1 y2 y3 => ⟨[(8, .im (.sl false (.pair .str (.pair (.int .i64) (.pair .str .unit)))) y1), (9, .im (.int .i64) y2), (10, .im (.int .i64) y3)], [], 0⟩
  | .p26 y1 y2 y3 y4 => ⟨[(8, .im (.sl false (.pair .str (.pair (.int .i64) (.pair .str .unit)))) y1), (9, .im (.int .i64) y2), (10, .im (.int .i64) y3), (50, .im .bool y4)], [], 0⟩
def spec_GoodMatchers.step (n : Nat) (K : spec_GoodMatchers.Pt → Option (Tup [.bool])) : spec_GoodMatchers.Pt → Option (Tup [.bool])
  | .p0 a0 => cond (decide ((10 : Int) < ((List.length a0) : Int))) (some false) (K (.p15 a0 ((List.length a0) : Int) (0 : Int)))
  | .p15 y1 y2 y3 => cond (decide (y3 < y2)) (cond (inB y3 (List.length y1)) ((spec_l2Name n (List.getD y1 (Int.toNat y3) default).1).bind fun r6 => cond (!r6) (K (.p26 y1 y2 y3 true)) (cond (decide ((List.getD y1 (Int.toNat y3) default).2.1 < (1 : Int))) (K (.p26 y1 y2 y3 true)) (cond (decide ((4 : Int) < (List.getD y1 (Int.toNat y3) default).2.1)) (K (.p26 y1 y2 y3 true)) (cond (decide ((100 : Int) < ((ByteArray.size (List.getD y1 (Int.toNat y3) default).2.2.1) : Int))) (K (.p26 y1 y2 y3 true)) ((spec_l2Printed n (List.getD y1 (Int.toNat y3) default).2.2.1).bind fun r7 => cond (!r7) (K (.p26 y1 y2 y3 true)) (cond (decide ((3 : Int) ≤ (List.getD y1 (Int.toNat y3) default).2.1)) ((spec_GoodPattern n (List.getD y1 (Int.toNat y3) default).2.2.1).bind fun r8 => K (.p26 y1 y2 y3 (!r8))) (K (.p26 y1 y2 y3 false)))))))) (none)) (some true)
  | .p26 y1 y2 y3 y4 => cond y4 (some false) (K (.p15 y1 y2 (IntKind.wrap .i64 (y3 + (1 : Int)))))
def spec_GoodMatchers (n : Nat) (a0 : List ((ByteArray) × ((Int) × ((ByteArray) × (Unit))))) : Option (Tup [.bool]) := goRec spec_GoodMatchers.step n (.p0 a0)
def spec_GoodMatchers.spec : Ctr := ⟨97, [.v (.sl false (.pair .str (.pair (.int .i64) (.pair .str .unit))))], [.bool], [], fun n x => spec_GoodMatchers n x.1⟩
theorem spec_GoodMatchers.seg_eq (n : Nat) (goto : Nat → St → Option (Tup [.bool])) (y : spec_GoodMatchers.Pt) : seg ⟨ty, gl, spec_GoodMatchers.md, calOf spec_GoodMatchers.T n⟩ spec_GoodMatchers.F.np spec_GoodMatchers.F.ks goto (spec_GoodMatchers.F.fin ⟨ty, gl, spec_GoodMatchers.md, calOf spec_GoodMatchers.T 0⟩ [.bool]) spec_GoodMatchers.F.c (spec_GoodMatchers.lb y) (spec_GoodMatchers.st y) = spec_GoodMatchers.step n (fun z => goto (spec_GoodMatchers.lb z) (spec_GoodMatchers.st z)) y := by
  cases y <;> kernel_rfl
theorem spec_GoodMatchers.text : Text Go.Proofs.Try.prog spec_GoodMatchers.F spec_GoodMatchers.spec := ⟨⟨Go.Proofs.Try.f97, by kernel_rfl, by kernel_rfl, by decide +kernel, by kernel_rfl, by kernel_rfl, of_decide_eq_true (by kernel_rfl)⟩, fun _ => rfl, fun _ => rfl, rfl⟩
theorem spec_GoodMatchers.ok : CtrOK Go.Proofs.Try.prog gl spec_GoodMatchers.spec :=
  ctr_ok (T := spec_GoodMatchers.T) (F := spec_GoodMatchers.F) (lb := spec_GoodMatchers.lb) (st := spec_GoodMatchers.st) (step := spec_GoodMatchers.step) (md := spec_GoodMatchers.md) tabs spec_GoodMatchers.text spec_GoodMatchers.seg_eq (fun n x => ⟨.p0 x.1, rfl, rfl, rfl⟩) (consC spec_l2Name.ok (consC spec_l2Printed.ok (consC spec_GoodPattern.ok (nilC))))

/-! loop.example/g00039/spec.l2CmpNum -/
def spec_l2CmpNum.T : List Ctr := []
def spec_l2CmpNum.md : List (Nat × List Md) := []
noncomputable def spec_l2CmpNum.F : Fun := ⟨(Go.Proofs.Try.f158.body).getD .skip, [.v (.int .i64), .v (.int .i64)], [(.tmp 4, (.int .i64))], [], 0, []⟩
inductive spec_l2CmpNum.Pt where
  | p0 (a0 : Int) (a1 : Int)
def spec_l2CmpNum.lb : spec_l2CmpNum.Pt → Nat
  | .p0 _ _ => 0
def spec_l2CmpNum.st : spec_l2CmpNum.Pt → St
  | .p0 a0 a1 => enter [.v (.int .i64) a0, .v (.int .i64) a1] 0
def spec_l2CmpNum.step (n : Nat) (K : spec_l2CmpNum.Pt → Option (Tup [(.int .i64)])) : spec_l2CmpNum.Pt → Option (Tup [(.int .i64)])
  | .p0 a0 a1 => cond (decide (a0 < a1)) (some (-(1 : Int))) (cond (decide (a1 < a0)) (some (1 : Int)) (some (0 : Int)))
def spec_l2CmpNum (n : Nat) (a0 : Int) (a1 : Int) : Option (Tup [(.int .i64)]) := goRec spec_l2CmpNum.step n (.p0 a0 a1)
def spec_l2CmpNum.spec : Ctr := ⟨158, [.v (.int .i64), .v (.int .i64)], [(.int .i64)], [], fun n x => spec_l2CmpNum n x.1 x.2.1⟩
theorem spec_l2CmpNum.seg_eq (n : Nat) (goto : Nat → St → Option (Tup [(.int .i64)])) (y : spec_l2CmpNum.Pt) : seg ⟨ty, gl, spec_l2CmpNum.md, calOf spec_l2CmpNum.T n⟩ spec_l2CmpNum.F.np spec_l2CmpNum.F.ks goto (spec_l2CmpNum.F.fin ⟨ty, gl, spec_l2CmpNum.md, calOf spec_l2CmpNum.T 0⟩ [(.int .i64)]) spec_l2CmpNum.F.c (spec_l2CmpNum.lb y) (spec_l2CmpNum.st y) = spec_l2CmpNum.step n (fun z => goto (spec_l2CmpNum.lb z) (spec_l2CmpNum.st z)) y := by
  cases y <;> kernel_rfl
theorem spec_l2CmpNum.text : Text Go.Proofs.Try.prog spec_l2CmpNum.F spec_l2CmpNum.spec := ⟨⟨Go.Proofs.Try.f158, by kernel_rfl, by kernel_rfl, by decide +kernel, by kernel_rfl, by kernel_rfl, of_decide_eq_true (by kernel_rfl)⟩, fun _ => rfl, fun _ => rfl, rfl⟩
theorem spec_l2CmpNum.ok : CtrOK Go.Proofs.Try.prog gl spec_l2CmpNum.spec :=
  ctr_ok (T := spec_l2CmpNum.T) (F := spec_l2CmpNum.F) (lb := spec_l2CmpNum.lb) (st := spec_l2CmpNum.st) (step := spec_l2CmpNum.step) (md := spec_l2CmpNum.md) tabs spec_l2CmpNum.text spec_l2CmpNum.seg_eq (fun n x => ⟨.p0 x.1 x.2.1, rfl, rfl, rfl⟩) (nilC)

/-! loop.example/g00039/spec.l2CmpText -/
def spec_l2CmpText.T : List Ctr := [spec_l2CmpNum.spec]
def spec_l2CmpText.md : List (Nat × List Md) := []
noncomputable def spec_l2CmpText.F : Fun := ⟨(Go.Proofs.Try.f98.body).getD .skip, [.v .str, .v .str], [(.tmp 4, (.int .i64))], [], 0, [(7, ⟨[0, 1, 5], [], []⟩), (9, ⟨[0, 1, 5, 15], [], []⟩)]⟩
inductive spec_l2CmpText.Pt where
  | p0 (a0 : ByteArray) (a1 : ByteArray)
  | p7 (y1 : ByteArray) (y2 : ByteArray) (y3 : Int)
  | p9 (y1 : ByteArray) (y2 : ByteArray) (y3 : Int) (y4 : Bool)
def spec_l2CmpText.lb : spec_l2CmpText.Pt → Nat
  | .p0 _ _ => 0
  | .p7 _ _ _ => 7
  | .p9 _ _ _ _ => 9
def spec_l2CmpText.st : spec_l2CmpText.Pt → St
  | .p0 a0 a1 => enter [.v .str a0, .v .str a1] 0
  | .p7 y1 y2 y3 => ⟨[(0, .im .str y1), (1, .im .str y2), (5, .im (.int .i64) y3)], [], 0⟩
  | .p9 y1 y2 y3 y4 => ⟨[(0, .im .str y1), (1, .im .str y2), (5, .im (.int .i64) y3), (15, .im .bool y4)], [], 0⟩
def spec_l2CmpText.step (n : Nat) (K : spec_l2CmpText.Pt → Option (Tup [(.int .i64)])) : spec_l2CmpText.Pt → Option (Tup [(.int .i64)])
  | .p0 a0 a1 => K (.p7 a0 a1 (0 : Int))
  | .p7 y1 y2 y3 => cond (decide (y3 < ((ByteArray.size y1) : Int))) (K (.p9 y1 y2 y3 (decide (y3 < ((ByteArray.size y2) : Int))))) (K (.p9 y1 y2 y3 false))
  | .p9 y1 y2 y3 y4 => cond y4 (cond (inB y3 (ByteArray.size y1)) (cond (inB y3 (ByteArray.size y2)) (cond (!(decide ((bt y1 y3) = (bt y2 y3)))) (cond (inB y3 (ByteArray.size y1)) (cond (inB y3 (ByteArray.size y2)) ((spec_l2CmpNum n (IntKind.wrap .i64 (bt y1 y3)) (IntKind.wrap .i64 (bt y2 y3))).bind fun (r7 : Int) => some r7) (none)) (none)) (K (.p7 y1 y2 (IntKind.wrap .i64 (y3 + (1 : Int)))))) (none)) (none)) ((spec_l2CmpNum n ((ByteArray.size y1) : Int) ((ByteArray.size y2) : Int)).bind fun (r7 : Int) => some r7)
def spec_l2CmpText (n : Nat) (a0 : ByteArray) (a1 : ByteArray) : Option (Tup [(.int .i64)]) := goRec spec_l2CmpText.step n (.p0 a0 a1)
def spec_l2CmpText.spec : Ctr := ⟨98, [.v .str, .v .str], [(.int .i64)], [], fun n x => spec_l2CmpText n x.1 x.2.1⟩
theorem spec_l2CmpText.seg_eq (n : Nat) (goto : Nat → St → Option (Tup [(.int .i64)])) (y : spec_l2CmpText.Pt) : seg ⟨ty, gl, spec_l2CmpText.md, calOf spec_l2CmpText.T n⟩ spec_l2CmpText.F.np spec_l2CmpText.F.ks goto (spec_l2CmpText.F.fin ⟨ty, gl, spec_l2CmpText.md, calOf spec_l2CmpText.T 0⟩ [(.int .i64)]) spec_l2CmpText.F.c (spec_l2CmpText.lb y) (spec_l2CmpText.st y) = spec_l2CmpText.step n (fun z => goto (spec_l2CmpText.lb z) (spec_l2CmpText.st z)) y := by
  cases y <;> kernel_rfl
theorem spec_l2CmpText.text : Text Go.Proofs.Try.prog spec_l2CmpText.F spec_l2CmpText.spec := ⟨⟨Go.Proofs.Try.f98, by kernel_rfl, by kernel_rfl, by decide +kernel, by kernel_rfl, by kernel_rfl, of_decide_eq_true (by kernel_rfl)⟩, fun _ => rfl, fun _ => rfl, rfl⟩
theorem spec_l2CmpText.ok : CtrOK Go.Proofs.Try.prog gl spec_l2CmpText.spec :=
  ctr_ok (T := spec_l2CmpText.T) (F := spec_l2CmpText.F) (lb := spec_l2CmpText.lb) (st := spec_l2CmpText.st) (step := spec_l2CmpText.step) (md := spec_l2CmpText.md) tabs spec_l2CmpText.text spec_l2CmpText.seg_eq (fun n x => ⟨.p0 x.1 x.2.1, rfl, rfl, rfl⟩) (consC spec_l2CmpNum.ok (nilC))

/-! loop.example/g00039/spec.l2Rising -/
def spec_l2Rising.T : List Ctr := [spec_l2CmpText.spec]
def spec_l2Rising.md : List (Nat × List Md) := []
noncomputable def spec_l2Rising.F : Fun := ⟨(Go.Proofs.Try.f169.body).getD .skip, [.v (.sl false .str)], [(.tmp 2, .bool)], [], 0, [(7, ⟨[0, 3], [], []⟩)]⟩
inductive spec_l2Rising.Pt where
  | p0 (a0 : List (ByteArray))
  | p7 (y1 : List (ByteArray)) (y2 : Int)
def spec_l2Rising.lb : spec_l2Rising.Pt → Nat
  | .p0 _ => 0
  | .p7 _ _ => 7
def spec_l2Rising.st : spec_l2Rising.Pt → St
  | .p0 a0 => enter [.v (.sl false .str) a0] 0
  | .p7 y1 y2 => ⟨[(0, .im (.sl false .str) y1), (3, .im (.int .i64) y2)], [], 0⟩
def spec_l2Rising.step (n : Nat) (K : spec_l2Rising.Pt → Option (Tup [.bool])) : spec_l2Rising.Pt → Option (Tup [.bool])
  | .p0 a0 => K (.p7 a0 (1 : Int))
  | .p7 y1 y2 => cond (decide (y2 < ((List.length y1) : Int))) (cond (inB (IntKind.wrap .i64 (y2 - (1 : Int))) (List.length y1)) (cond (inB y2 (List.length y1)) ((spec_l2CmpText n (List.getD y1 (Int.toNat (IntKind.wrap .i64 (y2 - (1 : Int)))) default) (List.getD y1 (Int.toNat y2) default)).bind fun (r5 : Int) => cond (decide ((0 : Int) ≤ r5)) (some false) (K (.p7 y1 (IntKind.wrap .i64 (y2 + (1 : Int)))))) (none)) (none)) (some true)
def spec_l2Rising (n : Nat) (a0 : List (ByteArray)) : Option (Tup [.bool]) := goRec spec_l2Rising.step n (.p0 a0)
def spec_l2Rising.spec : Ctr := ⟨169, [.v (.sl false .str)], [.bool], [], fun n x => spec_l2Rising n x.1⟩
theorem spec_l2Rising.seg_eq (n : Nat) (goto : Nat → St → Option (Tup [.bool])) (y : spec_l2Rising.Pt) : seg ⟨ty, gl, spec_l2Rising.md, calOf spec_l2Rising.T n⟩ spec_l2Rising.F.np spec_l2Rising.F.ks goto (spec_l2Rising.F.fin ⟨ty, gl, spec_l2Rising.md, calOf spec_l2Rising.T 0⟩ [.bool]) spec_l2Rising.F.c (spec_l2Rising.lb y) (spec_l2Rising.st y) = spec_l2Rising.step n (fun z => goto (spec_l2Rising.lb z) (spec_l2Rising.st z)) y := by
  cases y <;> kernel_rfl
theorem spec_l2Rising.text : Text Go.Proofs.Try.prog spec_l2Rising.F spec_l2Rising.spec := ⟨⟨Go.Proofs.Try.f169, by kernel_rfl, by kernel_rfl, by decide +kernel, by kernel_rfl, by kernel_rfl, of_decide_eq_true (by kernel_rfl)⟩, fun _ => rfl, fun _ => rfl, rfl⟩
theorem spec_l2Rising.ok : CtrOK Go.Proofs.Try.prog gl spec_l2Rising.spec :=
  ctr_ok (T := spec_l2Rising.T) (F := spec_l2Rising.F) (lb := spec_l2Rising.lb) (st := spec_l2Rising.st) (step := spec_l2Rising.step) (md := spec_l2Rising.md) tabs spec_l2Rising.text spec_l2Rising.seg_eq (fun n x => ⟨.p0 x.1, rfl, rfl, rfl⟩) (consC spec_l2CmpText.ok (nilC))

/-! loop.example/g00039/spec.l15Names -/
def spec_l15Names.T : List Ctr := [spec_l2Name.spec, spec_l2Rising.spec]
def spec_l15Names.md : List (Nat × List Md) := []
noncomputable def spec_l15Names.F : Fun := ⟨(Go.Proofs.Try.f108.body).getD .skip, [.v (.sl false .str)], [(.tmp 2, .bool)], [], 0, [(7, ⟨[0, 5, 6, 7], [(5, .str)], []⟩)]⟩
inductive spec_l15Names.Pt where
  | p0 (a0 : List (ByteArray))
  | p7 (y1 : List (ByteArray)) (y2 : List (ByteArray)) (y3 : Int) (y4 : Int)
def spec_l15Names.lb : spec_l15Names.Pt → Nat
  | .p0 _ => 0
  | .p7 _ _ _ _ => 7
def spec_l15Names.st : spec_l15Names.Pt → St
  | .p0 a0 => enter [.v (.sl false .str) a0] 0
  | .p7 y1 y2 y3 y4 => ⟨[(0, .im (.sl false .str) y1), (5, .im (.sl false .str) y2), (6, .im (.int .i64) y3), (7, .im (.int .i64) y4)], [], 0⟩
def spec_l15Names.step (n : Nat) (K : spec_l15Names.Pt → Option (Tup [.bool])) : spec_l15Names.Pt → Option (Tup [.bool])
  | .p0 a0 => K (.p7 a0 a0 ((List.length a0) : Int) (0 : Int))
  | .p7 y1 y2 y3 y4 => cond (decide (y4 < y3)) (cond (inB y4 (List.length y2)) ((spec_l2Name n (List.getD y2 (Int.toNat y4) default)).bind fun r7 => cond (!r7) (some false) (K (.p7 y1 y2 y3 (IntKind.wrap .i64 (y4 + (1 : Int)))))) (none)) (cond (decide (((List.length y1) : Int) ≤ (10 : Int))) ((spec_l2Rising n y1).bind fun r7 => some r7) (some false))
def spec_l15Names (n : Nat) (a0 : List (ByteArray)) : Option (Tup [.bool]) := goRec spec_l15Names.step n (.p0 a0)
def spec_l15Names.spec : Ctr := ⟨108, [.v (.sl false .str)], [.bool], [], fun n x => spec_l15Names n x.1⟩
theorem spec_l15Names.seg_eq (n : Nat) (goto : Nat → St → Option (Tup [.bool])) (y : spec_l15Names.Pt) : seg ⟨ty, gl, spec_l15Names.md, calOf spec_l15Names.T n⟩ spec_l15Names.F.np spec_l15Names.F.ks goto (spec_l15Names.F.fin ⟨ty, gl, spec_l15Names.md, calOf spec_l15Names.T 0⟩ [.bool]) spec_l15Names.F.c (spec_l15Names.lb y) (spec_l15Names.st y) = spec_l15Names.step n (fun z => goto (spec_l15Names.lb z) (spec_l15Names.st z)) y := by
  cases y <;> kernel_rfl
theorem spec_l15Names.text : Text Go.Proofs.Try.prog spec_l15Names.F spec_l15Names.spec := ⟨⟨Go.Proofs.Try.f108, by kernel_rfl, by kernel_rfl, by decide +kernel, by kernel_rfl, by kernel_rfl, of_decide_eq_true (by kernel_rfl)⟩, fun _ => rfl, fun _ => rfl, rfl⟩
theorem spec_l15Names.ok : CtrOK Go.Proofs.Try.prog gl spec_l15Names.spec :=
  ctr_ok (T := spec_l15Names.T) (F := spec_l15Names.F) (lb := spec_l15Names.lb) (st := spec_l15Names.st) (step := spec_l15Names.step) (md := spec_l15Names.md) tabs spec_l15Names.text spec_l15Names.seg_eq (fun n x => ⟨.p0 x.1, rfl, rfl, rfl⟩) (consC spec_l2Name.ok (consC spec_l2Rising.ok (nilC)))

/-! loop.example/g00039/spec.GoodInhibits -/
def spec_GoodInhibits.T : List Ctr := [spec_GoodMatchers.spec, spec_l15Names.spec]
def spec_GoodInhibits.md : List (Nat × List Md) := []
noncomputable def spec_GoodInhibits.F : Fun := ⟨(Go.Proofs.Try.f61.body).getD .skip, [.v (.sl false (.pair (.sl false (.pair .str (.pair (.int .i64) (.pair .str .unit)))) (.pair (.sl false (.pair .str (.pair (.int .i64) (.pair .str .unit)))) (.pair (.sl false .str) .unit))))], [(.tmp 2, .bool)], [], 0, [(7, ⟨[0, 5, 6, 7], [(5, (.pair (.sl false (.pair .str (.pair (.int .i64) (.pair .str .unit)))) (.pair (.sl false (.pair .str (.pair (.int .i64) (.pair .str .unit)))) (.pair (.sl false .str) .unit))))], []⟩), (18, ⟨[0, 5, 6, 7, 38], [(5, (.pair (.sl false (.pair .str (.pair (.int .i64) (.pair .str .unit)))) (.pair (.sl false (.pair .str (.pair (.int .i64) (.pair .str .unit)))) (.pair (.sl false .str) .unit))))], []⟩)]⟩
inductive spec_GoodInhibits.Pt where
  | p0 (a0 : List ((List ((ByteArray) × ((Int) × ((ByteArray) × (Unit))))) × ((List ((ByteArray) × ((Int) × ((ByteArray) × (Unit))))) × ((List (ByteArray)) × (Unit)))))
  | p7 (y1 : List ((List ((ByteArray) × ((Int) × ((ByteArray) × (Unit))))) × ((List ((ByteArray) × ((Int) × ((ByteArray) × (Unit))))) × ((List (ByteArray)) × (Unit))))) (y2 : List ((List ((ByteArray) × ((Int) × ((ByteArray) × (Unit))))) × ((List ((ByteArray) × ((Int) × ((ByteArray) × (Unit))))) × ((List (ByteArray)) × (Unit))))) (y3 : Int) (y4 : Int)
  | p18 (y1 : List ((List ((ByteArray) × ((Int) × ((ByteArray) × (Unit))))) × ((List ((ByteArray) × ((Int) × ((ByteArray) × (Unit))))) × ((List (ByteArray)) × (Unit))))) (y2 : List ((List ((ByteArray) × ((Int) × ((ByteArray) × (Unit))))) × ((List ((ByteArray) × ((Int) × ((ByteArray) × (Unit))))) × ((List (ByteArray)) × (Unit))))) (y3 : Int) (y4 : Int) (y5 : Bool)
def spec_GoodInhibits.lb : spec_GoodInhibits.Pt → Nat
  | .p0 _ => 0
  | .p7 _ _ _ _ => 7
  | .p18 _ _ _ _ _ => 18
def spec_GoodInhibits.st : spec_GoodInhibits.Pt → St
  | .p0 a0 => enter [.v (.sl false (.pair (.sl false (.pair .str (.pair (.int .i64) (.pair .str .unit)))) (.pair (.sl false (.pair .str (.pair (.int .i64) (.pair .str .unit)))) (.pair (.sl false .str) .unit)))) a0] 0
  | .p7 y1 y2 y3 y4 => ⟨[(0, .im (.sl false (.pair (.sl false (.pair .str (.pair (.int .i64) (.pair .str .unit)))) (.pair (.sl false (.pair .str (.pair (.int .i64) (.pair .str .unit)))) (.pair (.sl false .str) .unit)))) y1), (5, .im (.sl false (.pair (.sl false (.pair .str (.pair (.int .i64) (.pair .str .unit)))) (.pair (.sl false (.pair .str (.pair (.int .i64) (.pair .str .unit)))) (.pair (.sl false .str) .unit)))) y2), (6, .im (.int .i64) y3), (7, .im (.int .i64) y4)], [], 0⟩
  | .p18 y1 y2 y3 y4 y5 => ⟨[(0, .im (.sl false (.pair (.sl false (.pair .str (.pair (.int .i64) (.pair .str .unit)))) (.pair (.sl false (.pair .str (.pair (.int .i64) (.pair .str .unit)))) (.pair (.sl false .str) .unit)))) y1), (5, .im (.sl false (.pair (.sl false (.pair .str (.pair (.int .i64) (.pair .str .unit)))) (.pair (.sl false (.pair .str (.pair (.int .i64) (.pair .str .unit)))) (.pair (.sl false .str) .unit)))) y2), (6, .im (.int .i64) y3), (7, .im (.int .i64) y4), (38, .im .bool y5)], [], 0⟩
def spec_GoodInhibits.step (n : Nat) (K : spec_GoodInhibits.Pt → Option (Tup [.bool])) : spec_GoodInhibits.Pt → Option (Tup [.bool])
  | .p0 a0 => K (.p7 a0 a0 ((List.length a0) : Int) (0 : Int))
  | .p7 y1 y2 y3 y4 => cond (decide (y4 < y3)) (cond (inB y4 (List.length y2)) ((spec_GoodMatchers n (List.getD y2 (Int.toNat y4) default).1).bind fun r7 => cond (!r7) (K (.p18 y1 y2 y3 y4 true)) ((spec_GoodMatchers n (List.getD y2 (Int.toNat y4) default).2.1).bind fun r8 => cond (!r8) (K (.p18 y1 y2 y3 y4 true)) (cond (decide (((List.length (List.getD y2 (Int.toNat y4) default).1) : Int) = (0 : Int))) (K (.p18 y1 y2 y3 y4 true)) (cond (decide (((List.length (List.getD y2 (Int.toNat y4) default).2.1) : Int) = (0 : Int))) (K (.p18 y1 y2 y3 y4 true)) ((spec_l15Names n (List.getD y2 (Int.toNat y4) default).2.2.1).bind fun r9 => K (.p18 y1 y2 y3 y4 (!r9))))))) (none)) (some (decide (((List.length y1) : Int) ≤ (20 : Int))))
  | .p18 y1 y2 y3 y4 y5 => cond y5 (some false) (K (.p7 y1 y2 y3 (IntKind.wrap .i64 (y4 + (1 : Int)))))
def spec_GoodInhibits (n : Nat) (a0 : List ((List ((ByteArray) × ((Int) × ((ByteArray) × (Unit))))) × ((List ((ByteArray) × ((Int) × ((ByteArray) × (Unit))))) × ((List (ByteArray)) × (Unit))))) : Option (Tup [.bool]) := goRec spec_GoodInhibits.step n (.p0 a0)
def spec_GoodInhibits.spec : Ctr := ⟨61, [.v (.sl false (.pair (.sl false (.pair .str (.pair (.int .i64) (.pair .str .unit)))) (.pair (.sl false (.pair .str (.pair (.int .i64) (.pair .str .unit)))) (.pair (.sl false .str) .unit))))], [.bool], [], fun n x => spec_GoodInhibits n x.1⟩
theorem spec_GoodInhibits.seg_eq (n : Nat) (goto : Nat → St → Option (Tup [.bool])) (y : spec_GoodInhibits.Pt) : seg ⟨ty, gl, spec_GoodInhibits.md, calOf spec_GoodInhibits.T n⟩ spec_GoodInhibits.F.np spec_GoodInhibits.F.ks goto (spec_GoodInhibits.F.fin ⟨ty, gl, spec_GoodInhibits.md, calOf spec_GoodInhibits.T 0⟩ [.bool]) spec_GoodInhibits.F.c (spec_GoodInhibits.lb y) (spec_GoodInhibits.st y) = spec_GoodInhibits.step n (fun z => goto (spec_GoodInhibits.lb z) (spec_GoodInhibits.st z)) y := by
  cases y <;> kernel_rfl
theorem spec_GoodInhibits.text : Text Go.Proofs.Try.prog spec_GoodInhibits.F spec_GoodInhibits.spec := ⟨⟨Go.Proofs.Try.f61, by kernel_rfl, by kernel_rfl, by decide +kernel, by kernel_rfl, by kernel_rfl, of_decide_eq_true (by kernel_rfl)⟩, fun _ => rfl, fun _ => rfl, rfl⟩
theorem spec_GoodInhibits.ok : CtrOK Go.Proofs.Try.prog gl spec_GoodInhibits.spec :=
  ctr_ok (T := spec_GoodInhibits.T) (F := spec_GoodInhibits.F) (lb := spec_GoodInhibits.lb) (st := spec_GoodInhibits.st) (step := spec_GoodInhibits.step) (md := spec_GoodInhibits.md) tabs spec_GoodInhibits.text spec_GoodInhibits.seg_eq (fun n x => ⟨.p0 x.1, rfl, rfl, rfl⟩) (consC spec_GoodMatchers.ok (consC spec_l15Names.ok (nilC)))

/-! loop.example/g00039/spec.l2Value -/
def spec_l2Value.T : List Ctr := [spec_l2Printed.spec]
def spec_l2Value.md : List (Nat × List Md) := []
noncomputable def spec_l2Value.F : Fun := ⟨(Go.Proofs.Try.f99.body).getD .skip, [.v .str], [(.tmp 2, .bool)], [], 0, []⟩
inductive spec_l2Value.Pt where
  | p0 (a0 : ByteArray)
def spec_l2Value.lb : spec_l2Value.Pt → Nat
  | .p0 _ => 0
def spec_l2Value.st : spec_l2Value.Pt → St
  | .p0 a0 => enter [.v .str a0] 0
def spec_l2Value.step (n : Nat) (K : spec_l2Value.Pt → Option (Tup [.bool])) : spec_l2Value.Pt → Option (Tup [.bool])
  | .p0 a0 => cond (decide ((1 : Int) ≤ ((ByteArray.size a0) : Int))) (cond (decide (((ByteArray.size a0) : Int) ≤ (100 : Int))) ((spec_l2Printed n a0).bind fun r4 => some r4) (some false)) (some false)
def spec_l2Value (n : Nat) (a0 : ByteArray) : Option (Tup [.bool]) := goRec spec_l2Value.step n (.p0 a0)
def spec_l2Value.spec : Ctr := ⟨99, [.v .str], [.bool], [], fun n x => spec_l2Value n x.1⟩
theorem spec_l2Value.seg_eq (n : Nat) (goto : Nat → St → Option (Tup [.bool])) (y : spec_l2Value.Pt) : seg ⟨ty, gl, spec_l2Value.md, calOf spec_l2Value.T n⟩ spec_l2Value.F.np spec_l2Value.F.ks goto (spec_l2Value.F.fin ⟨ty, gl, spec_l2Value.md, calOf spec_l2Value.T 0⟩ [.bool]) spec_l2Value.F.c (spec_l2Value.lb y) (spec_l2Value.st y) = spec_l2Value.step n (fun z => goto (spec_l2Value.lb z) (spec_l2Value.st z)) y := by
  cases y <;> kernel_rfl
theorem spec_l2Value.text : Text Go.Proofs.Try.prog spec_l2Value.F spec_l2Value.spec := ⟨⟨Go.Proofs.Try.f99, by kernel_rfl, by kernel_rfl, by decide +kernel, by kernel_rfl, by kernel_rfl, of_decide_eq_true (by kernel_rfl)⟩, fun _ => rfl, fun _ => rfl, rfl⟩
theorem spec_l2Value.ok : CtrOK Go.Proofs.Try.prog gl spec_l2Value.spec :=
  ctr_ok (T := spec_l2Value.T) (F := spec_l2Value.F) (lb := spec_l2Value.lb) (st := spec_l2Value.st) (step := spec_l2Value.step) (md := spec_l2Value.md) tabs spec_l2Value.text spec_l2Value.seg_eq (fun n x => ⟨.p0 x.1, rfl, rfl, rfl⟩) (consC spec_l2Printed.ok (nilC))

/-! loop.example/g00039/spec.GoodLabels -/
def spec_GoodLabels.T : List Ctr := [spec_l2Name.spec, spec_l2CmpText.spec, spec_l2Value.spec]
def spec_GoodLabels.md : List (Nat × List Md) := []
noncomputable def spec_GoodLabels.F : Fun := ⟨(Go.Proofs.Try.f47.body).getD .skip, [.v (.sl false (.pair .str (.pair .str .unit)))], [(.tmp 2, .bool)], [], 0, [(15, ⟨[0, 8, 9, 10], [(8, (.pair .str (.pair .str .unit)))], []⟩), (26, ⟨[0, 8, 9, 10, 40], [(8, (.pair .str (.pair .str .unit)))], []⟩)]⟩
inductive spec_GoodLabels.Pt where
  | p0 (a0 : List ((ByteArray) × ((ByteArray) × (Unit))))
  | p15 (y1 : List ((ByteArray) × ((ByteArray) × (Unit)))) (y2 : List ((ByteArray) × ((ByteArray) × (Unit)))) (y3 : Int) (y4 : Int)
  | p26 (y1 : List ((ByteArray) × ((ByteArray) × (Unit)))) (y2 : List ((ByteArray) × ((ByteArray) × (Unit)))) (y3 : Int) (y4 : Int) (y5 : Bool)
def spec_GoodLabels.lb : spec_GoodLabels.Pt → Nat
  | .p0 _ => 0
  | .p15 _ _ _ _ => 15
  | .p26 _ _ _ _ _ => 26
def spec_GoodLabels.st : spec_GoodLabels.Pt → St
  | .p0 a0 => enter [.v (.sl false (.pair .str (.pair .str .unit))) a0] 0
  | .p15 y1 y2 y3 y4 => ⟨[(0, .im (.sl false (.pair .str (.pair .str .unit))) y1), (8, .im (.sl false (.pair .str (.pair .str .unit))) y2), (9, .im (.int .i64) y3), (10, .im (.int .i64) y4)], [], 0⟩
  | .p26 y1 y2 y3 y4 y5 => ⟨[(0, .im (.sl false (.pair .str (.pair .str .unit))) y1), (8, .im (.sl false (.pair .str (.pair .str .unit))) y2), (9, .im (.int .i64) y3), (10, .im (.int .i64) y4), (40, .im .bool y5)], [], 0⟩
def spec_GoodLabels.step (n : Nat) (K : spec_GoodLabels.Pt → Option (Tup [.bool])) : spec_GoodLabels.Pt → Option (Tup [.bool])
  | .p0 a0 => cond (decide ((20 : Int) < ((List.length a0) : Int))) (some false) (K (.p15 a0 a0 ((List.length a0) : Int) (0 : Int)))
  | .p15 y1 y2 y3 y4 => cond (decide (y4 < y3)) (cond (inB y4 (List.length y2)) ((spec_l2Name n (List.getD y2 (Int.toNat y4) default).1).bind fun r7 => cond (!r7) (K (.p26 y1 y2 y3 y4 true)) ((spec_l2Value n (List.getD y2 (Int.toNat y4) default).2.1).bind fun r8 => cond (!r8) (K (.p26 y1 y2 y3 y4 true)) (cond (decide ((0 : Int) < y4)) (cond (inB (IntKind.wrap .i64 (y4 - (1 : Int))) (List.length y1)) ((spec_l2CmpText n (List.getD y1 (Int.toNat (IntKind.wrap .i64 (y4 - (1 : Int)))) default).1 (List.getD y2 (Int.toNat y4) default).1).bind fun (r9 : Int) => K (.p26 y1 y2 y3 y4 (decide ((0 : Int) ≤ r9)))) (none)) (K (.p26 y1 y2 y3 y4 false))))) (none)) (some true)
  | .p26 y1 y2 y3 y4 y5 => cond y5 (some false) (K (.p15 y1 y2 y3 (IntKind.wrap .i64 (y4 + (1 : Int)))))
def spec_GoodLabels (n : Nat) (a0 : List ((ByteArray) × ((ByteArray) × (Unit)))) : Option (Tup [.bool]) := goRec spec_GoodLabels.step n (.p0 a0)
def spec_GoodLabels.spec : Ctr := ⟨47, [.v (.sl false (.pair .str (.pair .str .unit)))], [.bool], [], fun n x => spec_GoodLabels n x.1⟩
theorem spec_GoodLabels.seg_eq (n : Nat) (goto : Nat → St → Option (Tup [.bool])) (y : spec_GoodLabels.Pt) : seg ⟨ty, gl, spec_GoodLabels.md, calOf spec_GoodLabels.T n⟩ spec_GoodLabels.F.np spec_GoodLabels.F.ks goto (spec_GoodLabels.F.fin ⟨ty, gl, spec_GoodLabels.md, calOf spec_GoodLabels.T 0⟩ [.bool]) spec_GoodLabels.F.c (spec_GoodLabels.lb y) (spec_GoodLabels.st y) = spec_GoodLabels.step n (fun z => goto (spec_GoodLabels.lb z) (spec_GoodLabels.st z)) y := by
  cases y <;> kernel_rfl
theorem spec_GoodLabels.text : Text Go.Proofs.Try.prog spec_GoodLabels.F spec_GoodLabels.spec := ⟨⟨Go.Proofs.Try.f47, by kernel_rfl, by kernel_rfl, by decide +kernel, by kernel_rfl, by kernel_rfl, of_decide_eq_true (by kernel_rfl)⟩, fun _ => rfl, fun _ => rfl, rfl⟩
theorem spec_GoodLabels.ok : CtrOK Go.Proofs.Try.prog gl spec_GoodLabels.spec :=
  ctr_ok (T := spec_GoodLabels.T) (F := spec_GoodLabels.F) (lb := spec_GoodLabels.lb) (st := spec_GoodLabels.st) (step := spec_GoodLabels.step) (md := spec_GoodLabels.md) tabs spec_GoodLabels.text spec_GoodLabels.seg_eq (fun n x => ⟨.p0 x.1, rfl, rfl, rfl⟩) (consC spec_l2Name.ok (consC spec_l2CmpText.ok (consC spec_l2Value.ok (nilC))))

/-! loop.example/g00039/spec.l2Of -/
def spec_l2Of.T : List Ctr := []
def spec_l2Of.md : List (Nat × List Md) := []
noncomputable def spec_l2Of.F : Fun := ⟨(Go.Proofs.Try.f109.body).getD .skip, [.v (.sl false (.pair .str (.pair .str .unit))), .v .str], [(.tmp 4, .str)], [], 0, [(7, ⟨[1, 7, 8, 9], [(7, (.pair .str (.pair .str .unit)))], []⟩)]⟩
inductive spec_l2Of.Pt where
  | p0 (a0 : List ((ByteArray) × ((ByteArray) × (Unit)))) (a1 : ByteArray)
  | p7 (y1 : ByteArray) (y2 : List ((ByteArray) × ((ByteArray) × (Unit)))) (y3 : Int) (y4 : Int)
def spec_l2Of.lb : spec_l2Of.Pt → Nat
  | .p0 _ _ => 0
  | .p7 _ _ _ _ => 7
def spec_l2Of.st : spec_l2Of.Pt → St
  | .p0 a0 a1 => enter [.v (.sl false (.pair .str (.pair .str .unit))) a0, .v .str a1] 0
  | .p7 y1 y2 y3 y4 => ⟨[(1, .im .str y1), (7, .im (.sl false (.pair .str (.pair .str .unit))) y2), (8, .im (.int .i64) y3), (9, .im (.int .i64) y4)], [], 0⟩
def spec_l2Of.step (n : Nat) (K : spec_l2Of.Pt → Option (Tup [.str])) : spec_l2Of.Pt → Option (Tup [.str])
  | .p0 a0 a1 => K (.p7 a1 a0 ((List.length a0) : Int) (0 : Int))
  | .p7 y1 y2 y3 y4 => cond (decide (y4 < y3)) (cond (inB y4 (List.length y2)) (cond (seq (List.getD y2 (Int.toNat y4) default).1 y1) (some (List.getD y2 (Int.toNat y4) default).2.1) (K (.p7 y1 y2 y3 (IntKind.wrap .i64 (y4 + (1 : Int)))))) (none)) (some (⟨#[]⟩ : ByteArray))
def spec_l2Of (n : Nat) (a0 : List ((ByteArray) × ((ByteArray) × (Unit)))) (a1 : ByteArray) : Option (Tup [.str]) := goRec spec_l2Of.step n (.p0 a0 a1)
def spec_l2Of.spec : Ctr := ⟨109, [.v (.sl false (.pair .str (.pair .str .unit))), .v .str], [.str], [], fun n x => spec_l2Of n x.1 x.2.1⟩
theorem spec_l2Of.seg_eq (n : Nat) (goto : Nat → St → Option (Tup [.str])) (y : spec_l2Of.Pt) : seg ⟨ty, gl, spec_l2Of.md, calOf spec_l2Of.T n⟩ spec_l2Of.F.np spec_l2Of.F.ks goto (spec_l2Of.F.fin ⟨ty, gl, spec_l2Of.md, calOf spec_l2Of.T 0⟩ [.str]) spec_l2Of.F.c (spec_l2Of.lb y) (spec_l2Of.st y) = spec_l2Of.step n (fun z => goto (spec_l2Of.lb z) (spec_l2Of.st z)) y := by
  cases y <;> kernel_rfl
theorem spec_l2Of.text : Text Go.Proofs.Try.prog spec_l2Of.F spec_l2Of.spec := ⟨⟨Go.Proofs.Try.f109, by kernel_rfl, by kernel_rfl, by decide +kernel, by kernel_rfl, by kernel_rfl, of_decide_eq_true (by kernel_rfl)⟩, fun _ => rfl, fun _ => rfl, rfl⟩
theorem spec_l2Of.ok : CtrOK Go.Proofs.Try.prog gl spec_l2Of.spec :=
  ctr_ok (T := spec_l2Of.T) (F := spec_l2Of.F) (lb := spec_l2Of.lb) (st := spec_l2Of.st) (step := spec_l2Of.step) (md := spec_l2Of.md) tabs spec_l2Of.text spec_l2Of.seg_eq (fun n x => ⟨.p0 x.1 x.2.1, rfl, rfl, rfl⟩) (nilC)

/-! loop.example/g00039/spec.l2Rest -/
def spec_l2Rest.T : List Ctr := []
def spec_l2Rest.md : List (Nat × List Md) := []
noncomputable def spec_l2Rest.F : Fun := ⟨(Go.Proofs.Try.f206.body).getD .skip, [.v (.sl false (.int .i64)), .v .str], [(.tmp 4, (.sl false .bool))], [], 0, [(11, ⟨[0, 1, 5, 6], [(5, .bool)], []⟩), (26, ⟨[0, 1, 5, 6, 7, 8], [(5, .bool), (7, .bool)], []⟩)]⟩
inductive spec_l2Rest.Pt where
  | p0 (a0 : List (Int)) (a1 : ByteArray)
  | p11 (y1 : List (Int)) (y2 : ByteArray) (y3 : Int) (y4 : List (Bool))
  | p26 (y1 : List (Int)) (y2 : ByteArray) (y3 : Int) (y4 : Int) (y5 : List (Bool)) (y6 : List (Bool))
def spec_l2Rest.lb : spec_l2Rest.Pt → Nat
  | .p0 _ _ => 0
  | .p11 _ _ _ _ => 11
  | .p26 _ _ _ _ _ _ => 26
def spec_l2Rest.st : spec_l2Rest.Pt → St
  | .p0 a0 a1 => enter [.v (.sl false (.int .i64)) a0, .v .str a1] 0
  | .p11 y1 y2 y3 y4 => ⟨[(0, .im (.sl false (.int .i64)) y1), (1, .im .str y2), (5, .hs 0 [] none 0), (6, .im (.int .i64) y3)], [(0, .arr false .bool y4 0)], 1⟩
  | .p26 y1 y2 y3 y4 y5 y6 => ⟨[(0, .im (.sl false (.int .i64)) y1), (1, .im .str y2), (5, .hs 0 [] none 0), (6, .im (.int .i64) y3), (7, .hs 1 [] none 0), (8, .im (.int .i64) y4)], [(0, .arr false .bool y5 0), (1, .arr false .bool y6 0)], 2⟩
def spec_l2Rest.step (n : Nat) (K : spec_l2Rest.Pt → Option (Tup [(.sl false .bool)])) : spec_l2Rest.Pt → Option (Tup [(.sl false .bool)])
  | .p0 a0 a1 => cond (inC (IntKind.wrap .i64 (((ByteArray.size a1) : Int) + (1 : Int))) (IntKind.wrap .i64 (((ByteArray.size a1) : Int) + (1 : Int))) 1000000000) (cond (inB ((ByteArray.size a1) : Int) (List.length (List.replicate (Int.toNat (IntKind.wrap .i64 (((ByteArray.size a1) : Int) + (1 : Int)))) (default : Bool)))) (K (.p11 a0 a1 (IntKind.wrap .i64 (((List.length a0) : Int) - (1 : Int))) (List.set (List.replicate (Int.toNat (IntKind.wrap .i64 (((ByteArray.size a1) : Int) + (1 : Int)))) (default : Bool)) (0 + (Int.toNat ((ByteArray.size a1) : Int))) true))) (none)) (none)
  | .p11 y1 y2 y3 y4 => cond (decide ((0 : Int) ≤ y3)) (cond (inC (IntKind.wrap .i64 (((ByteArray.size y2) : Int) + (1 : Int))) (IntKind.wrap .i64 (((ByteArray.size y2) : Int) + (1 : Int))) 1000000000) (K (.p26 y1 y2 y3 ((ByteArray.size y2) : Int) y4 (List.replicate (Int.toNat (IntKind.wrap .i64 (((ByteArray.size y2) : Int) + (1 : Int)))) (default : Bool)))) (none)) (some y4)
  | .p26 y1 y2 y3 y4 y5 y6 => cond (decide ((0 : Int) ≤ y4)) (cond (inB y3 (List.length y1)) (cond (decide ((List.getD y1 (Int.toNat y3) default) = (-(1 : Int)))) (cond (inB y4 (List.length y5)) (cond (List.getD y5 (0 + (Int.toNat y4)) default) (cond (inB y4 (List.length y6)) (K (.p26 y1 y2 y3 (IntKind.wrap .i64 (y4 - (1 : Int))) y5 (List.set y6 (0 + (Int.toNat y4)) true))) (none)) (cond (decide (y4 < ((ByteArray.size y2) : Int))) (cond (inB (IntKind.wrap .i64 (y4 + (1 : Int))) (List.length y6)) (cond (inB y4 (List.length y6)) (K (.p26 y1 y2 y3 (IntKind.wrap .i64 (y4 - (1 : Int))) y5 (List.set y6 (0 + (Int.toNat y4)) (List.getD y6 (0 + (Int.toNat (IntKind.wrap .i64 (y4 + (1 : Int))))) default)))) (none)) (none)) (cond (inB y4 (List.length y6)) (K (.p26 y1 y2 y3 (IntKind.wrap .i64 (y4 - (1 : Int))) y5 (List.set y6 (0 + (Int.toNat y4)) false))) (none)))) (none)) (cond (decide (y4 < ((ByteArray.size y2) : Int))) (cond (inB (IntKind.wrap .i64 (y4 + (1 : Int))) (List.length y5)) (cond (List.getD y5 (0 + (Int.toNat (IntKind.wrap .i64 (y4 + (1 : Int))))) default) (cond (inB y3 (List.length y1)) (cond (decide ((List.getD y1 (Int.toNat y3) default) = (-(2 : Int)))) (cond (inB y4 (List.length y6)) (K (.p26 y1 y2 y3 (IntKind.wrap .i64 (y4 - (1 : Int))) y5 (List.set y6 (0 + (Int.toNat y4)) true))) (none)) (cond (inB y3 (List.length y1)) (cond (inB y4 (ByteArray.size y2)) (cond (inB y4 (List.length y6)) (K (.p26 y1 y2 y3 (IntKind.wrap .i64 (y4 - (1 : Int))) y5 (List.set y6 (0 + (Int.toNat y4)) (decide ((List.getD y1 (Int.toNat y3) default) = (IntKind.wrap .i64 (bt y2 y4))))))) (none)) (none)) (none))) (none)) (cond (inB y4 (List.length y6)) (K (.p26 y1 y2 y3 (IntKind.wrap .i64 (y4 - (1 : Int))) y5 (List.set y6 (0 + (Int.toNat y4)) false))) (none))) (none)) (cond (inB y4 (List.length y6)) (K (.p26 y1 y2 y3 (IntKind.wrap .i64 (y4 - (1 : Int))) y5 (List.set y6 (0 + (Int.toNat y4)) false))) (none)))) (none)) (K (.p11 y1 y2 (IntKind.wrap .i64 (y3 - (1 : Int))) y6))
def spec_l2Rest (n : Nat) (a0 : List (Int)) (a1 : ByteArray) : Option (Tup [(.sl false .bool)]) := goRec spec_l2Rest.step n (.p0 a0 a1)
def spec_l2Rest.spec : Ctr := ⟨206, [.v (.sl false (.int .i64)), .v .str], [(.sl false .bool)], [], fun n x => spec_l2Rest n x.1 x.2.1⟩
theorem spec_l2Rest.seg_eq (n : Nat) (goto : Nat → St → Option (Tup [(.sl false .bool)])) (y : spec_l2Rest.Pt) : seg ⟨ty, gl, spec_l2Rest.md, calOf spec_l2Rest.T n⟩ spec_l2Rest.F.np spec_l2Rest.F.ks goto (spec_l2Rest.F.fin ⟨ty, gl, spec_l2Rest.md, calOf spec_l2Rest.T 0⟩ [(.sl false .bool)]) spec_l2Rest.F.c (spec_l2Rest.lb y) (spec_l2Rest.st y) = spec_l2Rest.step n (fun z => goto (spec_l2Rest.lb z) (spec_l2Rest.st z)) y := by
  cases y <;> kernel_rfl
theorem spec_l2Rest.text : Text Go.Proofs.Try.prog spec_l2Rest.F spec_l2Rest.spec := ⟨⟨Go.Proofs.Try.f206, by kernel_rfl, by kernel_rfl, by decide +kernel, by kernel_rfl, by kernel_rfl, of_decide_eq_true (by kernel_rfl)⟩, fun _ => rfl, fun _ => rfl, rfl⟩
theorem spec_l2Rest.ok : CtrOK Go.Proofs.Try.prog gl spec_l2Rest.spec :=
  ctr_ok (T := spec_l2Rest.T) (F := spec_l2Rest.F) (lb := spec_l2Rest.lb) (st := spec_l2Rest.st) (step := spec_l2Rest.step) (md := spec_l2Rest.md) tabs spec_l2Rest.text spec_l2Rest.seg_eq (fun n x => ⟨.p0 x.1 x.2.1, rfl, rfl, rfl⟩) (nilC)

/-! loop.example/g00039/spec.l2Fits -/
def spec_l2Fits.T : List Ctr := [spec_l2Alternatives.spec, spec_l2Rest.spec]
def spec_l2Fits.md : List (Nat × List Md) := []
noncomputable def spec_l2Fits.F : Fun := ⟨(Go.Proofs.Try.f195.body).getD .skip, [.v .str, .v .str], [(.tmp 4, .bool)], [], 0, [(9, ⟨[1, 14, 15, 16], [(14, (.sl false (.int .i64)))], []⟩)]⟩
inductive spec_l2Fits.Pt where
  | p0 (a0 : ByteArray) (a1 : ByteArray)
  | p9 (y1 : ByteArray) (y2 : Int) (y3 : Int) (y4 : List (List (Int)))
def spec_l2Fits.lb : spec_l2Fits.Pt → Nat
  | .p0 _ _ => 0
  | .p9 _ _ _ _ => 9
def spec_l2Fits.st : spec_l2Fits.Pt → St
  | .p0 a0 a1 => enter [.v .str a0, .v .str a1] 0
  | .p9 y1 y2 y3 y4 => ⟨[(1, .im .str y1), (14, .hs 0 [] none 0), (15, .im (.int .i64) y2), (16, .im (.int .i64) y3)], [(0, .arr false (.sl false (.int .i64)) y4 0)], 1⟩
def spec_l2Fits.step (n : Nat) (K : spec_l2Fits.Pt → Option (Tup [.bool])) : spec_l2Fits.Pt → Option (Tup [.bool])
  | .p0 a0 a1 => (spec_l2Alternatives n a0).bind fun r5 => K (.p9 a1 ((List.length r5.1) : Int) (0 : Int) r5.1)
  | .p9 y1 y2 y3 y4 => cond (decide (y3 < y2)) (cond (inB y3 (List.length y4)) ((spec_l2Rest n (List.getD y4 (0 + (Int.toNat y3)) default) y1).bind fun r7 => cond (inB (0 : Int) (List.length r7)) (cond (List.getD r7 (0 + (Int.toNat (0 : Int))) default) (some true) (K (.p9 y1 y2 (IntKind.wrap .i64 (y3 + (1 : Int))) y4))) (none)) (none)) (some false)
def spec_l2Fits (n : Nat) (a0 : ByteArray) (a1 : ByteArray) : Option (Tup [.bool]) := goRec spec_l2Fits.step n (.p0 a0 a1)
def spec_l2Fits.spec : Ctr := ⟨195, [.v .str, .v .str], [.bool], [], fun n x => spec_l2Fits n x.1 x.2.1⟩
theorem spec_l2Fits.seg_eq (n : Nat) (goto : Nat → St → Option (Tup [.bool])) (y : spec_l2Fits.Pt) : seg ⟨ty, gl, spec_l2Fits.md, calOf spec_l2Fits.T n⟩ spec_l2Fits.F.np spec_l2Fits.F.ks goto (spec_l2Fits.F.fin ⟨ty, gl, spec_l2Fits.md, calOf spec_l2Fits.T 0⟩ [.bool]) spec_l2Fits.F.c (spec_l2Fits.lb y) (spec_l2Fits.st y) = spec_l2Fits.step n (fun z => goto (spec_l2Fits.lb z) (spec_l2Fits.st z)) y := by
  cases y <;> kernel_rfl
theorem spec_l2Fits.text : Text Go.Proofs.Try.prog spec_l2Fits.F spec_l2Fits.spec := ⟨⟨Go.Proofs.Try.f195, by kernel_rfl, by kernel_rfl, by decide +kernel, by kernel_rfl, by kernel_rfl, of_decide_eq_true (by kernel_rfl)⟩, fun _ => rfl, fun _ => rfl, rfl⟩
theorem spec_l2Fits.ok : CtrOK Go.Proofs.Try.prog gl spec_l2Fits.spec :=
  ctr_ok (T := spec_l2Fits.T) (F := spec_l2Fits.F) (lb := spec_l2Fits.lb) (st := spec_l2Fits.st) (step := spec_l2Fits.step) (md := spec_l2Fits.md) tabs spec_l2Fits.text spec_l2Fits.seg_eq (fun n x => ⟨.p0 x.1 x.2.1, rfl, rfl, rfl⟩) (consC spec_l2Alternatives.ok (consC spec_l2Rest.ok (nilC)))

/-! loop.example/g00039/spec.l2Match -/
def spec_l2Match.T : List Ctr := [spec_l2Fits.spec]
def spec_l2Match.md : List (Nat × List Md) := []
noncomputable def spec_l2Match.F : Fun := ⟨(Go.Proofs.Try.f159.body).getD .skip, [.v (.pair .str (.pair (.int .i64) (.pair .str .unit))), .v .str], [(.tmp 4, .bool)], [], 0, []⟩
inductive spec_l2Match.Pt where
  | p0 (a0 : (ByteArray) × ((Int) × ((ByteArray) × (Unit)))) (a1 : ByteArray)
def spec_l2Match.lb : spec_l2Match.Pt → Nat
  | .p0 _ _ => 0
def spec_l2Match.st : spec_l2Match.Pt → St
  | .p0 a0 a1 => enter [.v (.pair .str (.pair (.int .i64) (.pair .str .unit))) a0, .v .str a1] 0
def spec_l2Match.step (n : Nat) (K : spec_l2Match.Pt → Option (Tup [.bool])) : spec_l2Match.Pt → Option (Tup [.bool])
  | .p0 a0 a1 => cond (decide (a0.2.1 = (1 : Int))) (some (seq a1 a0.2.2.1)) (cond (decide (a0.2.1 = (2 : Int))) (some (!(seq a1 a0.2.2.1))) (cond (decide (a0.2.1 = (3 : Int))) ((spec_l2Fits n a0.2.2.1 a1).bind fun r5 => some r5) ((spec_l2Fits n a0.2.2.1 a1).bind fun r5 => some (!r5))))
def spec_l2Match (n : Nat) (a0 : (ByteArray) × ((Int) × ((ByteArray) × (Unit)))) (a1 : ByteArray) : Option (Tup [.bool]) := goRec spec_l2Match.step n (.p0 a0 a1)
def spec_l2Match.spec : Ctr := ⟨159, [.v (.pair .str (.pair (.int .i64) (.pair .str .unit))), .v .str], [.bool], [], fun n x => spec_l2Match n x.1 x.2.1⟩
theorem spec_l2Match.seg_eq (n : Nat) (goto : Nat → St → Option (Tup [.bool])) (y : spec_l2Match.Pt) : seg ⟨ty, gl, spec_l2Match.md, calOf spec_l2Match.T n⟩ spec_l2Match.F.np spec_l2Match.F.ks goto (spec_l2Match.F.fin ⟨ty, gl, spec_l2Match.md, calOf spec_l2Match.T 0⟩ [.bool]) spec_l2Match.F.c (spec_l2Match.lb y) (spec_l2Match.st y) = spec_l2Match.step n (fun z => goto (spec_l2Match.lb z) (spec_l2Match.st z)) y := by
  cases y <;> kernel_rfl
theorem spec_l2Match.text : Text Go.Proofs.Try.prog spec_l2Match.F spec_l2Match.spec := ⟨⟨Go.Proofs.Try.f159, by kernel_rfl, by kernel_rfl, by decide +kernel, by kernel_rfl, by kernel_rfl, of_decide_eq_true (by kernel_rfl)⟩, fun _ => rfl, fun _ => rfl, rfl⟩
theorem spec_l2Match.ok : CtrOK Go.Proofs.Try.prog gl spec_l2Match.spec :=
  ctr_ok (T := spec_l2Match.T) (F := spec_l2Match.F) (lb := spec_l2Match.lb) (st := spec_l2Match.st) (step := spec_l2Match.step) (md := spec_l2Match.md) tabs spec_l2Match.text spec_l2Match.seg_eq (fun n x => ⟨.p0 x.1 x.2.1, rfl, rfl, rfl⟩) (consC spec_l2Fits.ok (nilC))

/-! loop.example/g00039/spec.l2All -/
def spec_l2All.T : List Ctr := [spec_l2Of.spec, spec_l2Match.spec]
def spec_l2All.md : List (Nat × List Md) := []
noncomputable def spec_l2All.F : Fun := ⟨(Go.Proofs.Try.f100.body).getD .skip, [.v (.sl false (.pair .str (.pair (.int .i64) (.pair .str .unit)))), .v (.sl false (.pair .str (.pair .str .unit)))], [(.tmp 4, .bool)], [], 0, [(7, ⟨[1, 7, 8, 9], [(7, (.pair .str (.pair (.int .i64) (.pair .str .unit))))], []⟩)]⟩
inductive spec_l2All.Pt where
  | p0 (a0 : List ((ByteArray) × ((Int) × ((ByteArray) × (Unit))))) (a1 : List ((ByteArray) × ((ByteArray) × (Unit))))
  | p7 (y1 : List ((ByteArray) × ((ByteArray) × (Unit)))) (y2 : List ((ByteArray) × ((Int) × ((ByteArray) × (Unit))))) (y3 : Int) (y4 : Int)
def spec_l2All.lb : spec_l2All.Pt → Nat
  | .p0 _ _ => 0
  | .p7 _ _ _ _ => 7
def spec_l2All.st : spec_l2All.Pt → St
  | .p0 a0 a1 => enter [.v (.sl false (.pair .str (.pair (.int .i64) (.pair .str .unit)))) a0, .v (.sl false (.pair .str (.pair .str .unit))) a1] 0
  | .p7 y1 y2 y3 y4 => ⟨[(1, .im (.sl false (.pair .str (.pair .str .unit))) y1), (7, .im (.sl false (.pair .str (.pair (.int .i64) (.pair .str .unit)))) y2), (8, .im (.int .i64) y3), (9, .im (.int .i64) y4)], [], 0⟩
def spec_l2All.step (n : Nat) (K : spec_l2All.Pt → Option (Tup [.bool])) : spec_l2All.Pt → Option (Tup [.bool])
  | .p0 a0 a1 => K (.p7 a1 a0 ((List.length a0) : Int) (0 : Int))
  | .p7 y1 y2 y3 y4 => cond (decide (y4 < y3)) (cond (inB y4 (List.length y2)) ((spec_l2Of n y1 (List.getD y2 (Int.toNat y4) default).1).bind fun r7 => (spec_l2Match n (List.getD y2 (Int.toNat y4) default) r7).bind fun r8 => cond (!r8) (some false) (K (.p7 y1 y2 y3 (IntKind.wrap .i64 (y4 + (1 : Int)))))) (none)) (some true)
def spec_l2All (n : Nat) (a0 : List ((ByteArray) × ((Int) × ((ByteArray) × (Unit))))) (a1 : List ((ByteArray) × ((ByteArray) × (Unit)))) : Option (Tup [.bool]) := goRec spec_l2All.step n (.p0 a0 a1)
def spec_l2All.spec : Ctr := ⟨100, [.v (.sl false (.pair .str (.pair (.int .i64) (.pair .str .unit)))), .v (.sl false (.pair .str (.pair .str .unit)))], [.bool], [], fun n x => spec_l2All n x.1 x.2.1⟩
theorem spec_l2All.seg_eq (n : Nat) (goto : Nat → St → Option (Tup [.bool])) (y : spec_l2All.Pt) : seg ⟨ty, gl, spec_l2All.md, calOf spec_l2All.T n⟩ spec_l2All.F.np spec_l2All.F.ks goto (spec_l2All.F.fin ⟨ty, gl, spec_l2All.md, calOf spec_l2All.T 0⟩ [.bool]) spec_l2All.F.c (spec_l2All.lb y) (spec_l2All.st y) = spec_l2All.step n (fun z => goto (spec_l2All.lb z) (spec_l2All.st z)) y := by
  cases y <;> kernel_rfl
theorem spec_l2All.text : Text Go.Proofs.Try.prog spec_l2All.F spec_l2All.spec := ⟨⟨Go.Proofs.Try.f100, by kernel_rfl, by kernel_rfl, by decide +kernel, by kernel_rfl, by kernel_rfl, of_decide_eq_true (by kernel_rfl)⟩, fun _ => rfl, fun _ => rfl, rfl⟩
theorem spec_l2All.ok : CtrOK Go.Proofs.Try.prog gl spec_l2All.spec :=
  ctr_ok (T := spec_l2All.T) (F := spec_l2All.F) (lb := spec_l2All.lb) (st := spec_l2All.st) (step := spec_l2All.step) (md := spec_l2All.md) tabs spec_l2All.text spec_l2All.seg_eq (fun n x => ⟨.p0 x.1 x.2.1, rfl, rfl, rfl⟩) (consC spec_l2Of.ok (consC spec_l2Match.ok (nilC)))

/-! loop.example/g00039/spec.l19Inhibited -/
def spec_l19Inhibited.T : List Ctr := [spec_l2Of.spec, spec_l2All.spec]
def spec_l19Inhibited.md : List (Nat × List Md) := []
noncomputable def spec_l19Inhibited.F : Fun := ⟨(Go.Proofs.Try.f62.body).getD .skip, [.v (.sl false (.pair (.sl false (.pair .str (.pair (.int .i64) (.pair .str .unit)))) (.pair (.sl false (.pair .str (.pair (.int .i64) (.pair .str .unit)))) (.pair (.sl false .str) .unit)))), .v (.sl false (.sl false (.pair .str (.pair .str .unit)))), .v (.sl false (.pair .str (.pair .str .unit)))], [(.tmp 6, .bool)], [], 0, [(7, ⟨[1, 2, 14, 15, 16], [(14, (.pair (.sl false (.pair .str (.pair (.int .i64) (.pair .str .unit)))) (.pair (.sl false (.pair .str (.pair (.int .i64) (.pair .str .unit)))) (.pair (.sl false .str) .unit))))], []⟩), (27, ⟨[1, 2, 8, 14, 15, 16, 25, 26, 27], [(14, (.pair (.sl false (.pair .str (.pair (.int .i64) (.pair .str .unit)))) (.pair (.sl false (.pair .str (.pair (.int .i64) (.pair .str .unit)))) (.pair (.sl false .str) .unit)))), (25, (.sl false (.pair .str (.pair .str .unit))))], [(8, 0, (.pair .str (.pair (.int .i64) (.pair .str .unit)))), (8, 1, (.pair .str (.pair (.int .i64) (.pair .str .unit)))), (8, 2, .str)]⟩), (38, ⟨[1, 2, 8, 10, 11, 14, 15, 16, 25, 26, 27], [(10, (.pair .str (.pair .str .unit))), (14, (.pair (.sl false (.pair .str (.pair (.int .i64) (.pair .str .unit)))) (.pair (.sl false (.pair .str (.pair (.int .i64) (.pair .str .unit)))) (.pair (.sl false .str) .unit)))), (25, (.sl false (.pair .str (.pair .str .unit))))], [(8, 0, (.pair .str (.pair (.int .i64) (.pair .str .unit)))), (8, 1, (.pair .str (.pair (.int .i64) (.pair .str .unit)))), (8, 2, .str)]⟩), (44, ⟨[1, 2, 8, 10, 11, 14, 15, 16, 25, 26, 27, 49, 50, 51], [(10, (.pair .str (.pair .str .unit))), (14, (.pair (.sl false (.pair .str (.pair (.int .i64) (.pair .str .unit)))) (.pair (.sl false (.pair .str (.pair (.int .i64) (.pair .str .unit)))) (.pair (.sl false .str) .unit)))), (25, (.sl false (.pair .str (.pair .str .unit)))), (49, .str)], [(8, 0, (.pair .str (.pair (.int .i64) (.pair .str .unit)))), (8, 1, (.pair .str (.pair (.int .i64) (.pair .str .unit)))), (8, 2, .str)]⟩)]⟩
inductive spec_l19Inhibited.Pt where
  | p0 (a0 : List ((List ((ByteArray) × ((Int) × ((ByteArray) × (Unit))))) × ((List ((ByteArray) × ((Int) × ((ByteArray) × (Unit))))) × ((List (ByteArray)) × (Unit))))) (a1 : List (List ((ByteArray) × ((ByteArray) × (Unit))))) (a2 : List ((ByteArray) × ((ByteArray) × (Unit))))
  | p7 (y1 : List (List ((ByteArray) × ((ByteArray) × (Unit))))) (y2 : List ((ByteArray) × ((ByteArray) × (Unit)))) (y3 : List ((List ((ByteArray) × ((Int) × ((ByteArray) × (Unit))))) × ((List ((ByteArray) × ((Int) × ((ByteArray) × (Unit))))) × ((List (ByteArray)) × (Unit))))) (y4 : Int) (y5 : Int)
  | p27 (y1 : List (List ((ByteArray) × ((ByteArray) × (Unit))))) (y2 : List ((ByteArray) × ((ByteArray) × (Unit)))) (y3 : List ((List ((ByteArray) × ((Int) × ((ByteArray) × (Unit))))) × ((List ((ByteArray) × ((Int) × ((ByteArray) × (Unit))))) × ((List (ByteArray)) × (Unit))))) (y4 : Int) (y5 : Int) (y6 : List (List ((ByteArray) × ((ByteArray) × (Unit))))) (y7 : Int) (y8 : Int) (y9 : List ((ByteArray) × ((Int) × ((ByteArray) × (Unit))))) (y10 : List ((ByteArray) × ((Int) × ((ByteArray) × (Unit))))) (y11 : List (ByteArray))
  | p38 (y1 : List (List ((ByteArray) × ((ByteArray) × (Unit))))) (y2 : List ((ByteArray) × ((ByteArray) × (Unit)))) (y3 : List ((ByteArray) × ((ByteArray) × (Unit)))) (y4 : Bool) (y5 : List ((List ((ByteArray) × ((Int) × ((ByteArray) × (Unit))))) × ((List ((ByteArray) × ((Int) × ((ByteArray) × (Unit))))) × ((List (ByteArray)) × (Unit))))) (y6 : Int) (y7 : Int) (y8 : List (List ((ByteArray) × ((ByteArray) × (Unit))))) (y9 : Int) (y10 : Int) (y11 : List ((ByteArray) × ((Int) × ((ByteArray) × (Unit))))) (y12 : List ((ByteArray) × ((Int) × ((ByteArray) × (Unit))))) (y13 : List (ByteArray))
  | p44 (y1 : List (List ((ByteArray) × ((ByteArray) × (Unit))))) (y2 : List ((ByteArray) × ((ByteArray) × (Unit)))) (y3 : List ((ByteArray) × ((ByteArray) × (Unit)))) (y4 : Bool) (y5 : List ((List ((ByteArray) × ((Int) × ((ByteArray) × (Unit))))) × ((List ((ByteArray) × ((Int) × ((ByteArray) × (Unit))))) × ((List (ByteArray)) × (Unit))))) (y6 : Int) (y7 : Int) (y8 : List (List ((ByteArray) × ((ByteArray) × (Unit))))) (y9 : Int) (y10 : Int) (y11 : List (ByteArray)) (y12 : Int) (y13 : Int) (y14 : List ((ByteArray) × ((Int) × ((ByteArray) × (Unit))))) (y15 : List ((ByteArray) × ((Int) × ((ByteArray) × (Unit))))) (y16 : List (ByteArray))
def spec_l19Inhibited.lb : spec_l19Inhibited.Pt → Nat
  | .p0 _ _ _ => 0
  | .p7 _ _ _ _ _ => 7
  | .p27 _ _ _ _ _ _ _ _ _ _ _ => 27
  | .p38 _ _ _ _ _ _ _ _ _ _ _ _ _ => 38
  | .p44 _ _ _ _ _ _ _ _ _ _ _ _ _ _ _ _ => 44
def spec_l19Inhibited.st : spec_l19Inhibited.Pt → St
  | .p0 a0 a1 a2 => enter [.v (.sl false (.pair (.sl false (.pair .str (.pair (.int .i64) (.pair .str .unit)))) (.pair (.sl false (.pair .str (.pair (.int .i64) (.pair .str .unit)))) (.pair (.sl false .str) .unit)))) a0, .v (.sl false (.sl false (.pair .str (.pair .str .unit)))) a1, .v (.sl false (.pair .str (.pair .str .unit))) a2] 0
  | .p7 y1 y2 y3 y4 y5 => ⟨[(1, .im (.sl false (.sl false (.pair .str (.pair .str .unit)))) y1), (2, .im (.sl false (.pair .str (.pair .str .unit))) y2), (14, .im (.sl false (.pair (.sl false (.pair .str (.pair (.int .i64) (.pair .str .unit)))) (.pair (.sl false (.pair .str (.pair (.int .i64) (.pair .str .unit)))) (.pair (.sl false .str) .unit)))) y3), (15, .im (.int .i64) y4), (16, .im (.int .i64) y5)], [], 0⟩
  | .p27 y1 y2 y3 y4 y5 y6 y7 y8 y9 y10 y11 => ⟨[(1, .im (.sl false (.sl false (.pair .str (.pair .str .unit)))) y1), (2, .im (.sl false (.pair .str (.pair .str .unit))) y2), (8, .po 0 0), (14, .im (.sl false (.pair (.sl false (.pair .str (.pair (.int .i64) (.pair .str .unit)))) (.pair (.sl false (.pair .str (.pair (.int .i64) (.pair .str .unit)))) (.pair (.sl false .str) .unit)))) y3), (15, .im (.int .i64) y4), (16, .im (.int .i64) y5), (25, .im (.sl false (.sl false (.pair .str (.pair .str .unit)))) y6), (26, .im (.int .i64) y7), (27, .im (.int .i64) y8)], [(0, .obj [.im (.sl false (.pair .str (.pair (.int .i64) (.pair .str .unit)))) y9, .im (.sl false (.pair .str (.pair (.int .i64) (.pair .str .unit)))) y10, .im (.sl false .str) y11])], 1⟩
  | .p38 y1 y2 y3 y4 y5 y6 y7 y8 y9 y10 y11 y12 y13 => ⟨[(1, .im (.sl false (.sl false (.pair .str (.pair .str .unit)))) y1), (2, .im (.sl false (.pair .str (.pair .str .unit))) y2), (8, .po 0 0), (10, .im (.sl false (.pair .str (.pair .str .unit))) y3), (11, .im .bool y4), (14, .im (.sl false (.pair (.sl false (.pair .str (.pair (.int .i64) (.pair .str .unit)))) (.pair (.sl false (.pair .str (.pair (.int .i64) (.pair .str .unit)))) (.pair (.sl false .str) .unit)))) y5), (15, .im (.int .i64) y6), (16, .im (.int .i64) y7), (25, .im (.sl false (.sl false (.pair .str (.pair .str .unit)))) y8), (26, .im (.int .i64) y9), (27, .im (.int .i64) y10)], [(0, .obj [.im (.sl false (.pair .str (.pair (.int .i64) (.pair .str .unit)))) y11, .im (.sl false (.pair .str (.pair (.int .i64) (.pair .str .unit)))) y12, .im (.sl false .str) y13])], 1⟩
  | .p44 y1 y2 y3 y4 y5 y6 y7 y8 y9 y10 y11 y12 y13 y14 y15 y16 => ⟨[(1, .im (.sl false (.sl false (.pair .str (.pair .str .unit)))) y1), (2, .im (.sl false (.pair .str (.pair .str .unit))) y2), (8, .po 0 0), (10, .im (.sl false (.pair .str (.pair .str .unit))) y3), (11, .im .bool y4), (14, .im (.sl false (.pair (.sl false (.pair .str (.pair (.int .i64) (.pair .str .unit)))) (.pair (.sl false (.pair .str (.pair (.int .i64) (.pair .str .unit)))) (.pair (.sl false .str) .unit)))) y5), (15, .im (.int .i64) y6), (16, .im (.int .i64) y7), (25, .im (.sl false (.sl false (.pair .str (.pair .str .unit)))) y8), (26, .im (.int .i64) y9), (27, .im (.int .i64) y10), (49, .im (.sl false .str) y11), (50, .im (.int .i64) y12), (51, .im (.int .i64) y13)], [(0, .obj [.im (.sl false (.pair .str (.pair (.int .i64) (.pair .str .unit)))) y14, .im (.sl false (.pair .str (.pair (.int .i64) (.pair .str .unit)))) y15, .im (.sl false .str) y16])], 1⟩
def spec_l19Inhibited.step (n : Nat) (K : spec_l19Inhibited.Pt → Option (Tup [.bool])) : spec_l19Inhibited.Pt → Option (Tup [.bool])
  | .p0 a0 a1 a2 => K (.p7 a1 a2 a0 ((List.length a0) : Int) (0 : Int))
  | .p7 y1 y2 y3 y4 y5 => cond (decide (y5 < y4)) (cond (inB y5 (List.length y3)) ((spec_l2All n (List.getD y3 (Int.toNat y5) default).2.1 y2).bind fun r8 => cond (!r8) (K (.p7 y1 y2 y3 y4 (IntKind.wrap .i64 (y5 + (1 : Int))))) (K (.p27 y1 y2 y3 y4 y5 y1 ((List.length y1) : Int) (0 : Int) (List.getD y3 (Int.toNat y5) default).1 (List.getD y3 (Int.toNat y5) default).2.1 (List.getD y3 (Int.toNat y5) default).2.2.1))) (none)) (some false)
  | .p27 y1 y2 y3 y4 y5 y6 y7 y8 y9 y10 y11 => cond (decide (y8 < y7)) (cond (inB y8 (List.length y6)) ((spec_l2All n y9 (List.getD y6 (Int.toNat y8) default)).bind fun r14 => cond r14 ((spec_l2All n y10 (List.getD y6 (Int.toNat y8) default)).bind fun r15 => cond r15 ((spec_l2All n y9 y2).bind fun r16 => K (.p38 y1 y2 (List.getD y6 (Int.toNat y8) default) (!r16) y3 y4 y5 y6 y7 y8 y9 y10 y11)) (K (.p38 y1 y2 (List.getD y6 (Int.toNat y8) default) (!false) y3 y4 y5 y6 y7 y8 y9 y10 y11))) (K (.p38 y1 y2 (List.getD y6 (Int.toNat y8) default) false y3 y4 y5 y6 y7 y8 y9 y10 y11))) (none)) (K (.p7 y1 y2 y3 y4 (IntKind.wrap .i64 (y5 + (1 : Int)))))
  | .p38 y1 y2 y3 y4 y5 y6 y7 y8 y9 y10 y11 y12 y13 => K (.p44 y1 y2 y3 y4 y5 y6 y7 y8 y9 y10 y13 ((List.length y13) : Int) (0 : Int) y11 y12 y13)
  | .p44 y1 y2 y3 y4 y5 y6 y7 y8 y9 y10 y11 y12 y13 y14 y15 y16 => cond (decide (y13 < y12)) (cond (inB y13 (List.length y11)) (cond y4 ((spec_l2Of n y3 (List.getD y11 (Int.toNat y13) default)).bind fun r19 => (spec_l2Of n y2 (List.getD y11 (Int.toNat y13) default)).bind fun r20 => K (.p44 y1 y2 y3 (seq r19 r20) y5 y6 y7 y8 y9 y10 y11 y12 (IntKind.wrap .i64 (y13 + (1 : Int))) y14 y15 y16)) (K (.p44 y1 y2 y3 false y5 y6 y7 y8 y9 y10 y11 y12 (IntKind.wrap .i64 (y13 + (1 : Int))) y14 y15 y16))) (none)) (cond y4 (some true) (K (.p27 y1 y2 y5 y6 y7 y8 y9 (IntKind.wrap .i64 (y10 + (1 : Int))) y14 y15 y16)))
def spec_l19Inhibited (n : Nat) (a0 : List ((List ((ByteArray) × ((Int) × ((ByteArray) × (Unit))))) × ((List ((ByteArray) × ((Int) × ((ByteArray) × (Unit))))) × ((List (ByteArray)) × (Unit))))) (a1 : List (List ((ByteArray) × ((ByteArray) × (Unit))))) (a2 : List ((ByteArray) × ((ByteArray) × (Unit)))) : Option (Tup [.bool]) := goRec spec_l19Inhibited.step n (.p0 a0 a1 a2)
def spec_l19Inhibited.spec : Ctr := ⟨62, [.v (.sl false (.pair (.sl false (.pair .str (.pair (.int .i64) (.pair .str .unit)))) (.pair (.sl false (.pair .str (.pair (.int .i64) (.pair .str .unit)))) (.pair (.sl false .str) .unit)))), .v (.sl false (.sl false (.pair .str (.pair .str .unit)))), .v (.sl false (.pair .str (.pair .str .unit)))], [.bool], [], fun n x => spec_l19Inhibited n x.1 x.2.1 x.2.2.1⟩
theorem spec_l19Inhibited.seg_eq (n : Nat) (goto : Nat → St → Option (Tup [.bool])) (y : spec_l19Inhibited.Pt) : seg ⟨ty, gl, spec_l19Inhibited.md, calOf spec_l19Inhibited.T n⟩ spec_l19Inhibited.F.np spec_l19Inhibited.F.ks goto (spec_l19Inhibited.F.fin ⟨ty, gl, spec_l19Inhibited.md, calOf spec_l19Inhibited.T 0⟩ [.bool]) spec_l19Inhibited.F.c (spec_l19Inhibited.lb y) (spec_l19Inhibited.st y) = spec_l19Inhibited.step n (fun z => goto (spec_l19Inhibited.lb z) (spec_l19Inhibited.st z)) y := by
  cases y <;> kernel_rfl
theorem spec_l19Inhibited.text : Text Go.Proofs.Try.prog spec_l19Inhibited.F spec_l19Inhibited.spec := ⟨⟨Go.Proofs.Try.f62, by kernel_rfl, by kernel_rfl, by decide +kernel, by kernel_rfl, by kernel_rfl, of_decide_eq_true (by kernel_rfl)⟩, fun _ => rfl, fun _ => rfl, rfl⟩
theorem spec_l19Inhibited.ok : CtrOK Go.Proofs.Try.prog gl spec_l19Inhibited.spec :=
  ctr_ok (T := spec_l19Inhibited.T) (F := spec_l19Inhibited.F) (lb := spec_l19Inhibited.lb) (st := spec_l19Inhibited.st) (step := spec_l19Inhibited.step) (md := spec_l19Inhibited.md) tabs spec_l19Inhibited.text spec_l19Inhibited.seg_eq (fun n x => ⟨.p0 x.1 x.2.1 x.2.2.1, rfl, rfl, rfl⟩) (consC spec_l2Of.ok (consC spec_l2All.ok (nilC)))

/-! loop.example/g00039/spec.Inhibited -/
def spec_Inhibited.T : List Ctr := [spec_GoodInhibits.spec, spec_GoodLabels.spec, spec_l19Inhibited.spec]
def spec_Inhibited.md : List (Nat × List Md) := []
noncomputable def spec_Inhibited.F : Fun := ⟨(Go.Proofs.Try.f22.body).getD .skip, [.v (.sl false (.pair (.sl false (.pair .str (.pair (.int .i64) (.pair .str .unit)))) (.pair (.sl false (.pair .str (.pair (.int .i64) (.pair .str .unit)))) (.pair (.sl false .str) .unit)))), .v (.sl false (.sl false (.pair .str (.pair .str .unit)))), .v (.sl false (.pair .str (.pair .str .unit)))], [(.tmp 6, .bool)], [], 0, [(4, ⟨[0, 1, 2, 21], [], []⟩), (15, ⟨[0, 1, 2, 22, 23, 24], [(22, (.sl false (.pair .str (.pair .str .unit))))], []⟩)]⟩
inductive spec_Inhibited.Pt where
  | p0 (a0 : List ((List ((ByteArray) × ((Int) × ((ByteArray) × (Unit))))) × ((List ((ByteArray) × ((Int) × ((ByteArray) × (Unit))))) × ((List (ByteArray)) × (Unit))))) (a1 : List (List ((ByteArray) × ((ByteArray) × (Unit))))) (a2 : List ((ByteArray) × ((ByteArray) × (Unit))))
  | p4 (y1 : List ((List ((ByteArray) × ((Int) × ((ByteArray) × (Unit))))) × ((List ((ByteArray) × ((Int) × ((ByteArray) × (Unit))))) × ((List (ByteArray)) × (Unit))))) (y2 : List (List ((ByteArray) × ((ByteArray) × (Unit))))) (y3 : List ((ByteArray) × ((ByteArray) × (Unit)))) (y4 : Bool)
  | p15 (y1 : List ((List ((ByteArray) × ((Int) × ((ByteArray) × (Unit))))) × ((List ((ByteArray) × ((Int) × ((ByteArray) × (Unit))))) × ((List (ByteArray)) × (Unit))))) (y2 : List (List ((ByteArray) × ((ByteArray) × (Unit))))) (y3 : List ((ByteArray) × ((ByteArray) × (Unit)))) (y4 : List (List ((ByteArray) × ((ByteArray) × (Unit))))) (y5 : Int) (y6 : Int)
def spec_Inhibited.lb : spec_Inhibited.Pt → Nat
  | .p0 _ _ _ => 0
  | .p4 _ _ _ _ => 4
  | .p15 _ _ _ _ _ _ => 15
def spec_Inhibited.st : spec_Inhibited.Pt → St
  | .p0 a0 a1 a2 => enter [.v (.sl false (.pair (.sl false (.pair .str (.pair (.int .i64) (.pair .str .unit)))) (.pair (.sl false (.pair .str (.pair (.int .i64) (.pair .str .unit)))) (.pair (.sl false .str) .unit)))) a0, .v (.sl false (.sl false (.pair .str (.pair .str .unit)))) a1, .v (.sl false (.pair .str (.pair .str .unit))) a2] 0
  | .p4 y1 y2 y3 y4 => ⟨[(0, .im (.sl false (.pair (.sl false (.pair .str (.pair (.int .i64) (.pair .str .unit)))) (.pair (.sl false (.pair .str (.pair (.int .i64) (.pair .str .unit)))) (.pair (.sl false .str) .unit)))) y1), (1, .im (.sl false (.sl false (.pair .str (.pair .str .unit)))) y2), (2, .im (.sl false (.pair .str (.pair .str .unit))) y3), (21, .im .bool y4)], [], 0⟩
  | .p15 y1 y2 y3 y4 y5 y6 => ⟨[(0, .im (.sl false (.pair (.sl false (.pair .str (.pair (.int .i64) (.pair .str .unit)))) (.pair (.sl false (.pair .str (.pair (.int .i64) (.pair .str .unit)))) (.pair (.sl false .str) .unit)))) y1), (1, .im (.sl false (.sl false (.pair .str (.pair .str .unit)))) y2), (2, .im (.sl false (.pair .str (.pair .str .unit))) y3), (22, .im (.sl false (.sl false (.pair .str (.pair .str .unit)))) y4), (23, .im (.int .i64) y5), (24, .im (.int .i64) y6)], [], 0⟩
def spec_Inhibited.step (n : Nat) (K : spec_Inhibited.Pt → Option (Tup [.bool])) : spec_Inhibited.Pt → Option (Tup [.bool])
  | .p0 a0 a1 a2 => (spec_GoodInhibits n a0).bind fun r6 => cond (!r6) (K (.p4 a0 a1 a2 true)) (cond (decide ((200 : Int) < ((List.length a1) : Int))) (K (.p4 a0 a1 a2 true)) ((spec_GoodLabels n a2).bind fun r7 => K (.p4 a0 a1 a2 (!r7))))
  | .p4 y1 y2 y3 y4 => cond y4 (some false) (K (.p15 y1 y2 y3 y2 ((List.length y2) : Int) (0 : Int)))
  | .p15 y1 y2 y3 y4 y5 y6 => cond (decide (y6 < y5)) (cond (inB y6 (List.length y4)) ((spec_GoodLabels n (List.getD y4 (Int.toNat y6) default)).bind fun r9 => cond (!r9) (some false) (K (.p15 y1 y2 y3 y4 y5 (IntKind.wrap .i64 (y6 + (1 : Int)))))) (none)) ((spec_l19Inhibited n y1 y2 y3).bind fun r9 => some r9)
def spec_Inhibited (n : Nat) (a0 : List ((List ((ByteArray) × ((Int) × ((ByteArray) × (Unit))))) × ((List ((ByteArray) × ((Int) × ((ByteArray) × (Unit))))) × ((List (ByteArray)) × (Unit))))) (a1 : List (List ((ByteArray) × ((ByteArray) × (Unit))))) (a2 : List ((ByteArray) × ((ByteArray) × (Unit)))) : Option (Tup [.bool]) := goRec spec_Inhibited.step n (.p0 a0 a1 a2)
def spec_Inhibited.spec : Ctr := ⟨22, [.v (.sl false (.pair (.sl false (.pair .str (.pair (.int .i64) (.pair .str .unit)))) (.pair (.sl false (.pair .str (.pair (.int .i64) (.pair .str .unit)))) (.pair (.sl false .str) .unit)))), .v (.sl false (.sl false (.pair .str (.pair .str .unit)))), .v (.sl false (.pair .str (.pair .str .unit)))], [.bool], [], fun n x => spec_Inhibited n x.1 x.2.1 x.2.2.1⟩
theorem spec_Inhibited.seg_eq (n : Nat) (goto : Nat → St → Option (Tup [.bool])) (y : spec_Inhibited.Pt) : seg ⟨ty, gl, spec_Inhibited.md, calOf spec_Inhibited.T n⟩ spec_Inhibited.F.np spec_Inhibited.F.ks goto (spec_Inhibited.F.fin ⟨ty, gl, spec_Inhibited.md, calOf spec_Inhibited.T 0⟩ [.bool]) spec_Inhibited.F.c (spec_Inhibited.lb y) (spec_Inhibited.st y) = spec_Inhibited.step n (fun z => goto (spec_Inhibited.lb z) (spec_Inhibited.st z)) y := by
  cases y <;> kernel_rfl
theorem spec_Inhibited.text : Text Go.Proofs.Try.prog spec_Inhibited.F spec_Inhibited.spec := ⟨⟨Go.Proofs.Try.f22, by kernel_rfl, by kernel_rfl, by decide +kernel, by kernel_rfl, by kernel_rfl, of_decide_eq_true (by kernel_rfl)⟩, fun _ => rfl, fun _ => rfl, rfl⟩
theorem spec_Inhibited.ok : CtrOK Go.Proofs.Try.prog gl spec_Inhibited.spec :=
  ctr_ok (T := spec_Inhibited.T) (F := spec_Inhibited.F) (lb := spec_Inhibited.lb) (st := spec_Inhibited.st) (step := spec_Inhibited.step) (md := spec_Inhibited.md) tabs spec_Inhibited.text spec_Inhibited.seg_eq (fun n x => ⟨.p0 x.1 x.2.1 x.2.2.1, rfl, rfl, rfl⟩) (consC spec_GoodInhibits.ok (consC spec_GoodLabels.ok (consC spec_l19Inhibited.ok (nilC))))

/-! loop.example/g00039/impl.digitByte -/
def impl_digitByte.T : List Ctr := []
def impl_digitByte.md : List (Nat × List Md) := []
noncomputable def impl_digitByte.F : Fun := ⟨(Go.Proofs.Try.f161.body).getD .skip, [.v (.int .u8)], [(.tmp 2, .bool)], [], 0, []⟩
inductive impl_digitByte.Pt where
  | p0 (a0 : Int)
def impl_digitByte.lb : impl_digitByte.Pt → Nat
  | .p0 _ => 0
def impl_digitByte.st : impl_digitByte.Pt → St
  | .p0 a0 => enter [.v (.int .u8) a0] 0
def impl_digitByte.step (n : Nat) (K : impl_digitByte.Pt → Option (Tup [.bool])) : impl_digitByte.Pt → Option (Tup [.bool])
  | .p0 a0 => cond (decide ((48 : Int) ≤ a0)) (some (decide (a0 ≤ (57 : Int)))) (some false)
def impl_digitByte (n : Nat) (a0 : Int) : Option (Tup [.bool]) := goRec impl_digitByte.step n (.p0 a0)
def impl_digitByte.spec : Ctr := ⟨161, [.v (.int .u8)], [.bool], [], fun n x => impl_digitByte n x.1⟩
theorem impl_digitByte.seg_eq (n : Nat) (goto : Nat → St → Option (Tup [.bool])) (y : impl_digitByte.Pt) : seg ⟨ty, gl, impl_digitByte.md, calOf impl_digitByte.T n⟩ impl_digitByte.F.np impl_digitByte.F.ks goto (impl_digitByte.F.fin ⟨ty, gl, impl_digitByte.md, calOf impl_digitByte.T 0⟩ [.bool]) impl_digitByte.F.c (impl_digitByte.lb y) (impl_digitByte.st y) = impl_digitByte.step n (fun z => goto (impl_digitByte.lb z) (impl_digitByte.st z)) y := by
  cases y <;> kernel_rfl
theorem impl_digitByte.text : Text Go.Proofs.Try.prog impl_digitByte.F impl_digitByte.spec := ⟨⟨Go.Proofs.Try.f161, by kernel_rfl, by kernel_rfl, by decide +kernel, by kernel_rfl, by kernel_rfl, of_decide_eq_true (by kernel_rfl)⟩, fun _ => rfl, fun _ => rfl, rfl⟩
theorem impl_digitByte.ok : CtrOK Go.Proofs.Try.prog gl impl_digitByte.spec :=
  ctr_ok (T := impl_digitByte.T) (F := impl_digitByte.F) (lb := impl_digitByte.lb) (st := impl_digitByte.st) (step := impl_digitByte.step) (md := impl_digitByte.md) tabs impl_digitByte.text impl_digitByte.seg_eq (fun n x => ⟨.p0 x.1, rfl, rfl, rfl⟩) (nilC)

/-! loop.example/g00039/impl.letterByte -/
def impl_letterByte.T : List Ctr := []
def impl_letterByte.md : List (Nat × List Md) := []
noncomputable def impl_letterByte.F : Fun := ⟨(Go.Proofs.Try.f196.body).getD .skip, [.v (.int .u8)], [(.tmp 2, .bool)], [], 0, []⟩
inductive impl_letterByte.Pt where
  | p0 (a0 : Int)
def impl_letterByte.lb : impl_letterByte.Pt → Nat
  | .p0 _ => 0
def impl_letterByte.st : impl_letterByte.Pt → St
  | .p0 a0 => enter [.v (.int .u8) a0] 0
def impl_letterByte.step (n : Nat) (K : impl_letterByte.Pt → Option (Tup [.bool])) : impl_letterByte.Pt → Option (Tup [.bool])
  | .p0 a0 => cond (decide ((97 : Int) ≤ a0)) (cond (decide (a0 ≤ (122 : Int))) (some true) (cond (decide ((65 : Int) ≤ a0)) (some (decide (a0 ≤ (90 : Int)))) (some false))) (cond (decide ((65 : Int) ≤ a0)) (some (decide (a0 ≤ (90 : Int)))) (some false))
def impl_letterByte (n : Nat) (a0 : Int) : Option (Tup [.bool]) := goRec impl_letterByte.step n (.p0 a0)
def impl_letterByte.spec : Ctr := ⟨196, [.v (.int .u8)], [.bool], [], fun n x => impl_letterByte n x.1⟩
theorem impl_letterByte.seg_eq (n : Nat) (goto : Nat → St → Option (Tup [.bool])) (y : impl_letterByte.Pt) : seg ⟨ty, gl, impl_letterByte.md, calOf impl_letterByte.T n⟩ impl_letterByte.F.np impl_letterByte.F.ks goto (impl_letterByte.F.fin ⟨ty, gl, impl_letterByte.md, calOf impl_letterByte.T 0⟩ [.bool]) impl_letterByte.F.c (impl_letterByte.lb y) (impl_letterByte.st y) = impl_letterByte.step n (fun z => goto (impl_letterByte.lb z) (impl_letterByte.st z)) y := by
  cases y <;> kernel_rfl
theorem impl_letterByte.text : Text Go.Proofs.Try.prog impl_letterByte.F impl_letterByte.spec := ⟨⟨Go.Proofs.Try.f196, by kernel_rfl, by kernel_rfl, by decide +kernel, by kernel_rfl, by kernel_rfl, of_decide_eq_true (by kernel_rfl)⟩, fun _ => rfl, fun _ => rfl, rfl⟩
theorem impl_letterByte.ok : CtrOK Go.Proofs.Try.prog gl impl_letterByte.spec :=
  ctr_ok (T := impl_letterByte.T) (F := impl_letterByte.F) (lb := impl_letterByte.lb) (st := impl_letterByte.st) (step := impl_letterByte.step) (md := impl_letterByte.md) tabs impl_letterByte.text impl_letterByte.seg_eq (fun n x => ⟨.p0 x.1, rfl, rfl, rfl⟩) (nilC)

/-! loop.example/g00039/impl.wordByte -/
def impl_wordByte.T : List Ctr := [impl_digitByte.spec, impl_letterByte.spec]
def impl_wordByte.md : List (Nat × List Md) := []
noncomputable def impl_wordByte.F : Fun := ⟨(Go.Proofs.Try.f162.body).getD .skip, [.v (.int .u8)], [(.tmp 2, .bool)], [], 0, []⟩
inductive impl_wordByte.Pt where
  | p0 (a0 : Int)
def impl_wordByte.lb : impl_wordByte.Pt → Nat
  | .p0 _ => 0
def impl_wordByte.st : impl_wordByte.Pt → St
  | .p0 a0 => enter [.v (.int .u8) a0] 0
def impl_wordByte.step (n : Nat) (K : impl_wordByte.Pt → Option (Tup [.bool])) : impl_wordByte.Pt → Option (Tup [.bool])
  | .p0 a0 => (impl_letterByte n a0).bind fun r4 => cond r4 (some true) ((impl_digitByte n a0).bind fun r5 => cond r5 (some true) (some (decide (a0 = (95 : Int)))))
def impl_wordByte (n : Nat) (a0 : Int) : Option (Tup [.bool]) := goRec impl_wordByte.step n (.p0 a0)
def impl_wordByte.spec : Ctr := ⟨162, [.v (.int .u8)], [.bool], [], fun n x => impl_wordByte n x.1⟩
theorem impl_wordByte.seg_eq (n : Nat) (goto : Nat → St → Option (Tup [.bool])) (y : impl_wordByte.Pt) : seg ⟨ty, gl, impl_wordByte.md, calOf impl_wordByte.T n⟩ impl_wordByte.F.np impl_wordByte.F.ks goto (impl_wordByte.F.fin ⟨ty, gl, impl_wordByte.md, calOf impl_wordByte.T 0⟩ [.bool]) impl_wordByte.F.c (impl_wordByte.lb y) (impl_wordByte.st y) = impl_wordByte.step n (fun z => goto (impl_wordByte.lb z) (impl_wordByte.st z)) y := by
  cases y <;> kernel_rfl
theorem impl_wordByte.text : Text Go.Proofs.Try.prog impl_wordByte.F impl_wordByte.spec := ⟨⟨Go.Proofs.Try.f162, by kernel_rfl, by kernel_rfl, by decide +kernel, by kernel_rfl, by kernel_rfl, of_decide_eq_true (by kernel_rfl)⟩, fun _ => rfl, fun _ => rfl, rfl⟩
theorem impl_wordByte.ok : CtrOK Go.Proofs.Try.prog gl impl_wordByte.spec :=
  ctr_ok (T := impl_wordByte.T) (F := impl_wordByte.F) (lb := impl_wordByte.lb) (st := impl_wordByte.st) (step := impl_wordByte.step) (md := impl_wordByte.md) tabs impl_wordByte.text impl_wordByte.seg_eq (fun n x => ⟨.p0 x.1, rfl, rfl, rfl⟩) (consC impl_digitByte.ok (consC impl_letterByte.ok (nilC)))

/-! loop.example/g00039/impl.isName -/
def impl_isName.T : List Ctr := [impl_digitByte.spec, impl_wordByte.spec]
def impl_isName.md : List (Nat × List Md) := []
noncomputable def impl_isName.F : Fun := ⟨(Go.Proofs.Try.f102.body).getD .skip, [.v .str], [(.tmp 2, .bool)], [], 0, [(4, ⟨[0, 15], [], []⟩), (15, ⟨[0, 17, 18], [], []⟩)]⟩
inductive impl_isName.Pt where
  | p0 (a0 : ByteArray)
  | p4 (y1 : ByteArray) (y2 : Bool)
  | p15 (y1 : ByteArray) (y2 : Int) (y3 : Int)
def impl_isName.lb : impl_isName.Pt → Nat
  | .p0 _ => 0
  | .p4 _ _ => 4
  | .p15 _ _ _ => 15
def impl_isName.st : impl_isName.Pt → St
  | .p0 a0 => enter [.v .str a0] 0
  | .p4 y1 y2 => ⟨[(0, .im .str y1), (15, .im .bool y2)], [], 0⟩
  | .p15 y1 y2 y3 => ⟨[(0, .im .str y1), (17, .im (.int .i64) y2), (18, .im (.int .i64) y3)], [], 0⟩
def impl_isName.step (n : Nat) (K : impl_isName.Pt → Option (Tup [.bool])) : impl_isName.Pt → Option (Tup [.bool])
  | .p0 a0 => cond (seq a0 (⟨#[]⟩ : ByteArray)) (K (.p4 a0 true)) (cond (decide ((40 : Int) < ((ByteArray.size a0) : Int))) (K (.p4 a0 true)) (cond (inB (0 : Int) (ByteArray.size a0)) ((impl_digitByte n (bt a0 (0 : Int))).bind fun r4 => K (.p4 a0 r4)) (none)))
  | .p4 y1 y2 => cond y2 (some false) (K (.p15 y1 ((ByteArray.size y1) : Int) (0 : Int)))
  | .p15 y1 y2 y3 => cond (decide (y3 < y2)) (cond (inB y3 (ByteArray.size y1)) ((impl_wordByte n (bt y1 y3)).bind fun r6 => cond (!r6) (some false) (K (.p15 y1 y2 (IntKind.wrap .i64 (y3 + (1 : Int)))))) (none)) (some true)
def impl_isName (n : Nat) (a0 : ByteArray) : Option (Tup [.bool]) := goRec impl_isName.step n (.p0 a0)
def impl_isName.spec : Ctr := ⟨102, [.v .str], [.bool], [], fun n x => impl_isName n x.1⟩
theorem impl_isName.seg_eq (n : Nat) (goto : Nat → St → Option (Tup [.bool])) (y : impl_isName.Pt) : seg ⟨ty, gl, impl_isName.md, calOf impl_isName.T n⟩ impl_isName.F.np impl_isName.F.ks goto (impl_isName.F.fin ⟨ty, gl, impl_isName.md, calOf impl_isName.T 0⟩ [.bool]) impl_isName.F.c (impl_isName.lb y) (impl_isName.st y) = impl_isName.step n (fun z => goto (impl_isName.lb z) (impl_isName.st z)) y := by
  cases y <;> kernel_rfl
theorem impl_isName.text : Text Go.Proofs.Try.prog impl_isName.F impl_isName.spec := ⟨⟨Go.Proofs.Try.f102, by kernel_rfl, by kernel_rfl, by decide +kernel, by kernel_rfl, by kernel_rfl, of_decide_eq_true (by kernel_rfl)⟩, fun _ => rfl, fun _ => rfl, rfl⟩
theorem impl_isName.ok : CtrOK Go.Proofs.Try.prog gl impl_isName.spec :=
  ctr_ok (T := impl_isName.T) (F := impl_isName.F) (lb := impl_isName.lb) (st := impl_isName.st) (step := impl_isName.step) (md := impl_isName.md) tabs impl_isName.text impl_isName.seg_eq (fun n x => ⟨.p0 x.1, rfl, rfl, rfl⟩) (consC impl_digitByte.ok (consC impl_wordByte.ok (nilC)))

/-! loop.example/g00039/impl.printed -/
def impl_printed.T : List Ctr := []
def impl_printed.md : List (Nat × List Md) := []
noncomputable def impl_printed.F : Fun := ⟨(Go.Proofs.Try.f166.body).getD .skip, [.v .str, .v (.int .i64)], [(.tmp 4, .bool)], [], 0, [(15, ⟨[0, 11, 12], [], []⟩)]⟩
inductive impl_printed.Pt where
  | p0 (a0 : ByteArray) (a1 : Int)
  | p15 (y1 : ByteArray) (y2 : Int) (y3 : Int)
def impl_printed.lb : impl_printed.Pt → Nat
  | .p0 _ _ => 0
  | .p15 _ _ _ => 15
def impl_printed.st : impl_printed.Pt → St
  | .p0 a0 a1 => enter [.v .str a0, .v (.int .i64) a1] 0
  | .p15 y1 y2 y3 => ⟨[(0, .im .str y1), (11, .im (.int .i64) y2), (12, .im (.int .i64) y3)], [], 0⟩
def impl_printed.step (n : Nat) (K : impl_printed.Pt → Option (Tup [.bool])) : impl_printed.Pt → Option (Tup [.bool])
  | .p0 a0 a1 => cond (decide (a1 < ((ByteArray.size a0) : Int))) (some false) (K (.p15 a0 ((ByteArray.size a0) : Int) (0 : Int)))
  | .p15 y1 y2 y3 => cond (decide (y3 < y2)) (cond (inB y3 (ByteArray.size y1)) (cond (decide ((bt y1 y3) < (32 : Int))) (some false) (cond (inB y3 (ByteArray.size y1)) (cond (decide ((126 : Int) < (bt y1 y3))) (some false) (K (.p15 y1 y2 (IntKind.wrap .i64 (y3 + (1 : Int)))))) (none))) (none)) (some true)
def impl_printed (n : Nat) (a0 : ByteArray) (a1 : Int) : Option (Tup [.bool]) := goRec impl_printed.step n (.p0 a0 a1)
def impl_printed.spec : Ctr := ⟨166, [.v .str, .v (.int .i64)], [.bool], [], fun n x => impl_printed n x.1 x.2.1⟩
theorem impl_printed.seg_eq (n : Nat) (goto : Nat → St → Option (Tup [.bool])) (y : impl_printed.Pt) : seg ⟨ty, gl, impl_printed.md, calOf impl_printed.T n⟩ impl_printed.F.np impl_printed.F.ks goto (impl_printed.F.fin ⟨ty, gl, impl_printed.md, calOf impl_printed.T 0⟩ [.bool]) impl_printed.F.c (impl_printed.lb y) (impl_printed.st y) = impl_printed.step n (fun z => goto (impl_printed.lb z) (impl_printed.st z)) y := by
  cases y <;> kernel_rfl
theorem impl_printed.text : Text Go.Proofs.Try.prog impl_printed.F impl_printed.spec := ⟨⟨Go.Proofs.Try.f166, by kernel_rfl, by kernel_rfl, by decide +kernel, by kernel_rfl, by kernel_rfl, of_decide_eq_true (by kernel_rfl)⟩, fun _ => rfl, fun _ => rfl, rfl⟩
theorem impl_printed.ok : CtrOK Go.Proofs.Try.prog gl impl_printed.spec :=
  ctr_ok (T := impl_printed.T) (F := impl_printed.F) (lb := impl_printed.lb) (st := impl_printed.st) (step := impl_printed.step) (md := impl_printed.md) tabs impl_printed.text impl_printed.seg_eq (fun n x => ⟨.p0 x.1 x.2.1, rfl, rfl, rfl⟩) (nilC)

/-! strings.IndexByte -/
def strings_IndexByte (n : Nat) (a0 : ByteArray) (a1 : Int) : Option Int := hold n (some (Lib.indexByte a0.data.toList a1.toNat.toUInt8))
def strings_IndexByte.spec : Ctr := ⟨213, [.v .str, .v (.int .u8)], [.int .i64], [], fun n x => strings_IndexByte n x.1 x.2.1⟩
section
open Go.Proofs
def layIndexByte_ren : Go.Shelf.Ren := ⟨fun | 137 => 213 | 217 => 215 | 266 => 216 | n => n, fun | 9 => 9 | 5 => 5 | 3 => 3 | n => n, fun | n => n⟩
theorem layIndexByte : Go.Proofs.Lays.n137 Try.prog layIndexByte_ren where
  mixed := by kernel_rfl
  f137 := Try.func213.trans (congrArg some (by kernel_rfl))
  f217 := Try.func215.trans (congrArg some (by kernel_rfl))
  f266 := Try.func216.trans (congrArg some (by kernel_rfl))
  t3 := Try.underlying3
  a3 := Try.isAgg3
  z3 := Try.sizeOf3
  v3 := Try.zeroValue3
  t5 := Try.underlying5
  a5 := Try.isAgg5
  z5 := Try.sizeOf5
  v5 := Try.zeroValue5
  t9 := Try.underlying9
  a9 := Try.isAgg9
  z9 := Try.sizeOf9
  v9 := Try.zeroValue9

end
theorem strings_IndexByte.ok : CtrOK Go.Proofs.Try.prog gl strings_IndexByte.spec := by
  refine fun n => ⟨⟨Go.Proofs.Try.f213, by kernel_rfl, by kernel_rfl, by decide +kernel⟩, ?_⟩
  rintro ⟨a0, a1, ⟨⟩⟩ y hy
  obtain rfl := Option.some.inj (hold_some hy)
  intro w vs S L harg hL hSL hG
  change ArgsRep w [Arg.v .str a0, Arg.v (.int .u8) a1] vs S L at harg
  unfold ArgsRep at harg
  obtain ⟨v0, vr, S1, S2, L1, L2, rfl, rfl, rfl, h1, harg⟩ := harg
  unfold ArgsRep at harg
  obtain ⟨v1, vr, S3, S4, L3, L4, rfl, rfl, rfl, h2, harg⟩ := harg
  unfold ArgsRep at harg
  obtain ⟨rfl, rfl, rfl⟩ := harg
  unfold ArgRep at h1 h2
  obtain ⟨_, ⟨cs, rfl, rfl, rfl⟩, rfl⟩ := h1
  obtain ⟨_, ⟨cs, rfl, rfl, rfl⟩, rfl⟩ := h2
  refine (Go.Proofs.Any.strings_IndexByte layIndexByte a0 a1 w).mono ?_
  rintro e w' ⟨rfl, rfl⟩
  refine ⟨[.int .i64 (Lib.indexByte a0.data.toList a1.toNat.toUInt8)], [], [], rfl, ⟨_, [], [], [], rfl, rfl, rfl, ⟨rfl, rfl⟩, rfl, rfl⟩, ?_, by simp, by simp, rfl, rfl, rfl, Nat.le_refl _, fun _ _ _ => rfl⟩
  change OutsRep w' [Arg.v .str a0, Arg.v (.int .u8) a1] _ _ _
  simp only [OutsRep, OutRep]
  exact ⟨_, _, [], [], [], [], rfl, rfl, rfl, ⟨rfl, rfl⟩, _, _, [], [], [], [], rfl, rfl, rfl, ⟨rfl, rfl⟩, rfl, rfl⟩


/-! loop.example/g00039/impl.alternatives$1 -/
abbrev PC : U := .pair (.int .u8) (.pair .bool (.pair .bool .unit))
def impl_alternatives_1 (n : Nat) (a0 : PC.El) (a1 : List (List PC.El)) : Option (List (List PC.El)) :=
  hold n (cond (decide (a1 ≠ [] ∧ a1.length ≤ 1000000 ∧ (a1.getD (a1.length - 1) []).length ≤ 1000000)) (some (a1.set (a1.length - 1) (a1.getD (a1.length - 1) [] ++ [a0]))) none)
def impl_alternatives_1.spec : Ctr := ⟨212, [.v PC, .p (.sl false (.sl false PC))], [], [.sl false (.sl false PC)], fun n x => impl_alternatives_1 n x.1 x.2.1⟩
section
open Go.RowKit Go.Proofs
set_option maxHeartbeats 8000000 in
set_option maxRecDepth 100000 in
theorem put_calls (ht : TyOK Try.prog 223 (.sl false PC)) (c : Int) (x y : Bool) (b g q cap : Nat) (cur : Array Value) (v : Value) (l : List PC.El) (T1 T2 : TypeId) (fz : Nat × Nat) (F2 : List Nat) (W : World)
    (hb : W.heap[b]? = some (.cells #[.slice (some ⟨g, 0, none⟩) (q + 1) cap] T1 (0, 0))) (hg : W.heap[g]? = some (.cells cur T2 fz)) (hfz : ∀ j, j < cur.size → ¬ (fz.1 ≤ j ∧ j < fz.2))
    (hn2 : q ≤ 1000000) (hv : cur[q]? = some v) (hs : SlRep W true false 3 (Rep W true PC) l v F2) (hF2 : F2.Nodup) (hbF : b ∉ F2) (hgF : g ∉ F2) (hbg : b ≠ g) (hl : l.length ≤ 1000000) :
    Calls Try.prog 212 #[.agg #[.int .u8 c, .bool x, .bool y], .pointer (some ⟨b, 0, none⟩)] W fun e w' => e = .returned (.tuple #[]) ∧ ∃ v1 F3,
      SlRep w' true false 3 (Rep w' true PC) (l ++ [(c, x, y, ())]) v1 F3 ∧ F3.Nodup ∧ w'.heap[g]? = some (.cells (cur.setIfInBounds q v1) T2 fz) ∧ w'.os = W.os ∧ w'.tape = W.tape ∧ w'.output = W.output ∧ W.heap.size ≤ w'.heap.size ∧
      (∀ k, k < W.heap.size → k ≠ g → k ∉ F2 → w'.heap[k]? = W.heap[k]?) ∧ (∀ k ∈ F3, k < w'.heap.size ∧ (k < W.heap.size → k ∈ F2)) := by
  have e1 : wrap64 (((q + 1 : Nat) : Int) - 1) = (q : Int) := by unfold wrap64; omega
  have e2 : wrap64 (q : Int) = (q : Int) := by unfold wrap64; omega
  have hlt := lt_of_heap hb
  have hltg := lt_of_heap hg
  have hqs : q < cur.size := by
    rcases Nat.lt_or_ge q cur.size with h | h
    · exact h
    · rw [Array.getElem?_eq_none h] at hv; cases hv
  go_enter Try.func212, Try.ntmps212
  go_wp2
  have hbx : (W.alloc (.cells #[.int .u8 c, .bool x, .bool y] 222)).drew.heap[W.heap.size]? = some (.cells #[.int .u8 c, .bool x, .bool y] 222 (0, 0)) := alloc_new W _
  have hold : ∀ k, k < W.heap.size → (W.alloc (.cells #[.int .u8 c, .bool x, .bool y] 222)).drew.heap[k]? = W.heap[k]? := fun k hk => alloc_old W _ hk
  have hb1 := (hold b hlt).trans hb
  have hg1 := (hold g hltg).trans hg
  have hsz1 : (W.alloc (.cells #[.int .u8 c, .bool x, .bool y] 222)).drew.heap.size = W.heap.size + 1 := alloc_sz _ _
  have hFlt : ∀ k ∈ F2, k < W.heap.size := fun k hk => Rep.block_lt (u := .sl false PC) (cs := [v]) ⟨v, rfl, .inl hs⟩ k hk
  have hs1 : SlRep (W.alloc (.cells #[.int .u8 c, .bool x, .bool y] 222)).drew true false 3 (Rep (W.alloc (.cells #[.int .u8 c, .bool x, .bool y] 222)).drew true PC) l v F2 := SlRep.frame (u := PC) (fun k hk => hold k (hFlt k hk)) hs
  have hos1 : (W.alloc (.cells #[.int .u8 c, .bool x, .bool y] 222)).drew.os = W.os ∧ (W.alloc (.cells #[.int .u8 c, .bool x, .bool y] 222)).drew.tape = W.tape ∧ (W.alloc (.cells #[.int .u8 c, .bool x, .bool y] 222)).drew.output = W.output := ⟨rfl, rfl, rfl⟩
  refine start_ (n := 15) (S := fun w' => w'.cell? ⟨b, 0, none⟩ = some (.slice (some ⟨g, 0, none⟩) (q + 1) cap) ∧ w'.cell? ⟨g, q, none⟩ = some v ∧ w'.cell? ⟨W.heap.size, 0, none⟩ = some (.int .u8 c) ∧ w'.cell? ⟨W.heap.size, 1, none⟩ = some (.bool x) ∧ w'.cell? ⟨W.heap.size, 2, none⟩ = some (.bool y)) (ds := [14]) #[false, false, false, false, false, false, false, false, false, false, false, false, false, false, false] (by kernel_rfl) rfl rfl ⟨(cell_row hb1).trans rfl, (cell_row hg1).trans hv, (cell_row hbx).trans rfl, (cell_row hbx).trans rfl, (cell_row hbx).trans rfl⟩ (fun hHeld => ?_)
  generalize (W.alloc (.cells #[.int .u8 c, .bool x, .bool y] 222)).drew = W1 at hold hsz1 hbx hb1 hg1 hs1 hos1 hHeld ⊢
  refine take_ (i := 0) (N := some 3) (v := ?_) (a' := ?_) #[true, false, false, false, false, false, false, false, false, false, false, false, false, false, false] rfl rfl (by kernel_rfl) (fun _ _ _ h => h) (Or.inl ⟨by rfl, ?_⟩) hHeld ?_ ?_
  rotate_left
  · rintro w' ⟨s0, s1, s2, s3, s4⟩
    go_simp
    try with_reducible rfl
  rotate_left
  · simp only [Act.put, List.setIfInBounds_toArray, List.set_cons_zero, List.set_cons_succ, i64_w, i32_w]
    rfl
  refine take_ (i := 1) (N := some 4) (v := ?_) (a' := ?_) #[true, true, false, false, false, false, false, false, false, false, false, false, false, false, false] rfl rfl (by kernel_rfl) (fun _ _ _ h => h) (Or.inl ⟨by rfl, ?_⟩) hHeld ?_ ?_
  rotate_left
  · rintro w' ⟨s0, s1, s2, s3, s4⟩
    go_simp
    try with_reducible rfl
  rotate_left
  · simp only [Act.put, List.setIfInBounds_toArray, List.set_cons_zero, List.set_cons_succ, i64_w, i32_w]
    rfl
  refine pure_ (i := 2) (N := some 5) (v := ?_) (a' := ?_) #[true, true, true, false, false, false, false, false, false, false, false, false, false, false, false] rfl rfl (by kernel_rfl) (fun _ _ _ h => h) (Or.inl ⟨by rfl, ?_⟩) ?_ ?_
  rotate_left
  · intro w'
    go_simp
    try with_reducible rfl
  rotate_left
  · simp only [Act.put, List.setIfInBounds_toArray, List.set_cons_zero, List.set_cons_succ, i64_w, i32_w]
    rfl
  refine pure_ (i := 3) (N := some 6) (v := ?_) (a' := ?_) #[true, true, true, true, false, false, false, false, false, false, false, false, false, false, false] rfl rfl (by kernel_rfl) (fun _ _ _ h => h) (Or.inl ⟨by rfl, ?_⟩) ?_ ?_
  rotate_left
  · intro w'
    go_simp
    try with_reducible rfl
  rotate_left
  · simp only [Act.put, List.setIfInBounds_toArray, List.set_cons_zero, List.set_cons_succ, i64_w, i32_w]
    rfl
  refine take_ (i := 4) (N := some 7) (v := ?_) (a' := ?_) #[true, true, true, true, true, false, false, false, false, false, false, false, false, false, false] rfl rfl (by kernel_rfl) (fun _ _ _ h => h) (Or.inl ⟨by rfl, ?_⟩) hHeld ?_ ?_
  rotate_left
  · rintro w' ⟨s0, s1, s2, s3, s4⟩
    go_simp
    try with_reducible rfl
  rotate_left
  · simp only [Act.put, List.setIfInBounds_toArray, List.set_cons_zero, List.set_cons_succ, i64_w, i32_w]
    rfl
  refine take_ (i := 5) (N := some 8) (v := ?_) (a' := ?_) #[true, true, true, true, true, true, false, false, false, false, false, false, false, false, false] rfl rfl (by kernel_rfl) (fun _ _ _ h => h) (Or.inl ⟨by rfl, ?_⟩) hHeld ?_ ?_
  rotate_left
  · rintro w' ⟨s0, s1, s2, s3, s4⟩
    go_simp
    try with_reducible rfl
  rotate_left
  · simp only [Act.put, List.setIfInBounds_toArray, List.set_cons_zero, List.set_cons_succ, i64_w, i32_w]
    rfl
  refine pure_ (i := 6) (N := some 9) (v := ?_) (a' := ?_) #[true, true, true, true, true, true, true, false, false, false, false, false, false, false, false] rfl rfl (by kernel_rfl) (fun _ _ _ h => h) (Or.inl ⟨by rfl, ?_⟩) ?_ ?_
  rotate_left
  · intro w'
    go_simp
    try with_reducible rfl
  rotate_left
  · simp only [Act.put, List.setIfInBounds_toArray, List.set_cons_zero, List.set_cons_succ, i64_w, i32_w]
    rfl
  refine pure_ (i := 7) (N := some 10) (v := ?_) (a' := ?_) #[true, true, true, true, true, true, true, true, false, false, false, false, false, false, false] rfl rfl (by kernel_rfl) (fun _ _ _ h => h) (Or.inl ⟨by rfl, ?_⟩) ?_ ?_
  rotate_left
  · intro w'
    go_simp
    try with_reducible rfl
  rotate_left
  · simp only [Act.put, List.setIfInBounds_toArray, List.set_cons_zero, List.set_cons_succ, i64_w, i32_w]
    rfl
  refine pure_ (i := 8) (N := some 11) (v := ?_) (a' := ?_) #[true, true, true, true, true, true, true, true, true, false, false, false, false, false, false] rfl rfl (by kernel_rfl) (fun _ _ _ h => h) (Or.inl ⟨by rfl, ?_⟩) ?_ ?_
  rotate_left
  · intro w'
    go_simp
    rw [if_pos (by omega)]
  rotate_left
  · simp only [Act.put, List.setIfInBounds_toArray, List.set_cons_zero, List.set_cons_succ, i64_w, i32_w]
    rfl
  refine take_ (i := 9) (N := some 12) (v := ?_) (a' := ?_) #[true, true, true, true, true, true, true, true, true, true, false, false, false, false, false] rfl rfl (by kernel_rfl) (fun _ _ _ h => h) (Or.inl ⟨by rfl, ?_⟩) hHeld ?_ ?_
  rotate_left
  · rintro w' ⟨s0, s1, s2, s3, s4⟩
    go_simp
    try with_reducible rfl
  rotate_left
  · simp only [Act.put, List.setIfInBounds_toArray, List.set_cons_zero, List.set_cons_succ, i64_w, i32_w]
    rfl
  refine take_ (i := 10) (N := some 13) (v := ?_) (a' := ?_) #[true, true, true, true, true, true, true, true, true, true, true, false, false, false, false] rfl rfl (by kernel_rfl) (fun _ _ _ h => h) (Or.inl ⟨by rfl, ?_⟩) hHeld ?_ ?_
  rotate_left
  · rintro w' ⟨s0, s1, s2, s3, s4⟩
    go_simp
    try with_reducible rfl
  rotate_left
  · simp only [Act.put, List.setIfInBounds_toArray, List.set_cons_zero, List.set_cons_succ, i64_w, i32_w]
    rfl
  clear hHeld
  have hW2 : ∀ k, k < W1.heap.size → (W1.alloc (.cells #[.int .u8 c, .bool x, .bool y] 222)).heap[k]? = W1.heap[k]? := fun k hk => alloc_old W1 _ hk
  have hnew : (W1.alloc (.cells #[.int .u8 c, .bool x, .bool y] 222)).heap[W1.heap.size]? = some (.cells #[.int .u8 c, .bool x, .bool y] 222 (0, 0)) := alloc_new W1 _
  have hb2 := (hW2 b (lt_of_heap hb1)).trans hb1
  have hg2 := (hW2 g (lt_of_heap hg1)).trans hg1
  have hbx2 := (hW2 _ (lt_of_heap hbx)).trans hbx
  refine one_ (i := 11) (N := some 14) #[true, true, true, true, true, true, true, true, true, true, true, true, false, false, false] rfl rfl (by kernel_rfl) (by decide) (fun K hK => ?_)
  refine event_step (w1 := W1.alloc (.cells #[.int .u8 c, .bool x, .bool y] 222)) (v := .slice (some ⟨W1.heap.size, 0, none⟩) 1 1) (by rfl) (by first | (go_simp; done) | (go_simp; rfl)) ?_
  refine hK.out _ _ ⟨(cell_row hb2).trans rfl, (cell_row hg2).trans hv, (cell_row hbx2).trans rfl, (cell_row hbx2).trans rfl, (cell_row hbx2).trans rfl⟩ (fun hHeld => ?_)
  clear hK K hHeld
  refine norm_ (a' := ?_) ?_ ?_
  rotate_left
  · show Act.put _ (some 14) _ = _
    simp only [Act.put, List.setIfInBounds_toArray, List.set_cons_zero, List.set_cons_succ, i64_w, i32_w]
    rfl
  have hs2 : SlRep (W1.alloc (.cells #[.int .u8 c, .bool x, .bool y] 222)) true false 3 (Rep (W1.alloc (.cells #[.int .u8 c, .bool x, .bool y] 222)) true PC) l v F2 := SlRep.frame (u := PC) (fun k hk => hW2 k (by have := hFlt k hk; omega)) hs1
  obtain ⟨v1, w2, F3, hrun, hs3, hF3, ho1, ho2, ho3, hsz2, hfr, hF3b⟩ := append_run (P := Try.prog) (ty := 223) (t := 223) (e := false) (u := PC) (l := l) (m := [(c, x, y, ())]) (dd := ⟨W1.heap.size, 0, none⟩) (cs := [.int .u8 c, .bool x, .bool y]) ht rfl hs2 hF2
    ⟨[.int .u8 c, .bool x, .bool y], [], [], [], rfl, rfl, ⟨[.int .u8 c], [.bool x, .bool y], [], [], rfl, rfl, ⟨rfl, rfl⟩, [.bool x], [.bool y], [], [], rfl, rfl, ⟨rfl, rfl⟩, [.bool y], [], [], [], rfl, rfl, ⟨rfl, rfl⟩, rfl, rfl⟩, rfl, rfl⟩
    (cells_at (p := []) (q := []) rfl hnew rfl rfl) (by simp) (by simp; omega) 1
  have hsz3 : (W1.alloc (.cells #[.int .u8 c, .bool x, .bool y] 222)).heap.size = W1.heap.size + 1 := alloc_sz _ _
  refine one_ (i := 12) (N := some 15) #[true, true, true, true, true, true, true, true, true, true, true, true, true, false, false] rfl rfl (by kernel_rfl) (by decide) (fun K hK => ?_)
  refine event_step (w1 := w2) (v := v1) (by rfl) ?_ ?_
  · exact append_op (x := .tmp 12) (y := .tmp 14) (t := 223) rfl hrun
  have hb3 := (hfr b (by omega) hbF).trans hb2
  have hg3 := (hfr g (by omega) hgF).trans hg2
  have hbx3 := (hfr W.heap.size (by omega) (fun h => by have := hFlt _ h; omega)).trans hbx2
  refine hK.out _ _ ⟨(cell_row hb3).trans rfl, (cell_row hg3).trans hv, (cell_row hbx3).trans rfl, (cell_row hbx3).trans rfl, (cell_row hbx3).trans rfl⟩ (fun hHeld => ?_)
  clear hK K hHeld
  refine norm_ (a' := ?_) ?_ ?_
  rotate_left
  · show Act.put _ (some 15) _ = _
    simp only [Act.put, List.setIfInBounds_toArray, List.set_cons_zero, List.set_cons_succ, i64_w, i32_w]
    rfl
  refine pure_ (i := 13) (N := some 16) (v := ?_) (a' := ?_) #[true, true, true, true, true, true, true, true, true, true, true, true, true, true, false] rfl rfl (by kernel_rfl) (fun _ _ _ h => h) (Or.inl ⟨by rfl, ?_⟩) ?_ ?_
  rotate_left
  · intro w'
    go_simp
    rw [if_pos (by omega)]
  rotate_left
  · simp only [Act.put, List.setIfInBounds_toArray, List.set_cons_zero, List.set_cons_succ, i64_w, i32_w]
    rfl
  have hcq : w2.cell? ⟨g, q, none⟩ = some v := (cell_row hg3).trans hv
  have hfq : w2.frozen? ⟨g, q, none⟩ = false := frozen_row hg3 (hfz q hqs)
  obtain ⟨A1, n1, c1, e1'⟩ : ∃ A n c, v1 = Value.slice A n c := by
    rcases hs3 with ⟨h0, _⟩ | ⟨_, _, _, _, _, _, _, _, _, h0, _⟩ <;> exact ⟨_, _, _, h0⟩
  subst e1'
  refine last_ (i := 14) (N := none) #[true, true, true, true, true, true, true, true, true, true, true, true, true, true, true] rfl rfl (by kernel_rfl) (by decide) (fun K hK => ?_)
  refine skip_step (w1 := w2.setCell ⟨g, q, none⟩ (.slice A1 n1 c1)) (by rfl) rfl ?_ ?_
  · go_simp
  refine hK.out _ _ ?_
  clear hK K
  refine done_ (by kernel_rfl) ?_
  rw [setCell_put hg3]
  have hgF3 : g ∉ F3 := fun h => hgF ((hF3b g h).2 (by omega))
  have hoth : ∀ k, k ≠ g → (putB w2 g (.cells (cur.setIfInBounds q (.slice A1 n1 c1)) T2 fz)).heap[k]? = w2.heap[k]? := fun k hk => putB_other hk
  go_end0
  refine ⟨rfl, _, F3, SlRep.frame (u := PC) (fun k hk => hoth k (fun e => hgF3 (e ▸ hk))) hs3, hF3, putB_same (lt_of_heap hg3), ho1.trans hos1.1, ho2.trans hos1.2.1, ho3.trans hos1.2.2, by rw [putB_sz]; omega, ?_, ?_⟩
  · intro k hk hkg hkF
    rw [hoth k hkg, hfr k (by omega) hkF, hW2 k (by omega), hold k hk]
  · intro k hk
    have := hF3b k hk
    rw [putB_sz]
    exact ⟨this.1, fun h => this.2 (by omega)⟩
theorem impl_alternatives_1.ok : CtrOK Try.prog gl impl_alternatives_1.spec := by
  have ht : TyOK Try.prog 223 (.sl false PC) := tabs.ty _ _ (by kernel_rfl)
  intro n
  refine ⟨⟨Try.f212, by kernel_rfl, by kernel_rfl, by decide +kernel⟩, ?_⟩
  rintro ⟨x, out, ⟨⟩⟩ y hy
  obtain ⟨hc, hy⟩ := cond_none (hold_some hy)
  simp only [decide_eq_true_eq] at hc
  obtain ⟨hne, hlen, hlast⟩ := hc
  have hy : out.set (out.length - 1) (out.getD (out.length - 1) [] ++ [x]) = y := Option.some.inj hy
  subst hy
  intro w vs S L harg hL hSL hG
  change ArgsRep w [Arg.v PC x, Arg.p (.sl false (.sl false PC)) out] vs S L at harg
  unfold ArgsRep at harg
  obtain ⟨v0, vr, S1, S2, L1, L2, rfl, rfl, rfl, h1, harg⟩ := harg
  unfold ArgsRep at harg
  obtain ⟨v1, vr, S3, S4, L3, L4, rfl, rfl, rfl, h2, harg⟩ := harg
  unfold ArgsRep at harg
  obtain ⟨rfl, rfl, rfl⟩ := harg
  unfold ArgRep at h1 h2
  obtain ⟨_, ⟨cs, rfl, c1, d1, G1, H1, rfl, rfl, ⟨rfl, rfl⟩, c2, d2, G2, H2, rfl, rfl, ⟨rfl, rfl⟩, c3, d3, G3, H3, rfl, rfl, ⟨rfl, rfl⟩, rfl, rfl⟩, rfl⟩ := h1
  obtain ⟨_, rfl, b, c, T1, G, rfl, hw, ⟨v, hcv, hs⟩, rfl⟩ := h2
  have hs := hs.resolve_right bare_no
  rcases hs with ⟨_, h0, _⟩ | ⟨ad, cap, cc, T2, fz, p, m, q, G0, rfl, hsp, _, hcap, hh, hcc, hp, hr, rfl, how⟩
  · exact absurd h0 hne
  obtain ⟨hoff, hfz, hcsz, hcm⟩ := how rfl
  have hp0 : p = [] := List.eq_nil_of_length_eq_zero (by omega)
  subst hp0
  have hlp : 0 < out.length := List.length_pos_iff.2 hne
  obtain ⟨m1, m2, m3, F1, F2, F3, rfl, rfl, hm1, ⟨v2, rfl, hs2⟩, hr1, hr3, _⟩ := RepL.at (n := 1) (fun _ _ _ h => Rep.length h) ([] : List PC.El) (out.length - 1) hr (by omega)
  have hs2 := hs2.resolve_right bare_no
  simp only [List.nil_append, List.append_nil] at hL hcc ⊢
  have hblk : ad = ⟨ad.block, 0, none⟩ := by
    obtain ⟨a1, a2, a3⟩ := ad
    simp only at hoff hsp
    rw [hoff, hsp]
  generalize ad.block = g at *
  subst hblk
  have hcarr : c = #[.slice (some ⟨g, 0, none⟩) (out.length - 1 + 1) cap] := by
    apply Array.toList_inj.1
    rw [hcv]
    simp; omega
  subst hcarr
  simp only [List.nodup_cons, List.nodup_append, List.mem_cons, List.mem_append, not_or] at hL
  obtain ⟨⟨hbg, ⟨hb1, hb2⟩, hb3⟩, ⟨⟨hg1, hg2⟩, hg3⟩, ⟨n1, n2, n12⟩, n3, n123⟩ := hL
  have hq1 : out.length - 1 < cc.size := by
    have := congrArg List.length hcc
    simp at this; omega
  have hcv2 : cc[out.length - 1]? = some v2 := by
    rw [← Array.getElem?_toList, hcc]
    simp [List.append_assoc, hm1, List.getElem?_append_right]
  have hput := put_calls ht x.1 x.2.1 x.2.2.1 b g (out.length - 1) cap cc v2 _ T1 T2 fz F2 w hw hh hfz (by omega) hcv2 hs2 n2 hb2 hg2 hbg hlast
  refine Calls.mono hput ?_
  rintro e w' ⟨rfl, v3, F4, hs3, hF4, hg', ho1, ho2, ho3, hsz, hfr, hF4b⟩
  have hblt : b < w.heap.size := lt_of_heap hw
  have hglt : g < w.heap.size := lt_of_heap hh
  have hlt1 : ∀ k ∈ F1, k < w.heap.size := fun k hk => RepL.block_lt (u := .sl false PC) (fun h => Rep.block_lt h) hr1 k hk
  have hlt3 : ∀ k ∈ F3, k < w.heap.size := fun k hk => RepL.block_lt (u := .sl false PC) (fun h => Rep.block_lt h) hr3 k hk
  have hfr1 : ∀ k ∈ F1, w'.heap[k]? = w.heap[k]? := fun k hk => hfr k (hlt1 k hk) (fun e => hg1 (e ▸ hk)) (fun h => n12 k hk k h rfl)
  have hfr3 : ∀ k ∈ F3, w'.heap[k]? = w.heap[k]? := fun k hk => hfr k (hlt3 k hk) (fun e => hg3 (e ▸ hk)) (fun h => n123 k (.inr h) k hk rfl)
  have hb' : w'.heap[b]? = w.heap[b]? := hfr b hblt hbg hb2
  have k1 := RepL.imp (R := Rep w true (.sl false PC)) (S := Rep w' true (.sl false PC)) (fun x c G hG h => Rep.frame (fun k hk => hfr1 k (hG k hk)) h) hr1
  have k3 := RepL.imp (R := Rep w true (.sl false PC)) (S := Rep w' true (.sl false PC)) (fun x c G hG h => Rep.frame (fun k hk => hfr3 k (hG k hk)) h) hr3
  have k2 : RepL (Rep w' true (.sl false PC)) [out.getD (out.length - 1) [] ++ [x]] [v3] F4 := ⟨[v3], [], F4, [], by simp, by simp, ⟨v3, rfl, .inl hs3⟩, rfl, rfl⟩
  have kk := RepL.append (RepL.append k1 k2) k3
  have hset : out.take (out.length - 1) ++ [out.getD (out.length - 1) [] ++ [x]] ++ out.drop (out.length - 1 + 1) = out.set (out.length - 1) (out.getD (out.length - 1) [] ++ [x]) := by
    rw [List.set_eq_take_append_cons_drop, if_pos (by omega)]; simp
  rw [hset] at kk
  have hF41 : ∀ k ∈ F4, k ∉ F1 ∧ k ∉ F3 ∧ k ≠ g ∧ k ≠ b := by
    intro k hk
    have h5 := hF4b k hk
    refine ⟨fun h => ?_, fun h => ?_, fun h => ?_, fun h => ?_⟩
    · exact n12 k h k (h5.2 (hlt1 k h)) rfl
    · exact n123 k (.inr (h5.2 (hlt3 k h))) k h rfl
    · subst h; exact hg2 (h5.2 hglt)
    · subst h; exact hb2 (h5.2 hblt)
  refine ⟨[], [], b :: g :: (F1 ++ F4 ++ F3), rfl, ⟨rfl, rfl⟩, ?_, ?_, ?_, ho1, ho2, ho3, hsz, ?_⟩
  · change OutsRep w' [Arg.v PC x, Arg.p (.sl false (.sl false PC)) out] _ _ _
    simp only [OutsRep, OutRep]
    refine ⟨_, _, [], _, [], _, rfl, rfl, rfl, ⟨rfl, rfl⟩, _, _, _, [], _, [], rfl, (List.append_nil _).symm, (List.append_nil _).symm, ⟨_, b, _, T1, g :: (F1 ++ F4 ++ F3), rfl, rfl, hb'.trans hw, ⟨_, rfl, .inl (.inr ⟨⟨g, 0, none⟩, cap, _, T2, fz, [], m1 ++ [v3] ++ m3, q, F1 ++ F4 ++ F3, ?_, rfl, by simp, ?_, hg', ?_, rfl, kk, rfl, fun _ => ⟨rfl, ?_, ?_, hcm⟩⟩)⟩, rfl⟩, rfl, rfl⟩
    · simp; omega
    · simp; omega
    · rw [Array.toList_setIfInBounds, hcc]
      simp only [List.append_assoc]
      rw [List.set_append_right _ _ (by omega), hm1]
      simp
    · intro j hj
      rw [Array.size_setIfInBounds] at hj
      exact hfz j hj
    · rw [Array.size_setIfInBounds]; exact hcsz
  · simp only [List.nil_append, List.nodup_cons, List.nodup_append, List.mem_cons, List.mem_append, not_or]
    refine ⟨⟨hbg, ⟨hb1, fun h => (hF41 b h).2.2.2 rfl⟩, hb3⟩, ⟨⟨hg1, fun h => (hF41 g h).2.2.1 rfl⟩, hg3⟩, ⟨n1, hF4, fun i hi j hj e => (hF41 j hj).1 (e ▸ hi)⟩, n3, fun i hi j hj e => ?_⟩
    rcases hi with hi | hi
    · exact n123 i (.inl hi) j hj e
    · exact (hF41 i hi).2.1 (e ▸ hj)
  · intro k hk
    simp only [List.nil_append, List.mem_cons, List.mem_append] at hk ⊢
    rcases hk with rfl | rfl | (hk | hk) | hk
    · exact ⟨by omega, fun _ => .inl rfl⟩
    · exact ⟨by omega, fun _ => .inr (.inl rfl)⟩
    · exact ⟨by have := hlt1 k hk; omega, fun _ => .inr (.inr (.inl (.inl hk)))⟩
    · exact ⟨(hF4b k hk).1, fun h => .inr (.inr (.inl (.inr ((hF4b k hk).2 h))))⟩
    · exact ⟨by have := hlt3 k hk; omega, fun _ => .inr (.inr (.inr hk))⟩
  · intro k hk hkL
    simp only [List.mem_cons, List.mem_append, not_or] at hkL
    exact hfr k hk hkL.2.1 hkL.2.2.1.2
end


/-! loop.example/g00039/impl.alternatives -/
def impl_alternatives.T : List Ctr := [impl_printed.spec, strings_IndexByte.spec, impl_alternatives_1.spec]
def impl_alternatives.md : List (Nat × List Md) := [(212, [.v, .p (.sl false (.sl false (.pair (.int .u8) (.pair .bool (.pair .bool .unit)))))]), (1000212, [.p (.sl false (.sl false (.pair (.int .u8) (.pair .bool (.pair .bool .unit)))))])]
noncomputable def impl_alternatives.F : Fun := ⟨(Go.Proofs.Try.f207.body).getD .skip, [.v .str], [(.tmp 2, (.sl false (.sl false (.pair (.int .u8) (.pair .bool (.pair .bool .unit)))))), (.tmp 3, .bool)], [], 0, [(19, ⟨[0, 4, 5, 6], [], [(4, 0, (.sl false (.pair (.int .u8) (.pair .bool (.pair .bool .unit)))))]⟩), (51, ⟨[0, 4, 5, 6, 56], [], [(4, 0, (.sl false (.pair (.int .u8) (.pair .bool (.pair .bool .unit)))))]⟩)]⟩
inductive impl_alternatives.Pt where
  | p0 (a0 : ByteArray)
  | p19 (y1 : ByteArray) (y2 : Int) (y3 : List (List ((Int) × ((Bool) × ((Bool) × (Unit))))))
  | p51 (y1 : ByteArray) (y2 : Int) (y3 : Bool) (y4 : List (List ((Int) × ((Bool) × ((Bool) × (Unit))))))
def impl_alternatives.lb : impl_alternatives.Pt → Nat
  | .p0 _ => 0
  | .p19 _ _ _ => 19
  | .p51 _ _ _ _ => 51
def impl_alternatives.st : impl_alternatives.Pt → St
  | .p0 a0 => enter [.v .str a0] 0
  | .p19 y1 y2 y3 => ⟨[(0, .im .str y1), (4, .po 0 0), (5, .fn 212 [.po 0 0]), (6, .im (.int .i64) y2)], [(0, .obj [.hs 1 [] none 0]), (1, .arr false (.sl false (.pair (.int .u8) (.pair .bool (.pair .bool .unit)))) y3 0)], 2⟩
  | .p51 y1 y2 y3 y4 => ⟨[(0, .im .str y1), (4, .po 0 0), (5, .fn 212 [.po 0 0]), (6, .im (.int .i64) y2), (56, .im .bool y3)], [(0, .obj [.hs 1 [] none 0]), (1, .arr false (.sl false (.pair (.int .u8) (.pair .bool (.pair .bool .unit)))) y4 0)], 2⟩
def impl_alternatives.step (n : Nat) (K : impl_alternatives.Pt → Option (Tup [(.sl false (.sl false (.pair (.int .u8) (.pair .bool (.pair .bool .unit))))), .bool])) : impl_alternatives.Pt → Option (Tup [(.sl false (.sl false (.pair (.int .u8) (.pair .bool (.pair .bool .unit))))), .bool])
  | .p0 a0 => (impl_printed n a0 (100 : Int)).bind fun r4 => cond (!r4) (some (([] : List (List ((Int) × ((Bool) × ((Bool) × (Unit)))))), false)) (K (.p19 a0 (0 : Int) [([] : List ((Int) × ((Bool) × ((Bool) × (Unit)))))]))
  | .p19 y1 y2 y3 => cond (decide (y2 < ((ByteArray.size y1) : Int))) (cond (inB y2 (ByteArray.size y1)) (cond (decide ((bt y1 y2) = (124 : Int))) (cond (room ((List.length y3) + (List.length [([] : List ((Int) × ((Bool) × ((Bool) × (Unit)))))]))) (K (.p19 y1 (IntKind.wrap .i64 (y2 + (1 : Int))) (y3 ++ [([] : List ((Int) × ((Bool) × ((Bool) × (Unit)))))]))) (none)) (cond (decide ((bt y1 y2) = (42 : Int))) ((impl_alternatives_1 n ((default : Int), ((default : Bool), (true, ()))) y3).bind fun r6 => K (.p19 y1 (IntKind.wrap .i64 (y2 + (1 : Int))) r6)) (cond (decide ((bt y1 y2) = (63 : Int))) ((impl_alternatives_1 n ((default : Int), (true, (default : (Bool) × (Unit)))) y3).bind fun r6 => K (.p19 y1 (IntKind.wrap .i64 (y2 + (1 : Int))) r6)) (cond (decide ((bt y1 y2) = (92 : Int))) (cond (decide ((IntKind.wrap .i64 (y2 + (1 : Int))) = ((ByteArray.size y1) : Int))) (K (.p51 y1 (IntKind.wrap .i64 (y2 + (1 : Int))) true y3)) (cond (inB (IntKind.wrap .i64 (y2 + (1 : Int))) (ByteArray.size y1)) ((strings_IndexByte n (⟨#[42, 63, 124, 92]⟩ : ByteArray) (bt y1 (IntKind.wrap .i64 (y2 + (1 : Int))))).bind fun (r6 : Int) => K (.p51 y1 (IntKind.wrap .i64 (y2 + (1 : Int))) (decide (r6 < (0 : Int))) y3)) (none))) ((impl_alternatives_1 n ((bt y1 y2), (default : (Bool) × ((Bool) × (Unit)))) y3).bind fun r6 => K (.p19 y1 (IntKind.wrap .i64 (y2 + (1 : Int))) r6)))))) (none)) (some (y3, true))
  | .p51 y1 y2 y3 y4 => cond y3 (some (([] : List (List ((Int) × ((Bool) × ((Bool) × (Unit)))))), false)) (cond (inB y2 (ByteArray.size y1)) ((impl_alternatives_1 n ((bt y1 y2), (default : (Bool) × ((Bool) × (Unit)))) y4).bind fun r7 => K (.p19 y1 (IntKind.wrap .i64 (y2 + (1 : Int))) r7)) (none))
def impl_alternatives (n : Nat) (a0 : ByteArray) : Option (Tup [(.sl false (.sl false (.pair (.int .u8) (.pair .bool (.pair .bool .unit))))), .bool]) := goRec impl_alternatives.step n (.p0 a0)
def impl_alternatives.spec : Ctr := ⟨207, [.v .str], [(.sl false (.sl false (.pair (.int .u8) (.pair .bool (.pair .bool .unit))))), .bool], [], fun n x => impl_alternatives n x.1⟩
theorem impl_alternatives.seg_eq (n : Nat) (goto : Nat → St → Option (Tup [(.sl false (.sl false (.pair (.int .u8) (.pair .bool (.pair .bool .unit))))), .bool])) (y : impl_alternatives.Pt) : seg ⟨ty, gl, impl_alternatives.md, calOf impl_alternatives.T n⟩ impl_alternatives.F.np impl_alternatives.F.ks goto (impl_alternatives.F.fin ⟨ty, gl, impl_alternatives.md, calOf impl_alternatives.T 0⟩ [(.sl false (.sl false (.pair (.int .u8) (.pair .bool (.pair .bool .unit))))), .bool]) impl_alternatives.F.c (impl_alternatives.lb y) (impl_alternatives.st y) = impl_alternatives.step n (fun z => goto (impl_alternatives.lb z) (impl_alternatives.st z)) y := by
  cases y <;> kernel_rfl
theorem impl_alternatives.text : Text Go.Proofs.Try.prog impl_alternatives.F impl_alternatives.spec := ⟨⟨Go.Proofs.Try.f207, by kernel_rfl, by kernel_rfl, by decide +kernel, by kernel_rfl, by kernel_rfl, of_decide_eq_true (by kernel_rfl)⟩, fun _ => rfl, fun _ => rfl, rfl⟩
theorem impl_alternatives.ok : CtrOK Go.Proofs.Try.prog gl impl_alternatives.spec :=
  ctr_ok (T := impl_alternatives.T) (F := impl_alternatives.F) (lb := impl_alternatives.lb) (st := impl_alternatives.st) (step := impl_alternatives.step) (md := impl_alternatives.md) tabs impl_alternatives.text impl_alternatives.seg_eq (fun n x => ⟨.p0 x.1, rfl, rfl, rfl⟩) (consC impl_printed.ok (consC strings_IndexByte.ok (consC impl_alternatives_1.ok (nilC))))

/-! loop.example/g00039/impl.GoodPattern -/
def impl_GoodPattern.T : List Ctr := [impl_alternatives.spec]
def impl_GoodPattern.md : List (Nat × List Md) := []
noncomputable def impl_GoodPattern.F : Fun := ⟨(Go.Proofs.Try.f198.body).getD .skip, [.v .str], [(.tmp 2, .bool)], [], 0, []⟩
inductive impl_GoodPattern.Pt where
  | p0 (a0 : ByteArray)
def impl_GoodPattern.lb : impl_GoodPattern.Pt → Nat
  | .p0 _ => 0
def impl_GoodPattern.st : impl_GoodPattern.Pt → St
  | .p0 a0 => enter [.v .str a0] 0
def impl_GoodPattern.step (n : Nat) (K : impl_GoodPattern.Pt → Option (Tup [.bool])) : impl_GoodPattern.Pt → Option (Tup [.bool])
  | .p0 a0 => (impl_alternatives n a0).bind fun r4 => some r4.2
def impl_GoodPattern (n : Nat) (a0 : ByteArray) : Option (Tup [.bool]) := goRec impl_GoodPattern.step n (.p0 a0)
def impl_GoodPattern.spec : Ctr := ⟨198, [.v .str], [.bool], [], fun n x => impl_GoodPattern n x.1⟩
theorem impl_GoodPattern.seg_eq (n : Nat) (goto : Nat → St → Option (Tup [.bool])) (y : impl_GoodPattern.Pt) : seg ⟨ty, gl, impl_GoodPattern.md, calOf impl_GoodPattern.T n⟩ impl_GoodPattern.F.np impl_GoodPattern.F.ks goto (impl_GoodPattern.F.fin ⟨ty, gl, impl_GoodPattern.md, calOf impl_GoodPattern.T 0⟩ [.bool]) impl_GoodPattern.F.c (impl_GoodPattern.lb y) (impl_GoodPattern.st y) = impl_GoodPattern.step n (fun z => goto (impl_GoodPattern.lb z) (impl_GoodPattern.st z)) y := by
  cases y <;> kernel_rfl
theorem impl_GoodPattern.text : Text Go.Proofs.Try.prog impl_GoodPattern.F impl_GoodPattern.spec := ⟨⟨Go.Proofs.Try.f198, by kernel_rfl, by kernel_rfl, by decide +kernel, by kernel_rfl, by kernel_rfl, of_decide_eq_true (by kernel_rfl)⟩, fun _ => rfl, fun _ => rfl, rfl⟩
theorem impl_GoodPattern.ok : CtrOK Go.Proofs.Try.prog gl impl_GoodPattern.spec :=
  ctr_ok (T := impl_GoodPattern.T) (F := impl_GoodPattern.F) (lb := impl_GoodPattern.lb) (st := impl_GoodPattern.st) (step := impl_GoodPattern.step) (md := impl_GoodPattern.md) tabs impl_GoodPattern.text impl_GoodPattern.seg_eq (fun n x => ⟨.p0 x.1, rfl, rfl, rfl⟩) (consC impl_alternatives.ok (nilC))

/-! loop.example/g00039/impl.goodMatcher -/
def impl_goodMatcher.T : List Ctr := [impl_isName.spec, impl_printed.spec, impl_GoodPattern.spec]
def impl_goodMatcher.md : List (Nat × List Md) := []
noncomputable def impl_goodMatcher.F : Fun := ⟨(Go.Proofs.Try.f165.body).getD .skip, [.v (.pair .str (.pair (.int .i64) (.pair .str .unit)))], [(.tmp 2, .bool)], [], 0, [(4, ⟨[1, 22], [], []⟩)]⟩
inductive impl_goodMatcher.Pt where
  | p0 (a0 : (ByteArray) × ((Int) × ((ByteArray) × (Unit))))
  | p4 (y1 : Bool) (y2 : ByteArray) (y3 : Int) (y4 : ByteArray)
def impl_goodMatcher.lb : impl_goodMatcher.Pt → Nat
  | .p0 _ => 0
  | .p4 _ _ _ _ => 4
def impl_goodMatcher.st : impl_goodMatcher.Pt → St
  | .p0 a0 => enter [.v (.pair .str (.pair (.int .i64) (.pair .str .unit))) a0] 0
  | .p4 y1 y2 y3 y4 => ⟨[(1, .po 0 0), (22, .im .bool y1)], [(0, .obj [.im .str y2, .im (.int .i64) y3, .im .str y4])], 1⟩
def impl_goodMatcher.step (n : Nat) (K : impl_goodMatcher.Pt → Option (Tup [.bool])) : impl_goodMatcher.Pt → Option (Tup [.bool])
  | .p0 a0 => (impl_isName n a0.1).bind fun r4 => cond (!r4) (K (.p4 true a0.1 a0.2.1 a0.2.2.1)) (cond (decide (a0.2.1 < (1 : Int))) (K (.p4 true a0.1 a0.2.1 a0.2.2.1)) (cond (decide ((4 : Int) < a0.2.1)) (K (.p4 true a0.1 a0.2.1 a0.2.2.1)) ((impl_printed n a0.2.2.1 (100 : Int)).bind fun r5 => K (.p4 (!r5) a0.1 a0.2.1 a0.2.2.1))))
  | .p4 y1 y2 y3 y4 => cond y1 (some false) (cond (decide (y3 < (3 : Int))) (some true) ((impl_GoodPattern n y4).bind fun r7 => some r7))
def impl_goodMatcher (n : Nat) (a0 : (ByteArray) × ((Int) × ((ByteArray) × (Unit)))) : Option (Tup [.bool]) := goRec impl_goodMatcher.step n (.p0 a0)
def impl_goodMatcher.spec : Ctr := ⟨165, [.v (.pair .str (.pair (.int .i64) (.pair .str .unit)))], [.bool], [], fun n x => impl_goodMatcher n x.1⟩
theorem impl_goodMatcher.seg_eq (n : Nat) (goto : Nat → St → Option (Tup [.bool])) (y : impl_goodMatcher.Pt) : seg ⟨ty, gl, impl_goodMatcher.md, calOf impl_goodMatcher.T n⟩ impl_goodMatcher.F.np impl_goodMatcher.F.ks goto (impl_goodMatcher.F.fin ⟨ty, gl, impl_goodMatcher.md, calOf impl_goodMatcher.T 0⟩ [.bool]) impl_goodMatcher.F.c (impl_goodMatcher.lb y) (impl_goodMatcher.st y) = impl_goodMatcher.step n (fun z => goto (impl_goodMatcher.lb z) (impl_goodMatcher.st z)) y := by
  cases y <;> kernel_rfl
theorem impl_goodMatcher.text : Text Go.Proofs.Try.prog impl_goodMatcher.F impl_goodMatcher.spec := ⟨⟨Go.Proofs.Try.f165, by kernel_rfl, by kernel_rfl, by decide +kernel, by kernel_rfl, by kernel_rfl, of_decide_eq_true (by kernel_rfl)⟩, fun _ => rfl, fun _ => rfl, rfl⟩
theorem impl_goodMatcher.ok : CtrOK Go.Proofs.Try.prog gl impl_goodMatcher.spec :=
  ctr_ok (T := impl_goodMatcher.T) (F := impl_goodMatcher.F) (lb := impl_goodMatcher.lb) (st := impl_goodMatcher.st) (step := impl_goodMatcher.step) (md := impl_goodMatcher.md) tabs impl_goodMatcher.text impl_goodMatcher.seg_eq (fun n x => ⟨.p0 x.1, rfl, rfl, rfl⟩) (consC impl_isName.ok (consC impl_printed.ok (consC impl_GoodPattern.ok (nilC))))

/-! loop.example/g00039/impl.GoodMatchers$1 -/
def impl_GoodMatchers_1.T : List Ctr := [impl_goodMatcher.spec]
def impl_GoodMatchers_1.md : List (Nat × List Md) := []
noncomputable def impl_GoodMatchers_1.F : Fun := ⟨(Go.Proofs.Try.f164.body).getD .skip, [.v (.pair .str (.pair (.int .i64) (.pair .str .unit)))], [(.tmp 2, .bool)], [], 0, []⟩
inductive impl_GoodMatchers_1.Pt where
  | p0 (a0 : (ByteArray) × ((Int) × ((ByteArray) × (Unit))))
def impl_GoodMatchers_1.lb : impl_GoodMatchers_1.Pt → Nat
  | .p0 _ => 0
def impl_GoodMatchers_1.st : impl_GoodMatchers_1.Pt → St
  | .p0 a0 => enter [.v (.pair .str (.pair (.int .i64) (.pair .str .unit))) a0] 0
def impl_GoodMatchers_1.step (n : Nat) (K : impl_GoodMatchers_1.Pt → Option (Tup [.bool])) : impl_GoodMatchers_1.Pt → Option (Tup [.bool])
  | .p0 a0 => (impl_goodMatcher n a0).bind fun r4 => some (!r4)
def impl_GoodMatchers_1 (n : Nat) (a0 : (ByteArray) × ((Int) × ((ByteArray) × (Unit)))) : Option (Tup [.bool]) := goRec impl_GoodMatchers_1.step n (.p0 a0)
def impl_GoodMatchers_1.spec : Ctr := ⟨164, [.v (.pair .str (.pair (.int .i64) (.pair .str .unit)))], [.bool], [], fun n x => impl_GoodMatchers_1 n x.1⟩
theorem impl_GoodMatchers_1.seg_eq (n : Nat) (goto : Nat → St → Option (Tup [.bool])) (y : impl_GoodMatchers_1.Pt) : seg ⟨ty, gl, impl_GoodMatchers_1.md, calOf impl_GoodMatchers_1.T n⟩ impl_GoodMatchers_1.F.np impl_GoodMatchers_1.F.ks goto (impl_GoodMatchers_1.F.fin ⟨ty, gl, impl_GoodMatchers_1.md, calOf impl_GoodMatchers_1.T 0⟩ [.bool]) impl_GoodMatchers_1.F.c (impl_GoodMatchers_1.lb y) (impl_GoodMatchers_1.st y) = impl_GoodMatchers_1.step n (fun z => goto (impl_GoodMatchers_1.lb z) (impl_GoodMatchers_1.st z)) y := by
  cases y <;> kernel_rfl
theorem impl_GoodMatchers_1.text : Text Go.Proofs.Try.prog impl_GoodMatchers_1.F impl_GoodMatchers_1.spec := ⟨⟨Go.Proofs.Try.f164, by kernel_rfl, by kernel_rfl, by decide +kernel, by kernel_rfl, by kernel_rfl, of_decide_eq_true (by kernel_rfl)⟩, fun _ => rfl, fun _ => rfl, rfl⟩
theorem impl_GoodMatchers_1.ok : CtrOK Go.Proofs.Try.prog gl impl_GoodMatchers_1.spec :=
  ctr_ok (T := impl_GoodMatchers_1.T) (F := impl_GoodMatchers_1.F) (lb := impl_GoodMatchers_1.lb) (st := impl_GoodMatchers_1.st) (step := impl_GoodMatchers_1.step) (md := impl_GoodMatchers_1.md) tabs impl_GoodMatchers_1.text impl_GoodMatchers_1.seg_eq (fun n x => ⟨.p0 x.1, rfl, rfl, rfl⟩) (consC impl_goodMatcher.ok (nilC))

/-! slices.IndexFunc[[]loop.example/g00039/impl.Matcher,loop.example/g00039/impl.Matcher] -/
def slices_IndexFunc_Matcher_impl_GoodMatchers_1.T : List Ctr := [impl_GoodMatchers_1.spec]
def slices_IndexFunc_Matcher_impl_GoodMatchers_1.md : List (Nat × List Md) := []
noncomputable def slices_IndexFunc_Matcher_impl_GoodMatchers_1.F : Fun := ⟨(Go.Proofs.Try.f197.body).getD .skip, [.v (.sl false (.pair .str (.pair (.int .i64) (.pair .str .unit)))), .fn 164 []], [(.tmp 4, (.int .i64))], [], 0, [(7, ⟨[0, 1, 7, 8], [], []⟩)]⟩
inductive slices_IndexFunc_Matcher_impl_GoodMatchers_1.Pt where
  | p0 (a0 : List ((ByteArray) × ((Int) × ((ByteArray) × (Unit)))))
  | p7 (y1 : List ((ByteArray) × ((Int) × ((ByteArray) × (Unit))))) (y2 : Int) (y3 : Int)
def slices_IndexFunc_Matcher_impl_GoodMatchers_1.lb : slices_IndexFunc_Matcher_impl_GoodMatchers_1.Pt → Nat
  | .p0 _ => 0
  | .p7 _ _ _ => 7
def slices_IndexFunc_Matcher_impl_GoodMatchers_1.st : slices_IndexFunc_Matcher_impl_GoodMatchers_1.Pt → St
  | .p0 a0 => enter [.v (.sl false (.pair .str (.pair (.int .i64) (.pair .str .unit)))) a0, .fn 164 []] 0
  | .p7 y1 y2 y3 => ⟨[(0, .im (.sl false (.pair .str (.pair (.int .i64) (.pair .str .unit)))) y1), (1, .fn 164 []), (7, .im (.int .i64) y2), (8, .im (.int .i64) y3)], [], 0⟩
def slices_IndexFunc_Matcher_impl_GoodMatchers_1.step (n : Nat) (K : slices_IndexFunc_Matcher_impl_GoodMatchers_1.Pt → Option (Tup [(.int .i64)])) : slices_IndexFunc_Matcher_impl_GoodMatchers_1.Pt → Option (Tup [(.int .i64)])
  | .p0 a0 => K (.p7 a0 ((List.length a0) : Int) (0 : Int))
  | .p7 y1 y2 y3 => cond (decide (y3 < y2)) (cond (inB y3 (List.length y1)) ((impl_GoodMatchers_1 n (List.getD y1 (Int.toNat y3) default)).bind fun r6 => cond r6 (some y3) (K (.p7 y1 y2 (IntKind.wrap .i64 (y3 + (1 : Int)))))) (none)) (some (-(1 : Int)))
def slices_IndexFunc_Matcher_impl_GoodMatchers_1 (n : Nat) (a0 : List ((ByteArray) × ((Int) × ((ByteArray) × (Unit))))) : Option (Tup [(.int .i64)]) := goRec slices_IndexFunc_Matcher_impl_GoodMatchers_1.step n (.p0 a0)
def slices_IndexFunc_Matcher_impl_GoodMatchers_1.spec : Ctr := ⟨197, [.v (.sl false (.pair .str (.pair (.int .i64) (.pair .str .unit)))), .fn 164 []], [(.int .i64)], [], fun n x => slices_IndexFunc_Matcher_impl_GoodMatchers_1 n x.1⟩
theorem slices_IndexFunc_Matcher_impl_GoodMatchers_1.seg_eq (n : Nat) (goto : Nat → St → Option (Tup [(.int .i64)])) (y : slices_IndexFunc_Matcher_impl_GoodMatchers_1.Pt) : seg ⟨ty, gl, slices_IndexFunc_Matcher_impl_GoodMatchers_1.md, calOf slices_IndexFunc_Matcher_impl_GoodMatchers_1.T n⟩ slices_IndexFunc_Matcher_impl_GoodMatchers_1.F.np slices_IndexFunc_Matcher_impl_GoodMatchers_1.F.ks goto (slices_IndexFunc_Matcher_impl_GoodMatchers_1.F.fin ⟨ty, gl, slices_IndexFunc_Matcher_impl_GoodMatchers_1.md, calOf slices_IndexFunc_Matcher_impl_GoodMatchers_1.T 0⟩ [(.int .i64)]) slices_IndexFunc_Matcher_impl_GoodMatchers_1.F.c (slices_IndexFunc_Matcher_impl_GoodMatchers_1.lb y) (slices_IndexFunc_Matcher_impl_GoodMatchers_1.st y) = slices_IndexFunc_Matcher_impl_GoodMatchers_1.step n (fun z => goto (slices_IndexFunc_Matcher_impl_GoodMatchers_1.lb z) (slices_IndexFunc_Matcher_impl_GoodMatchers_1.st z)) y := by
  cases y <;> kernel_rfl
theorem slices_IndexFunc_Matcher_impl_GoodMatchers_1.text : Text Go.Proofs.Try.prog slices_IndexFunc_Matcher_impl_GoodMatchers_1.F slices_IndexFunc_Matcher_impl_GoodMatchers_1.spec := ⟨⟨Go.Proofs.Try.f197, by kernel_rfl, by kernel_rfl, by decide +kernel, by kernel_rfl, by kernel_rfl, of_decide_eq_true (by kernel_rfl)⟩, fun _ => rfl, fun _ => rfl, rfl⟩
theorem slices_IndexFunc_Matcher_impl_GoodMatchers_1.ok : CtrOK Go.Proofs.Try.prog gl slices_IndexFunc_Matcher_impl_GoodMatchers_1.spec :=
  ctr_ok (T := slices_IndexFunc_Matcher_impl_GoodMatchers_1.T) (F := slices_IndexFunc_Matcher_impl_GoodMatchers_1.F) (lb := slices_IndexFunc_Matcher_impl_GoodMatchers_1.lb) (st := slices_IndexFunc_Matcher_impl_GoodMatchers_1.st) (step := slices_IndexFunc_Matcher_impl_GoodMatchers_1.step) (md := slices_IndexFunc_Matcher_impl_GoodMatchers_1.md) tabs slices_IndexFunc_Matcher_impl_GoodMatchers_1.text slices_IndexFunc_Matcher_impl_GoodMatchers_1.seg_eq (fun n x => ⟨.p0 x.1, rfl, rfl, rfl⟩) (consC impl_GoodMatchers_1.ok (nilC))

/-! slices.ContainsFunc[[]loop.example/g00039/impl.Matcher,loop.example/g00039/impl.Matcher] -/
def slices_ContainsFunc_Matcher_impl_GoodMatchers_1.T : List Ctr := [slices_IndexFunc_Matcher_impl_GoodMatchers_1.spec]
def slices_ContainsFunc_Matcher_impl_GoodMatchers_1.md : List (Nat × List Md) := [(197, [.v, .fn])]
noncomputable def slices_ContainsFunc_Matcher_impl_GoodMatchers_1.F : Fun := ⟨(Go.Proofs.Try.f163.body).getD .skip, [.v (.sl false (.pair .str (.pair (.int .i64) (.pair .str .unit)))), .fn 164 []], [(.tmp 4, .bool)], [], 0, []⟩
inductive slices_ContainsFunc_Matcher_impl_GoodMatchers_1.Pt where
  | p0 (a0 : List ((ByteArray) × ((Int) × ((ByteArray) × (Unit)))))
def slices_ContainsFunc_Matcher_impl_GoodMatchers_1.lb : slices_ContainsFunc_Matcher_impl_GoodMatchers_1.Pt → Nat
  | .p0 _ => 0
def slices_ContainsFunc_Matcher_impl_GoodMatchers_1.st : slices_ContainsFunc_Matcher_impl_GoodMatchers_1.Pt → St
  | .p0 a0 => enter [.v (.sl false (.pair .str (.pair (.int .i64) (.pair .str .unit)))) a0, .fn 164 []] 0
def slices_ContainsFunc_Matcher_impl_GoodMatchers_1.step (n : Nat) (K : slices_ContainsFunc_Matcher_impl_GoodMatchers_1.Pt → Option (Tup [.bool])) : slices_ContainsFunc_Matcher_impl_GoodMatchers_1.Pt → Option (Tup [.bool])
  | .p0 a0 => (slices_IndexFunc_Matcher_impl_GoodMatchers_1 n a0).bind fun (r4 : Int) => some (decide ((0 : Int) ≤ r4))
def slices_ContainsFunc_Matcher_impl_GoodMatchers_1 (n : Nat) (a0 : List ((ByteArray) × ((Int) × ((ByteArray) × (Unit))))) : Option (Tup [.bool]) := goRec slices_ContainsFunc_Matcher_impl_GoodMatchers_1.step n (.p0 a0)
def slices_ContainsFunc_Matcher_impl_GoodMatchers_1.spec : Ctr := ⟨163, [.v (.sl false (.pair .str (.pair (.int .i64) (.pair .str .unit)))), .fn 164 []], [.bool], [], fun n x => slices_ContainsFunc_Matcher_impl_GoodMatchers_1 n x.1⟩
theorem slices_ContainsFunc_Matcher_impl_GoodMatchers_1.seg_eq (n : Nat) (goto : Nat → St → Option (Tup [.bool])) (y : slices_ContainsFunc_Matcher_impl_GoodMatchers_1.Pt) : seg ⟨ty, gl, slices_ContainsFunc_Matcher_impl_GoodMatchers_1.md, calOf slices_ContainsFunc_Matcher_impl_GoodMatchers_1.T n⟩ slices_ContainsFunc_Matcher_impl_GoodMatchers_1.F.np slices_ContainsFunc_Matcher_impl_GoodMatchers_1.F.ks goto (slices_ContainsFunc_Matcher_impl_GoodMatchers_1.F.fin ⟨ty, gl, slices_ContainsFunc_Matcher_impl_GoodMatchers_1.md, calOf slices_ContainsFunc_Matcher_impl_GoodMatchers_1.T 0⟩ [.bool]) slices_ContainsFunc_Matcher_impl_GoodMatchers_1.F.c (slices_ContainsFunc_Matcher_impl_GoodMatchers_1.lb y) (slices_ContainsFunc_Matcher_impl_GoodMatchers_1.st y) = slices_ContainsFunc_Matcher_impl_GoodMatchers_1.step n (fun z => goto (slices_ContainsFunc_Matcher_impl_GoodMatchers_1.lb z) (slices_ContainsFunc_Matcher_impl_GoodMatchers_1.st z)) y := by
  cases y <;> kernel_rfl
theorem slices_ContainsFunc_Matcher_impl_GoodMatchers_1.text : Text Go.Proofs.Try.prog slices_ContainsFunc_Matcher_impl_GoodMatchers_1.F slices_ContainsFunc_Matcher_impl_GoodMatchers_1.spec := ⟨⟨Go.Proofs.Try.f163, by kernel_rfl, by kernel_rfl, by decide +kernel, by kernel_rfl, by kernel_rfl, of_decide_eq_true (by kernel_rfl)⟩, fun _ => rfl, fun _ => rfl, rfl⟩
theorem slices_ContainsFunc_Matcher_impl_GoodMatchers_1.ok : CtrOK Go.Proofs.Try.prog gl slices_ContainsFunc_Matcher_impl_GoodMatchers_1.spec :=
  ctr_ok (T := slices_ContainsFunc_Matcher_impl_GoodMatchers_1.T) (F := slices_ContainsFunc_Matcher_impl_GoodMatchers_1.F) (lb := slices_ContainsFunc_Matcher_impl_GoodMatchers_1.lb) (st := slices_ContainsFunc_Matcher_impl_GoodMatchers_1.st) (step := slices_ContainsFunc_Matcher_impl_GoodMatchers_1.step) (md := slices_ContainsFunc_Matcher_impl_GoodMatchers_1.md) tabs slices_ContainsFunc_Matcher_impl_GoodMatchers_1.text slices_ContainsFunc_Matcher_impl_GoodMatchers_1.seg_eq (fun n x => ⟨.p0 x.1, rfl, rfl, rfl⟩) (consC slices_IndexFunc_Matcher_impl_GoodMatchers_1.ok (nilC))

/-! loop.example/g00039/impl.GoodMatchers -/
def impl_GoodMatchers.T : List Ctr := [impl_GoodMatchers_1.spec, slices_ContainsFunc_Matcher_impl_GoodMatchers_1.spec]
def impl_GoodMatchers.md : List (Nat × List Md) := [(163, [.v, .fn])]
noncomputable def impl_GoodMatchers.F : Fun := ⟨(Go.Proofs.Try.f103.body).getD .skip, [.v (.sl false (.pair .str (.pair (.int .i64) (.pair .str .unit))))], [(.tmp 2, .bool)], [], 0, []⟩
inductive impl_GoodMatchers.Pt where
  | p0 (a0 : List ((ByteArray) × ((Int) × ((ByteArray) × (Unit)))))
def impl_GoodMatchers.lb : impl_GoodMatchers.Pt → Nat
  | .p0 _ => 0
def impl_GoodMatchers.st : impl_GoodMatchers.Pt → St
  | .p0 a0 => enter [.v (.sl false (.pair .str (.pair (.int .i64) (.pair .str .unit)))) a0] 0
def impl_GoodMatchers.step (n : Nat) (K : impl_GoodMatchers.Pt → Option (Tup [.bool])) : impl_GoodMatchers.Pt → Option (Tup [.bool])
  | .p0 a0 => cond (decide (((List.length a0) : Int) ≤ (10 : Int))) ((slices_ContainsFunc_Matcher_impl_GoodMatchers_1 n a0).bind fun r4 => some (!r4)) (some false)
def impl_GoodMatchers (n : Nat) (a0 : List ((ByteArray) × ((Int) × ((ByteArray) × (Unit))))) : Option (Tup [.bool]) := goRec impl_GoodMatchers.step n (.p0 a0)
def impl_GoodMatchers.spec : Ctr := ⟨103, [.v (.sl false (.pair .str (.pair (.int .i64) (.pair .str .unit))))], [.bool], [], fun n x => impl_GoodMatchers n x.1⟩
theorem impl_GoodMatchers.seg_eq (n : Nat) (goto : Nat → St → Option (Tup [.bool])) (y : impl_GoodMatchers.Pt) : seg ⟨ty, gl, impl_GoodMatchers.md, calOf impl_GoodMatchers.T n⟩ impl_GoodMatchers.F.np impl_GoodMatchers.F.ks goto (impl_GoodMatchers.F.fin ⟨ty, gl, impl_GoodMatchers.md, calOf impl_GoodMatchers.T 0⟩ [.bool]) impl_GoodMatchers.F.c (impl_GoodMatchers.lb y) (impl_GoodMatchers.st y) = impl_GoodMatchers.step n (fun z => goto (impl_GoodMatchers.lb z) (impl_GoodMatchers.st z)) y := by
  cases y <;> kernel_rfl
theorem impl_GoodMatchers.text : Text Go.Proofs.Try.prog impl_GoodMatchers.F impl_GoodMatchers.spec := ⟨⟨Go.Proofs.Try.f103, by kernel_rfl, by kernel_rfl, by decide +kernel, by kernel_rfl, by kernel_rfl, of_decide_eq_true (by kernel_rfl)⟩, fun _ => rfl, fun _ => rfl, rfl⟩
theorem impl_GoodMatchers.ok : CtrOK Go.Proofs.Try.prog gl impl_GoodMatchers.spec :=
  ctr_ok (T := impl_GoodMatchers.T) (F := impl_GoodMatchers.F) (lb := impl_GoodMatchers.lb) (st := impl_GoodMatchers.st) (step := impl_GoodMatchers.step) (md := impl_GoodMatchers.md) tabs impl_GoodMatchers.text impl_GoodMatchers.seg_eq (fun n x => ⟨.p0 x.1, rfl, rfl, rfl⟩) (consC impl_GoodMatchers_1.ok (consC slices_ContainsFunc_Matcher_impl_GoodMatchers_1.ok (nilC)))

/-! loop.example/g00039/impl.rising[string] -/
def impl_rising_string.T : List Ctr := []
def impl_rising_string.md : List (Nat × List Md) := []
noncomputable def impl_rising_string.F : Fun := ⟨(Go.Proofs.Try.f171.body).getD .skip, [.v (.sl false .str)], [(.tmp 2, .bool)], [], 0, [(7, ⟨[0, 3], [], []⟩)]⟩
inductive impl_rising_string.Pt where
  | p0 (a0 : List (ByteArray))
  | p7 (y1 : List (ByteArray)) (y2 : Int)
def impl_rising_string.lb : impl_rising_string.Pt → Nat
  | .p0 _ => 0
  | .p7 _ _ => 7
def impl_rising_string.st : impl_rising_string.Pt → St
  | .p0 a0 => enter [.v (.sl false .str) a0] 0
  | .p7 y1 y2 => ⟨[(0, .im (.sl false .str) y1), (3, .im (.int .i64) y2)], [], 0⟩
def impl_rising_string.step (n : Nat) (K : impl_rising_string.Pt → Option (Tup [.bool])) : impl_rising_string.Pt → Option (Tup [.bool])
  | .p0 a0 => K (.p7 a0 (1 : Int))
  | .p7 y1 y2 => cond (decide (y2 < ((List.length y1) : Int))) (cond (inB (IntKind.wrap .i64 (y2 - (1 : Int))) (List.length y1)) (cond (inB y2 (List.length y1)) (cond (!(slt (List.getD y1 (Int.toNat (IntKind.wrap .i64 (y2 - (1 : Int)))) default) (List.getD y1 (Int.toNat y2) default))) (some false) (K (.p7 y1 (IntKind.wrap .i64 (y2 + (1 : Int)))))) (none)) (none)) (some true)
def impl_rising_string (n : Nat) (a0 : List (ByteArray)) : Option (Tup [.bool]) := goRec impl_rising_string.step n (.p0 a0)
def impl_rising_string.spec : Ctr := ⟨171, [.v (.sl false .str)], [.bool], [], fun n x => impl_rising_string n x.1⟩
theorem impl_rising_string.seg_eq (n : Nat) (goto : Nat → St → Option (Tup [.bool])) (y : impl_rising_string.Pt) : seg ⟨ty, gl, impl_rising_string.md, calOf impl_rising_string.T n⟩ impl_rising_string.F.np impl_rising_string.F.ks goto (impl_rising_string.F.fin ⟨ty, gl, impl_rising_string.md, calOf impl_rising_string.T 0⟩ [.bool]) impl_rising_string.F.c (impl_rising_string.lb y) (impl_rising_string.st y) = impl_rising_string.step n (fun z => goto (impl_rising_string.lb z) (impl_rising_string.st z)) y := by
  cases y <;> kernel_rfl
theorem impl_rising_string.text : Text Go.Proofs.Try.prog impl_rising_string.F impl_rising_string.spec := ⟨⟨Go.Proofs.Try.f171, by kernel_rfl, by kernel_rfl, by decide +kernel, by kernel_rfl, by kernel_rfl, of_decide_eq_true (by kernel_rfl)⟩, fun _ => rfl, fun _ => rfl, rfl⟩
theorem impl_rising_string.ok : CtrOK Go.Proofs.Try.prog gl impl_rising_string.spec :=
  ctr_ok (T := impl_rising_string.T) (F := impl_rising_string.F) (lb := impl_rising_string.lb) (st := impl_rising_string.st) (step := impl_rising_string.step) (md := impl_rising_string.md) tabs impl_rising_string.text impl_rising_string.seg_eq (fun n x => ⟨.p0 x.1, rfl, rfl, rfl⟩) (nilC)

/-! loop.example/g00039/impl.goodNames$1 -/
def impl_goodNames_1.T : List Ctr := [impl_isName.spec]
def impl_goodNames_1.md : List (Nat × List Md) := []
noncomputable def impl_goodNames_1.F : Fun := ⟨(Go.Proofs.Try.f172.body).getD .skip, [.v .str], [(.tmp 2, .bool)], [], 0, []⟩
inductive impl_goodNames_1.Pt where
  | p0 (a0 : ByteArray)
def impl_goodNames_1.lb : impl_goodNames_1.Pt → Nat
  | .p0 _ => 0
def impl_goodNames_1.st : impl_goodNames_1.Pt → St
  | .p0 a0 => enter [.v .str a0] 0
def impl_goodNames_1.step (n : Nat) (K : impl_goodNames_1.Pt → Option (Tup [.bool])) : impl_goodNames_1.Pt → Option (Tup [.bool])
  | .p0 a0 => (impl_isName n a0).bind fun r4 => some (!r4)
def impl_goodNames_1 (n : Nat) (a0 : ByteArray) : Option (Tup [.bool]) := goRec impl_goodNames_1.step n (.p0 a0)
def impl_goodNames_1.spec : Ctr := ⟨172, [.v .str], [.bool], [], fun n x => impl_goodNames_1 n x.1⟩
theorem impl_goodNames_1.seg_eq (n : Nat) (goto : Nat → St → Option (Tup [.bool])) (y : impl_goodNames_1.Pt) : seg ⟨ty, gl, impl_goodNames_1.md, calOf impl_goodNames_1.T n⟩ impl_goodNames_1.F.np impl_goodNames_1.F.ks goto (impl_goodNames_1.F.fin ⟨ty, gl, impl_goodNames_1.md, calOf impl_goodNames_1.T 0⟩ [.bool]) impl_goodNames_1.F.c (impl_goodNames_1.lb y) (impl_goodNames_1.st y) = impl_goodNames_1.step n (fun z => goto (impl_goodNames_1.lb z) (impl_goodNames_1.st z)) y := by
  cases y <;> kernel_rfl
theorem impl_goodNames_1.text : Text Go.Proofs.Try.prog impl_goodNames_1.F impl_goodNames_1.spec := ⟨⟨Go.Proofs.Try.f172, by kernel_rfl, by kernel_rfl, by decide +kernel, by kernel_rfl, by kernel_rfl, of_decide_eq_true (by kernel_rfl)⟩, fun _ => rfl, fun _ => rfl, rfl⟩
theorem impl_goodNames_1.ok : CtrOK Go.Proofs.Try.prog gl impl_goodNames_1.spec :=
  ctr_ok (T := impl_goodNames_1.T) (F := impl_goodNames_1.F) (lb := impl_goodNames_1.lb) (st := impl_goodNames_1.st) (step := impl_goodNames_1.step) (md := impl_goodNames_1.md) tabs impl_goodNames_1.text impl_goodNames_1.seg_eq (fun n x => ⟨.p0 x.1, rfl, rfl, rfl⟩) (consC impl_isName.ok (nilC))

/-! slices.IndexFunc[[]string,string] -/
def slices_IndexFunc_string_impl_goodNames_1.T : List Ctr := [impl_goodNames_1.spec]
def slices_IndexFunc_string_impl_goodNames_1.md : List (Nat × List Md) := []
noncomputable def slices_IndexFunc_string_impl_goodNames_1.F : Fun := ⟨(Go.Proofs.Try.f173.body).getD .skip, [.v (.sl false .str), .fn 172 []], [(.tmp 4, (.int .i64))], [], 0, [(7, ⟨[0, 1, 7, 8], [], []⟩)]⟩
inductive slices_IndexFunc_string_impl_goodNames_1.Pt where
  | p0 (a0 : List (ByteArray))
  | p7 (y1 : List (ByteArray)) (y2 : Int) (y3 : Int)
def slices_IndexFunc_string_impl_goodNames_1.lb : slices_IndexFunc_string_impl_goodNames_1.Pt → Nat
  | .p0 _ => 0
  | .p7 _ _ _ => 7
def slices_IndexFunc_string_impl_goodNames_1.st : slices_IndexFunc_string_impl_goodNames_1.Pt → St
  | .p0 a0 => enter [.v (.sl false .str) a0, .fn 172 []] 0
  | .p7 y1 y2 y3 => ⟨[(0, .im (.sl false .str) y1), (1, .fn 172 []), (7, .im (.int .i64) y2), (8, .im (.int .i64) y3)], [], 0⟩
def slices_IndexFunc_string_impl_goodNames_1.step (n : Nat) (K : slices_IndexFunc_string_impl_goodNames_1.Pt → Option (Tup [(.int .i64)])) : slices_IndexFunc_string_impl_goodNames_1.Pt → Option (Tup [(.int .i64)])
  | .p0 a0 => K (.p7 a0 ((List.length a0) : Int) (0 : Int))
  | .p7 y1 y2 y3 => cond (decide (y3 < y2)) (cond (inB y3 (List.length y1)) ((impl_goodNames_1 n (List.getD y1 (Int.toNat y3) default)).bind fun r6 => cond r6 (some y3) (K (.p7 y1 y2 (IntKind.wrap .i64 (y3 + (1 : Int)))))) (none)) (some (-(1 : Int)))
def slices_IndexFunc_string_impl_goodNames_1 (n : Nat) (a0 : List (ByteArray)) : Option (Tup [(.int .i64)]) := goRec slices_IndexFunc_string_impl_goodNames_1.step n (.p0 a0)
def slices_IndexFunc_string_impl_goodNames_1.spec : Ctr := ⟨173, [.v (.sl false .str), .fn 172 []], [(.int .i64)], [], fun n x => slices_IndexFunc_string_impl_goodNames_1 n x.1⟩
theorem slices_IndexFunc_string_impl_goodNames_1.seg_eq (n : Nat) (goto : Nat → St → Option (Tup [(.int .i64)])) (y : slices_IndexFunc_string_impl_goodNames_1.Pt) : seg ⟨ty, gl, slices_IndexFunc_string_impl_goodNames_1.md, calOf slices_IndexFunc_string_impl_goodNames_1.T n⟩ slices_IndexFunc_string_impl_goodNames_1.F.np slices_IndexFunc_string_impl_goodNames_1.F.ks goto (slices_IndexFunc_string_impl_goodNames_1.F.fin ⟨ty, gl, slices_IndexFunc_string_impl_goodNames_1.md, calOf slices_IndexFunc_string_impl_goodNames_1.T 0⟩ [(.int .i64)]) slices_IndexFunc_string_impl_goodNames_1.F.c (slices_IndexFunc_string_impl_goodNames_1.lb y) (slices_IndexFunc_string_impl_goodNames_1.st y) = slices_IndexFunc_string_impl_goodNames_1.step n (fun z => goto (slices_IndexFunc_string_impl_goodNames_1.lb z) (slices_IndexFunc_string_impl_goodNames_1.st z)) y := by
  cases y <;> kernel_rfl
theorem slices_IndexFunc_string_impl_goodNames_1.text : Text Go.Proofs.Try.prog slices_IndexFunc_string_impl_goodNames_1.F slices_IndexFunc_string_impl_goodNames_1.spec := ⟨⟨Go.Proofs.Try.f173, by kernel_rfl, by kernel_rfl, by decide +kernel, by kernel_rfl, by kernel_rfl, of_decide_eq_true (by kernel_rfl)⟩, fun _ => rfl, fun _ => rfl, rfl⟩
theorem slices_IndexFunc_string_impl_goodNames_1.ok : CtrOK Go.Proofs.Try.prog gl slices_IndexFunc_string_impl_goodNames_1.spec :=
  ctr_ok (T := slices_IndexFunc_string_impl_goodNames_1.T) (F := slices_IndexFunc_string_impl_goodNames_1.F) (lb := slices_IndexFunc_string_impl_goodNames_1.lb) (st := slices_IndexFunc_string_impl_goodNames_1.st) (step := slices_IndexFunc_string_impl_goodNames_1.step) (md := slices_IndexFunc_string_impl_goodNames_1.md) tabs slices_IndexFunc_string_impl_goodNames_1.text slices_IndexFunc_string_impl_goodNames_1.seg_eq (fun n x => ⟨.p0 x.1, rfl, rfl, rfl⟩) (consC impl_goodNames_1.ok (nilC))

/-! slices.ContainsFunc[[]string,string] -/
def slices_ContainsFunc_string_impl_goodNames_1.T : List Ctr := [slices_IndexFunc_string_impl_goodNames_1.spec]
def slices_ContainsFunc_string_impl_goodNames_1.md : List (Nat × List Md) := [(173, [.v, .fn])]
noncomputable def slices_ContainsFunc_string_impl_goodNames_1.F : Fun := ⟨(Go.Proofs.Try.f115.body).getD .skip, [.v (.sl false .str), .fn 172 []], [(.tmp 4, .bool)], [], 0, []⟩
inductive slices_ContainsFunc_string_impl_goodNames_1.Pt where
  | p0 (a0 : List (ByteArray))
def slices_ContainsFunc_string_impl_goodNames_1.lb : slices_ContainsFunc_string_impl_goodNames_1.Pt → Nat
  | .p0 _ => 0
def slices_ContainsFunc_string_impl_goodNames_1.st : slices_ContainsFunc_string_impl_goodNames_1.Pt → St
  | .p0 a0 => enter [.v (.sl false .str) a0, .fn 172 []] 0
def slices_ContainsFunc_string_impl_goodNames_1.step (n : Nat) (K : slices_ContainsFunc_string_impl_goodNames_1.Pt → Option (Tup [.bool])) : slices_ContainsFunc_string_impl_goodNames_1.Pt → Option (Tup [.bool])
  | .p0 a0 => (slices_IndexFunc_string_impl_goodNames_1 n a0).bind fun (r4 : Int) => some (decide ((0 : Int) ≤ r4))
def slices_ContainsFunc_string_impl_goodNames_1 (n : Nat) (a0 : List (ByteArray)) : Option (Tup [.bool]) := goRec slices_ContainsFunc_string_impl_goodNames_1.step n (.p0 a0)
def slices_ContainsFunc_string_impl_goodNames_1.spec : Ctr := ⟨115, [.v (.sl false .str), .fn 172 []], [.bool], [], fun n x => slices_ContainsFunc_string_impl_goodNames_1 n x.1⟩
theorem slices_ContainsFunc_string_impl_goodNames_1.seg_eq (n : Nat) (goto : Nat → St → Option (Tup [.bool])) (y : slices_ContainsFunc_string_impl_goodNames_1.Pt) : seg ⟨ty, gl, slices_ContainsFunc_string_impl_goodNames_1.md, calOf slices_ContainsFunc_string_impl_goodNames_1.T n⟩ slices_ContainsFunc_string_impl_goodNames_1.F.np slices_ContainsFunc_string_impl_goodNames_1.F.ks goto (slices_ContainsFunc_string_impl_goodNames_1.F.fin ⟨ty, gl, slices_ContainsFunc_string_impl_goodNames_1.md, calOf slices_ContainsFunc_string_impl_goodNames_1.T 0⟩ [.bool]) slices_ContainsFunc_string_impl_goodNames_1.F.c (slices_ContainsFunc_string_impl_goodNames_1.lb y) (slices_ContainsFunc_string_impl_goodNames_1.st y) = slices_ContainsFunc_string_impl_goodNames_1.step n (fun z => goto (slices_ContainsFunc_string_impl_goodNames_1.lb z) (slices_ContainsFunc_string_impl_goodNames_1.st z)) y := by
  cases y <;> kernel_rfl
theorem slices_ContainsFunc_string_impl_goodNames_1.text : Text Go.Proofs.Try.prog slices_ContainsFunc_string_impl_goodNames_1.F slices_ContainsFunc_string_impl_goodNames_1.spec := ⟨⟨Go.Proofs.Try.f115, by kernel_rfl, by kernel_rfl, by decide +kernel, by kernel_rfl, by kernel_rfl, of_decide_eq_true (by kernel_rfl)⟩, fun _ => rfl, fun _ => rfl, rfl⟩
theorem slices_ContainsFunc_string_impl_goodNames_1.ok : CtrOK Go.Proofs.Try.prog gl slices_ContainsFunc_string_impl_goodNames_1.spec :=
  ctr_ok (T := slices_ContainsFunc_string_impl_goodNames_1.T) (F := slices_ContainsFunc_string_impl_goodNames_1.F) (lb := slices_ContainsFunc_string_impl_goodNames_1.lb) (st := slices_ContainsFunc_string_impl_goodNames_1.st) (step := slices_ContainsFunc_string_impl_goodNames_1.step) (md := slices_ContainsFunc_string_impl_goodNames_1.md) tabs slices_ContainsFunc_string_impl_goodNames_1.text slices_ContainsFunc_string_impl_goodNames_1.seg_eq (fun n x => ⟨.p0 x.1, rfl, rfl, rfl⟩) (consC slices_IndexFunc_string_impl_goodNames_1.ok (nilC))

/-! loop.example/g00039/impl.goodNames -/
def impl_goodNames.T : List Ctr := [impl_rising_string.spec, impl_goodNames_1.spec, slices_ContainsFunc_string_impl_goodNames_1.spec]
def impl_goodNames.md : List (Nat × List Md) := [(115, [.v, .fn])]
noncomputable def impl_goodNames.F : Fun := ⟨(Go.Proofs.Try.f113.body).getD .skip, [.v (.sl false .str)], [(.tmp 2, .bool)], [], 0, []⟩
inductive impl_goodNames.Pt where
  | p0 (a0 : List (ByteArray))
def impl_goodNames.lb : impl_goodNames.Pt → Nat
  | .p0 _ => 0
def impl_goodNames.st : impl_goodNames.Pt → St
  | .p0 a0 => enter [.v (.sl false .str) a0] 0
def impl_goodNames.step (n : Nat) (K : impl_goodNames.Pt → Option (Tup [.bool])) : impl_goodNames.Pt → Option (Tup [.bool])
  | .p0 a0 => cond (decide (((List.length a0) : Int) ≤ (10 : Int))) ((impl_rising_string n a0).bind fun r4 => cond r4 ((slices_ContainsFunc_string_impl_goodNames_1 n a0).bind fun r5 => some (!r5)) (some false)) (some false)
def impl_goodNames (n : Nat) (a0 : List (ByteArray)) : Option (Tup [.bool]) := goRec impl_goodNames.step n (.p0 a0)
def impl_goodNames.spec : Ctr := ⟨113, [.v (.sl false .str)], [.bool], [], fun n x => impl_goodNames n x.1⟩
theorem impl_goodNames.seg_eq (n : Nat) (goto : Nat → St → Option (Tup [.bool])) (y : impl_goodNames.Pt) : seg ⟨ty, gl, impl_goodNames.md, calOf impl_goodNames.T n⟩ impl_goodNames.F.np impl_goodNames.F.ks goto (impl_goodNames.F.fin ⟨ty, gl, impl_goodNames.md, calOf impl_goodNames.T 0⟩ [.bool]) impl_goodNames.F.c (impl_goodNames.lb y) (impl_goodNames.st y) = impl_goodNames.step n (fun z => goto (impl_goodNames.lb z) (impl_goodNames.st z)) y := by
  cases y <;> kernel_rfl
theorem impl_goodNames.text : Text Go.Proofs.Try.prog impl_goodNames.F impl_goodNames.spec := ⟨⟨Go.Proofs.Try.f113, by kernel_rfl, by kernel_rfl, by decide +kernel, by kernel_rfl, by kernel_rfl, of_decide_eq_true (by kernel_rfl)⟩, fun _ => rfl, fun _ => rfl, rfl⟩
theorem impl_goodNames.ok : CtrOK Go.Proofs.Try.prog gl impl_goodNames.spec :=
  ctr_ok (T := impl_goodNames.T) (F := impl_goodNames.F) (lb := impl_goodNames.lb) (st := impl_goodNames.st) (step := impl_goodNames.step) (md := impl_goodNames.md) tabs impl_goodNames.text impl_goodNames.seg_eq (fun n x => ⟨.p0 x.1, rfl, rfl, rfl⟩) (consC impl_rising_string.ok (consC impl_goodNames_1.ok (consC slices_ContainsFunc_string_impl_goodNames_1.ok (nilC))))

/-! loop.example/g00039/impl.GoodInhibits$1 -/
def impl_GoodInhibits_1.T : List Ctr := [impl_GoodMatchers.spec, impl_goodNames.spec]
def impl_GoodInhibits_1.md : List (Nat × List Md) := []
noncomputable def impl_GoodInhibits_1.F : Fun := ⟨(Go.Proofs.Try.f112.body).getD .skip, [.v (.pair (.sl false (.pair .str (.pair (.int .i64) (.pair .str .unit)))) (.pair (.sl false (.pair .str (.pair (.int .i64) (.pair .str .unit)))) (.pair (.sl false .str) .unit)))], [(.tmp 2, .bool)], [], 0, []⟩
inductive impl_GoodInhibits_1.Pt where
  | p0 (a0 : (List ((ByteArray) × ((Int) × ((ByteArray) × (Unit))))) × ((List ((ByteArray) × ((Int) × ((ByteArray) × (Unit))))) × ((List (ByteArray)) × (Unit))))
def impl_GoodInhibits_1.lb : impl_GoodInhibits_1.Pt → Nat
  | .p0 _ => 0
def impl_GoodInhibits_1.st : impl_GoodInhibits_1.Pt → St
  | .p0 a0 => enter [.v (.pair (.sl false (.pair .str (.pair (.int .i64) (.pair .str .unit)))) (.pair (.sl false (.pair .str (.pair (.int .i64) (.pair .str .unit)))) (.pair (.sl false .str) .unit))) a0] 0
def impl_GoodInhibits_1.step (n : Nat) (K : impl_GoodInhibits_1.Pt → Option (Tup [.bool])) : impl_GoodInhibits_1.Pt → Option (Tup [.bool])
  | .p0 a0 => cond (decide (((List.length a0.1) : Int) = (0 : Int))) (some true) (cond (decide (((List.length a0.2.1) : Int) = (0 : Int))) (some true) ((impl_GoodMatchers n a0.1).bind fun r4 => cond (!r4) (some true) ((impl_GoodMatchers n a0.2.1).bind fun r5 => cond (!r5) (some true) ((impl_goodNames n a0.2.2.1).bind fun r6 => some (!r6)))))
def impl_GoodInhibits_1 (n : Nat) (a0 : (List ((ByteArray) × ((Int) × ((ByteArray) × (Unit))))) × ((List ((ByteArray) × ((Int) × ((ByteArray) × (Unit))))) × ((List (ByteArray)) × (Unit)))) : Option (Tup [.bool]) := goRec impl_GoodInhibits_1.step n (.p0 a0)
def impl_GoodInhibits_1.spec : Ctr := ⟨112, [.v (.pair (.sl false (.pair .str (.pair (.int .i64) (.pair .str .unit)))) (.pair (.sl false (.pair .str (.pair (.int .i64) (.pair .str .unit)))) (.pair (.sl false .str) .unit)))], [.bool], [], fun n x => impl_GoodInhibits_1 n x.1⟩
theorem impl_GoodInhibits_1.seg_eq (n : Nat) (goto : Nat → St → Option (Tup [.bool])) (y : impl_GoodInhibits_1.Pt) : seg ⟨ty, gl, impl_GoodInhibits_1.md, calOf impl_GoodInhibits_1.T n⟩ impl_GoodInhibits_1.F.np impl_GoodInhibits_1.F.ks goto (impl_GoodInhibits_1.F.fin ⟨ty, gl, impl_GoodInhibits_1.md, calOf impl_GoodInhibits_1.T 0⟩ [.bool]) impl_GoodInhibits_1.F.c (impl_GoodInhibits_1.lb y) (impl_GoodInhibits_1.st y) = impl_GoodInhibits_1.step n (fun z => goto (impl_GoodInhibits_1.lb z) (impl_GoodInhibits_1.st z)) y := by
  cases y <;> kernel_rfl
theorem impl_GoodInhibits_1.text : Text Go.Proofs.Try.prog impl_GoodInhibits_1.F impl_GoodInhibits_1.spec := ⟨⟨Go.Proofs.Try.f112, by kernel_rfl, by kernel_rfl, by decide +kernel, by kernel_rfl, by kernel_rfl, of_decide_eq_true (by kernel_rfl)⟩, fun _ => rfl, fun _ => rfl, rfl⟩
theorem impl_GoodInhibits_1.ok : CtrOK Go.Proofs.Try.prog gl impl_GoodInhibits_1.spec :=
  ctr_ok (T := impl_GoodInhibits_1.T) (F := impl_GoodInhibits_1.F) (lb := impl_GoodInhibits_1.lb) (st := impl_GoodInhibits_1.st) (step := impl_GoodInhibits_1.step) (md := impl_GoodInhibits_1.md) tabs impl_GoodInhibits_1.text impl_GoodInhibits_1.seg_eq (fun n x => ⟨.p0 x.1, rfl, rfl, rfl⟩) (consC impl_GoodMatchers.ok (consC impl_goodNames.ok (nilC)))

/-! slices.IndexFunc[[]loop.example/g00039/impl.Inhibit,loop.example/g00039/impl.Inhibit] -/
def slices_IndexFunc_Inhibit_impl_GoodInhibits_1.T : List Ctr := [impl_GoodInhibits_1.spec]
def slices_IndexFunc_Inhibit_impl_GoodInhibits_1.md : List (Nat × List Md) := []
noncomputable def slices_IndexFunc_Inhibit_impl_GoodInhibits_1.F : Fun := ⟨(Go.Proofs.Try.f170.body).getD .skip, [.v (.sl false (.pair (.sl false (.pair .str (.pair (.int .i64) (.pair .str .unit)))) (.pair (.sl false (.pair .str (.pair (.int .i64) (.pair .str .unit)))) (.pair (.sl false .str) .unit)))), .fn 112 []], [(.tmp 4, (.int .i64))], [], 0, [(7, ⟨[0, 1, 7, 8], [], []⟩)]⟩
inductive slices_IndexFunc_Inhibit_impl_GoodInhibits_1.Pt where
  | p0 (a0 : List ((List ((ByteArray) × ((Int) × ((ByteArray) × (Unit))))) × ((List ((ByteArray) × ((Int) × ((ByteArray) × (Unit))))) × ((List (ByteArray)) × (Unit)))))
  | p7 (y1 : List ((List ((ByteArray) × ((Int) × ((ByteArray) × (Unit))))) × ((List ((ByteArray) × ((Int) × ((ByteArray) × (Unit))))) × ((List (ByteArray)) × (Unit))))) (y2 : Int) (y3 : Int)
def slices_IndexFunc_Inhibit_impl_GoodInhibits_1.lb : slices_IndexFunc_Inhibit_impl_GoodInhibits_1.Pt → Nat
  | .p0 _ => 0
  | .p7 _ _ _ => 7
def slices_IndexFunc_Inhibit_impl_GoodInhibits_1.st : slices_IndexFunc_Inhibit_impl_GoodInhibits_1.Pt → St
  | .p0 a0 => enter [.v (.sl false (.pair (.sl false (.pair .str (.pair (.int .i64) (.pair .str .unit)))) (.pair (.sl false (.pair .str (.pair (.int .i64) (.pair .str .unit)))) (.pair (.sl false .str) .unit)))) a0, .fn 112 []] 0
  | .p7 y1 y2 y3 => ⟨[(0, .im (.sl false (.pair (.sl false (.pair .str (.pair (.int .i64) (.pair .str .unit)))) (.pair (.sl false (.pair .str (.pair (.int .i64) (.pair .str .unit)))) (.pair (.sl false .str) .unit)))) y1), (1, .fn 112 []), (7, .im (.int .i64) y2), (8, .im (.int .i64) y3)], [], 0⟩
def slices_IndexFunc_Inhibit_impl_GoodInhibits_1.step (n : Nat) (K : slices_IndexFunc_Inhibit_impl_GoodInhibits_1.Pt → Option (Tup [(.int .i64)])) : slices_IndexFunc_Inhibit_impl_GoodInhibits_1.Pt → Option (Tup [(.int .i64)])
  | .p0 a0 => K (.p7 a0 ((List.length a0) : Int) (0 : Int))
  | .p7 y1 y2 y3 => cond (decide (y3 < y2)) (cond (inB y3 (List.length y1)) ((impl_GoodInhibits_1 n ((List.getD y1 (Int.toNat y3) default).1, ((List.getD y1 (Int.toNat y3) default).2.1, ((List.getD y1 (Int.toNat y3) default).2.2.1, ())))).bind fun r6 => cond r6 (some y3) (K (.p7 y1 y2 (IntKind.wrap .i64 (y3 + (1 : Int)))))) (none)) (some (-(1 : Int)))
def slices_IndexFunc_Inhibit_impl_GoodInhibits_1 (n : Nat) (a0 : List ((List ((ByteArray) × ((Int) × ((ByteArray) × (Unit))))) × ((List ((ByteArray) × ((Int) × ((ByteArray) × (Unit))))) × ((List (ByteArray)) × (Unit))))) : Option (Tup [(.int .i64)]) := goRec slices_IndexFunc_Inhibit_impl_GoodInhibits_1.step n (.p0 a0)
def slices_IndexFunc_Inhibit_impl_GoodInhibits_1.spec : Ctr := ⟨170, [.v (.sl false (.pair (.sl false (.pair .str (.pair (.int .i64) (.pair .str .unit)))) (.pair (.sl false (.pair .str (.pair (.int .i64) (.pair .str .unit)))) (.pair (.sl false .str) .unit)))), .fn 112 []], [(.int .i64)], [], fun n x => slices_IndexFunc_Inhibit_impl_GoodInhibits_1 n x.1⟩
theorem slices_IndexFunc_Inhibit_impl_GoodInhibits_1.seg_eq (n : Nat) (goto : Nat → St → Option (Tup [(.int .i64)])) (y : slices_IndexFunc_Inhibit_impl_GoodInhibits_1.Pt) : seg ⟨ty, gl, slices_IndexFunc_Inhibit_impl_GoodInhibits_1.md, calOf slices_IndexFunc_Inhibit_impl_GoodInhibits_1.T n⟩ slices_IndexFunc_Inhibit_impl_GoodInhibits_1.F.np slices_IndexFunc_Inhibit_impl_GoodInhibits_1.F.ks goto (slices_IndexFunc_Inhibit_impl_GoodInhibits_1.F.fin ⟨ty, gl, slices_IndexFunc_Inhibit_impl_GoodInhibits_1.md, calOf slices_IndexFunc_Inhibit_impl_GoodInhibits_1.T 0⟩ [(.int .i64)]) slices_IndexFunc_Inhibit_impl_GoodInhibits_1.F.c (slices_IndexFunc_Inhibit_impl_GoodInhibits_1.lb y) (slices_IndexFunc_Inhibit_impl_GoodInhibits_1.st y) = slices_IndexFunc_Inhibit_impl_GoodInhibits_1.step n (fun z => goto (slices_IndexFunc_Inhibit_impl_GoodInhibits_1.lb z) (slices_IndexFunc_Inhibit_impl_GoodInhibits_1.st z)) y := by
  cases y <;> kernel_rfl
theorem slices_IndexFunc_Inhibit_impl_GoodInhibits_1.text : Text Go.Proofs.Try.prog slices_IndexFunc_Inhibit_impl_GoodInhibits_1.F slices_IndexFunc_Inhibit_impl_GoodInhibits_1.spec := ⟨⟨Go.Proofs.Try.f170, by kernel_rfl, by kernel_rfl, by decide +kernel, by kernel_rfl, by kernel_rfl, of_decide_eq_true (by kernel_rfl)⟩, fun _ => rfl, fun _ => rfl, rfl⟩
theorem slices_IndexFunc_Inhibit_impl_GoodInhibits_1.ok : CtrOK Go.Proofs.Try.prog gl slices_IndexFunc_Inhibit_impl_GoodInhibits_1.spec :=
  ctr_ok (T := slices_IndexFunc_Inhibit_impl_GoodInhibits_1.T) (F := slices_IndexFunc_Inhibit_impl_GoodInhibits_1.F) (lb := slices_IndexFunc_Inhibit_impl_GoodInhibits_1.lb) (st := slices_IndexFunc_Inhibit_impl_GoodInhibits_1.st) (step := slices_IndexFunc_Inhibit_impl_GoodInhibits_1.step) (md := slices_IndexFunc_Inhibit_impl_GoodInhibits_1.md) tabs slices_IndexFunc_Inhibit_impl_GoodInhibits_1.text slices_IndexFunc_Inhibit_impl_GoodInhibits_1.seg_eq (fun n x => ⟨.p0 x.1, rfl, rfl, rfl⟩) (consC impl_GoodInhibits_1.ok (nilC))

/-! slices.ContainsFunc[[]loop.example/g00039/impl.Inhibit,loop.example/g00039/impl.Inhibit] -/
def slices_ContainsFunc_Inhibit_impl_GoodInhibits_1.T : List Ctr := [slices_IndexFunc_Inhibit_impl_GoodInhibits_1.spec]
def slices_ContainsFunc_Inhibit_impl_GoodInhibits_1.md : List (Nat × List Md) := [(170, [.v, .fn])]
noncomputable def slices_ContainsFunc_Inhibit_impl_GoodInhibits_1.F : Fun := ⟨(Go.Proofs.Try.f111.body).getD .skip, [.v (.sl false (.pair (.sl false (.pair .str (.pair (.int .i64) (.pair .str .unit)))) (.pair (.sl false (.pair .str (.pair (.int .i64) (.pair .str .unit)))) (.pair (.sl false .str) .unit)))), .fn 112 []], [(.tmp 4, .bool)], [], 0, []⟩
inductive slices_ContainsFunc_Inhibit_impl_GoodInhibits_1.Pt where
  | p0 (a0 : List ((List ((ByteArray) × ((Int) × ((ByteArray) × (Unit))))) × ((List ((ByteArray) × ((Int) × ((ByteArray) × (Unit))))) × ((List (ByteArray)) × (Unit)))))
def slices_ContainsFunc_Inhibit_impl_GoodInhibits_1.lb : slices_ContainsFunc_Inhibit_impl_GoodInhibits_1.Pt → Nat
  | .p0 _ => 0
def slices_ContainsFunc_Inhibit_impl_GoodInhibits_1.st : slices_ContainsFunc_Inhibit_impl_GoodInhibits_1.Pt → St
  | .p0 a0 => enter [.v (.sl false (.pair (.sl false (.pair .str (.pair (.int .i64) (.pair .str .unit)))) (.pair (.sl false (.pair .str (.pair (.int .i64) (.pair .str .unit)))) (.pair (.sl false .str) .unit)))) a0, .fn 112 []] 0
def slices_ContainsFunc_Inhibit_impl_GoodInhibits_1.step (n : Nat) (K : slices_ContainsFunc_Inhibit_impl_GoodInhibits_1.Pt → Option (Tup [.bool])) : slices_ContainsFunc_Inhibit_impl_GoodInhibits_1.Pt → Option (Tup [.bool])
  | .p0 a0 => (slices_IndexFunc_Inhibit_impl_GoodInhibits_1 n a0).bind fun (r4 : Int) => some (decide ((0 : Int) ≤ r4))
def slices_ContainsFunc_Inhibit_impl_GoodInhibits_1 (n : Nat) (a0 : List ((List ((ByteArray) × ((Int) × ((ByteArray) × (Unit))))) × ((List ((ByteArray) × ((Int) × ((ByteArray) × (Unit))))) × ((List (ByteArray)) × (Unit))))) : Option (Tup [.bool]) := goRec slices_ContainsFunc_Inhibit_impl_GoodInhibits_1.step n (.p0 a0)
def slices_ContainsFunc_Inhibit_impl_GoodInhibits_1.spec : Ctr := ⟨111, [.v (.sl false (.pair (.sl false (.pair .str (.pair (.int .i64) (.pair .str .unit)))) (.pair (.sl false (.pair .str (.pair (.int .i64) (.pair .str .unit)))) (.pair (.sl false .str) .unit)))), .fn 112 []], [.bool], [], fun n x => slices_ContainsFunc_Inhibit_impl_GoodInhibits_1 n x.1⟩
theorem slices_ContainsFunc_Inhibit_impl_GoodInhibits_1.seg_eq (n : Nat) (goto : Nat → St → Option (Tup [.bool])) (y : slices_ContainsFunc_Inhibit_impl_GoodInhibits_1.Pt) : seg ⟨ty, gl, slices_ContainsFunc_Inhibit_impl_GoodInhibits_1.md, calOf slices_ContainsFunc_Inhibit_impl_GoodInhibits_1.T n⟩ slices_ContainsFunc_Inhibit_impl_GoodInhibits_1.F.np slices_ContainsFunc_Inhibit_impl_GoodInhibits_1.F.ks goto (slices_ContainsFunc_Inhibit_impl_GoodInhibits_1.F.fin ⟨ty, gl, slices_ContainsFunc_Inhibit_impl_GoodInhibits_1.md, calOf slices_ContainsFunc_Inhibit_impl_GoodInhibits_1.T 0⟩ [.bool]) slices_ContainsFunc_Inhibit_impl_GoodInhibits_1.F.c (slices_ContainsFunc_Inhibit_impl_GoodInhibits_1.lb y) (slices_ContainsFunc_Inhibit_impl_GoodInhibits_1.st y) = slices_ContainsFunc_Inhibit_impl_GoodInhibits_1.step n (fun z => goto (slices_ContainsFunc_Inhibit_impl_GoodInhibits_1.lb z) (slices_ContainsFunc_Inhibit_impl_GoodInhibits_1.st z)) y := by
  cases y <;> kernel_rfl
theorem slices_ContainsFunc_Inhibit_impl_GoodInhibits_1.text : Text Go.Proofs.Try.prog slices_ContainsFunc_Inhibit_impl_GoodInhibits_1.F slices_ContainsFunc_Inhibit_impl_GoodInhibits_1.spec := ⟨⟨Go.Proofs.Try.f111, by kernel_rfl, by kernel_rfl, by decide +kernel, by kernel_rfl, by kernel_rfl, of_decide_eq_true (by kernel_rfl)⟩, fun _ => rfl, fun _ => rfl, rfl⟩
theorem slices_ContainsFunc_Inhibit_impl_GoodInhibits_1.ok : CtrOK Go.Proofs.Try.prog gl slices_ContainsFunc_Inhibit_impl_GoodInhibits_1.spec :=
  ctr_ok (T := slices_ContainsFunc_Inhibit_impl_GoodInhibits_1.T) (F := slices_ContainsFunc_Inhibit_impl_GoodInhibits_1.F) (lb := slices_ContainsFunc_Inhibit_impl_GoodInhibits_1.lb) (st := slices_ContainsFunc_Inhibit_impl_GoodInhibits_1.st) (step := slices_ContainsFunc_Inhibit_impl_GoodInhibits_1.step) (md := slices_ContainsFunc_Inhibit_impl_GoodInhibits_1.md) tabs slices_ContainsFunc_Inhibit_impl_GoodInhibits_1.text slices_ContainsFunc_Inhibit_impl_GoodInhibits_1.seg_eq (fun n x => ⟨.p0 x.1, rfl, rfl, rfl⟩) (consC slices_IndexFunc_Inhibit_impl_GoodInhibits_1.ok (nilC))

/-! loop.example/g00039/impl.GoodInhibits -/
def impl_GoodInhibits.T : List Ctr := [impl_GoodInhibits_1.spec, slices_ContainsFunc_Inhibit_impl_GoodInhibits_1.spec]
def impl_GoodInhibits.md : List (Nat × List Md) := [(111, [.v, .fn])]
noncomputable def impl_GoodInhibits.F : Fun := ⟨(Go.Proofs.Try.f64.body).getD .skip, [.v (.sl false (.pair (.sl false (.pair .str (.pair (.int .i64) (.pair .str .unit)))) (.pair (.sl false (.pair .str (.pair (.int .i64) (.pair .str .unit)))) (.pair (.sl false .str) .unit))))], [(.tmp 2, .bool)], [], 0, []⟩
inductive impl_GoodInhibits.Pt where
  | p0 (a0 : List ((List ((ByteArray) × ((Int) × ((ByteArray) × (Unit))))) × ((List ((ByteArray) × ((Int) × ((ByteArray) × (Unit))))) × ((List (ByteArray)) × (Unit)))))
def impl_GoodInhibits.lb : impl_GoodInhibits.Pt → Nat
  | .p0 _ => 0
def impl_GoodInhibits.st : impl_GoodInhibits.Pt → St
  | .p0 a0 => enter [.v (.sl false (.pair (.sl false (.pair .str (.pair (.int .i64) (.pair .str .unit)))) (.pair (.sl false (.pair .str (.pair (.int .i64) (.pair .str .unit)))) (.pair (.sl false .str) .unit)))) a0] 0
def impl_GoodInhibits.step (n : Nat) (K : impl_GoodInhibits.Pt → Option (Tup [.bool])) : impl_GoodInhibits.Pt → Option (Tup [.bool])
  | .p0 a0 => cond (decide (((List.length a0) : Int) ≤ (20 : Int))) ((slices_ContainsFunc_Inhibit_impl_GoodInhibits_1 n a0).bind fun r4 => some (!r4)) (some false)
def impl_GoodInhibits (n : Nat) (a0 : List ((List ((ByteArray) × ((Int) × ((ByteArray) × (Unit))))) × ((List ((ByteArray) × ((Int) × ((ByteArray) × (Unit))))) × ((List (ByteArray)) × (Unit))))) : Option (Tup [.bool]) := goRec impl_GoodInhibits.step n (.p0 a0)
def impl_GoodInhibits.spec : Ctr := ⟨64, [.v (.sl false (.pair (.sl false (.pair .str (.pair (.int .i64) (.pair .str .unit)))) (.pair (.sl false (.pair .str (.pair (.int .i64) (.pair .str .unit)))) (.pair (.sl false .str) .unit))))], [.bool], [], fun n x => impl_GoodInhibits n x.1⟩
theorem impl_GoodInhibits.seg_eq (n : Nat) (goto : Nat → St → Option (Tup [.bool])) (y : impl_GoodInhibits.Pt) : seg ⟨ty, gl, impl_GoodInhibits.md, calOf impl_GoodInhibits.T n⟩ impl_GoodInhibits.F.np impl_GoodInhibits.F.ks goto (impl_GoodInhibits.F.fin ⟨ty, gl, impl_GoodInhibits.md, calOf impl_GoodInhibits.T 0⟩ [.bool]) impl_GoodInhibits.F.c (impl_GoodInhibits.lb y) (impl_GoodInhibits.st y) = impl_GoodInhibits.step n (fun z => goto (impl_GoodInhibits.lb z) (impl_GoodInhibits.st z)) y := by
  cases y <;> kernel_rfl
theorem impl_GoodInhibits.text : Text Go.Proofs.Try.prog impl_GoodInhibits.F impl_GoodInhibits.spec := ⟨⟨Go.Proofs.Try.f64, by kernel_rfl, by kernel_rfl, by decide +kernel, by kernel_rfl, by kernel_rfl, of_decide_eq_true (by kernel_rfl)⟩, fun _ => rfl, fun _ => rfl, rfl⟩
theorem impl_GoodInhibits.ok : CtrOK Go.Proofs.Try.prog gl impl_GoodInhibits.spec :=
  ctr_ok (T := impl_GoodInhibits.T) (F := impl_GoodInhibits.F) (lb := impl_GoodInhibits.lb) (st := impl_GoodInhibits.st) (step := impl_GoodInhibits.step) (md := impl_GoodInhibits.md) tabs impl_GoodInhibits.text impl_GoodInhibits.seg_eq (fun n x => ⟨.p0 x.1, rfl, rfl, rfl⟩) (consC impl_GoodInhibits_1.ok (consC slices_ContainsFunc_Inhibit_impl_GoodInhibits_1.ok (nilC)))

/-! loop.example/g00039/impl.isValue -/
def impl_isValue.T : List Ctr := [impl_printed.spec]
def impl_isValue.md : List (Nat × List Md) := []
noncomputable def impl_isValue.F : Fun := ⟨(Go.Proofs.Try.f104.body).getD .skip, [.v .str], [(.tmp 2, .bool)], [], 0, []⟩
inductive impl_isValue.Pt where
  | p0 (a0 : ByteArray)
def impl_isValue.lb : impl_isValue.Pt → Nat
  | .p0 _ => 0
def impl_isValue.st : impl_isValue.Pt → St
  | .p0 a0 => enter [.v .str a0] 0
def impl_isValue.step (n : Nat) (K : impl_isValue.Pt → Option (Tup [.bool])) : impl_isValue.Pt → Option (Tup [.bool])
  | .p0 a0 => cond (!(seq a0 (⟨#[]⟩ : ByteArray))) ((impl_printed n a0 (100 : Int)).bind fun r4 => some r4) (some false)
def impl_isValue (n : Nat) (a0 : ByteArray) : Option (Tup [.bool]) := goRec impl_isValue.step n (.p0 a0)
def impl_isValue.spec : Ctr := ⟨104, [.v .str], [.bool], [], fun n x => impl_isValue n x.1⟩
theorem impl_isValue.seg_eq (n : Nat) (goto : Nat → St → Option (Tup [.bool])) (y : impl_isValue.Pt) : seg ⟨ty, gl, impl_isValue.md, calOf impl_isValue.T n⟩ impl_isValue.F.np impl_isValue.F.ks goto (impl_isValue.F.fin ⟨ty, gl, impl_isValue.md, calOf impl_isValue.T 0⟩ [.bool]) impl_isValue.F.c (impl_isValue.lb y) (impl_isValue.st y) = impl_isValue.step n (fun z => goto (impl_isValue.lb z) (impl_isValue.st z)) y := by
  cases y <;> kernel_rfl
theorem impl_isValue.text : Text Go.Proofs.Try.prog impl_isValue.F impl_isValue.spec := ⟨⟨Go.Proofs.Try.f104, by kernel_rfl, by kernel_rfl, by decide +kernel, by kernel_rfl, by kernel_rfl, of_decide_eq_true (by kernel_rfl)⟩, fun _ => rfl, fun _ => rfl, rfl⟩
theorem impl_isValue.ok : CtrOK Go.Proofs.Try.prog gl impl_isValue.spec :=
  ctr_ok (T := impl_isValue.T) (F := impl_isValue.F) (lb := impl_isValue.lb) (st := impl_isValue.st) (step := impl_isValue.step) (md := impl_isValue.md) tabs impl_isValue.text impl_isValue.seg_eq (fun n x => ⟨.p0 x.1, rfl, rfl, rfl⟩) (consC impl_printed.ok (nilC))

/-! loop.example/g00039/impl.GoodLabels -/
def impl_GoodLabels.T : List Ctr := [impl_isName.spec, impl_isValue.spec]
def impl_GoodLabels.md : List (Nat × List Md) := []
noncomputable def impl_GoodLabels.F : Fun := ⟨(Go.Proofs.Try.f53.body).getD .skip, [.v (.sl false (.pair .str (.pair .str .unit)))], [(.tmp 2, .bool)], [], 0, [(15, ⟨[0, 8, 9, 10], [(8, (.pair .str (.pair .str .unit)))], []⟩), (26, ⟨[0, 8, 9, 10, 39], [(8, (.pair .str (.pair .str .unit)))], []⟩)]⟩
inductive impl_GoodLabels.Pt where
  | p0 (a0 : List ((ByteArray) × ((ByteArray) × (Unit))))
  | p15 (y1 : List ((ByteArray) × ((ByteArray) × (Unit)))) (y2 : List ((ByteArray) × ((ByteArray) × (Unit)))) (y3 : Int) (y4 : Int)
  | p26 (y1 : List ((ByteArray) × ((ByteArray) × (Unit)))) (y2 : List ((ByteArray) × ((ByteArray) × (Unit)))) (y3 : Int) (y4 : Int) (y5 : Bool)
def impl_GoodLabels.lb : impl_GoodLabels.Pt → Nat
  | .p0 _ => 0
  | .p15 _ _ _ _ => 15
  | .p26 _ _ _ _ _ => 26
def impl_GoodLabels.st : impl_GoodLabels.Pt → St
  | .p0 a0 => enter [.v (.sl false (.pair .str (.pair .str .unit))) a0] 0
  | .p15 y1 y2 y3 y4 => ⟨[(0, .im (.sl false (.pair .str (.pair .str .unit))) y1), (8, .im (.sl false (.pair .str (.pair .str .unit))) y2), (9, .im (.int .i64) y3), (10, .im (.int .i64) y4)], [], 0⟩
  | .p26 y1 y2 y3 y4 y5 => ⟨[(0, .im (.sl false (.pair .str (.pair .str .unit))) y1), (8, .im (.sl false (.pair .str (.pair .str .unit))) y2), (9, .im (.int .i64) y3), (10, .im (.int .i64) y4), (39, .im .bool y5)], [], 0⟩
def impl_GoodLabels.step (n : Nat) (K : impl_GoodLabels.Pt → Option (Tup [.bool])) : impl_GoodLabels.Pt → Option (Tup [.bool])
  | .p0 a0 => cond (decide ((20 : Int) < ((List.length a0) : Int))) (some false) (K (.p15 a0 a0 ((List.length a0) : Int) (0 : Int)))
  | .p15 y1 y2 y3 y4 => cond (decide (y4 < y3)) (cond (inB y4 (List.length y2)) ((impl_isName n (List.getD y2 (Int.toNat y4) default).1).bind fun r7 => cond (!r7) (K (.p26 y1 y2 y3 y4 true)) ((impl_isValue n (List.getD y2 (Int.toNat y4) default).2.1).bind fun r8 => cond (!r8) (K (.p26 y1 y2 y3 y4 true)) (cond (decide ((0 : Int) < y4)) (cond (inB (IntKind.wrap .i64 (y4 - (1 : Int))) (List.length y1)) (K (.p26 y1 y2 y3 y4 (!(slt (List.getD y1 (Int.toNat (IntKind.wrap .i64 (y4 - (1 : Int)))) default).1 (List.getD y2 (Int.toNat y4) default).1)))) (none)) (K (.p26 y1 y2 y3 y4 false))))) (none)) (some true)
  | .p26 y1 y2 y3 y4 y5 => cond y5 (some false) (K (.p15 y1 y2 y3 (IntKind.wrap .i64 (y4 + (1 : Int)))))
def impl_GoodLabels (n : Nat) (a0 : List ((ByteArray) × ((ByteArray) × (Unit)))) : Option (Tup [.bool]) := goRec impl_GoodLabels.step n (.p0 a0)
def impl_GoodLabels.spec : Ctr := ⟨53, [.v (.sl false (.pair .str (.pair .str .unit)))], [.bool], [], fun n x => impl_GoodLabels n x.1⟩
theorem impl_GoodLabels.seg_eq (n : Nat) (goto : Nat → St → Option (Tup [.bool])) (y : impl_GoodLabels.Pt) : seg ⟨ty, gl, impl_GoodLabels.md, calOf impl_GoodLabels.T n⟩ impl_GoodLabels.F.np impl_GoodLabels.F.ks goto (impl_GoodLabels.F.fin ⟨ty, gl, impl_GoodLabels.md, calOf impl_GoodLabels.T 0⟩ [.bool]) impl_GoodLabels.F.c (impl_GoodLabels.lb y) (impl_GoodLabels.st y) = impl_GoodLabels.step n (fun z => goto (impl_GoodLabels.lb z) (impl_GoodLabels.st z)) y := by
  cases y <;> kernel_rfl
theorem impl_GoodLabels.text : Text Go.Proofs.Try.prog impl_GoodLabels.F impl_GoodLabels.spec := ⟨⟨Go.Proofs.Try.f53, by kernel_rfl, by kernel_rfl, by decide +kernel, by kernel_rfl, by kernel_rfl, of_decide_eq_true (by kernel_rfl)⟩, fun _ => rfl, fun _ => rfl, rfl⟩
theorem impl_GoodLabels.ok : CtrOK Go.Proofs.Try.prog gl impl_GoodLabels.spec :=
  ctr_ok (T := impl_GoodLabels.T) (F := impl_GoodLabels.F) (lb := impl_GoodLabels.lb) (st := impl_GoodLabels.st) (step := impl_GoodLabels.step) (md := impl_GoodLabels.md) tabs impl_GoodLabels.text impl_GoodLabels.seg_eq (fun n x => ⟨.p0 x.1, rfl, rfl, rfl⟩) (consC impl_isName.ok (consC impl_isValue.ok (nilC)))

/-! loop.example/g00039/impl.valueOf -/
def impl_valueOf.T : List Ctr := []
def impl_valueOf.md : List (Nat × List Md) := []
noncomputable def impl_valueOf.F : Fun := ⟨(Go.Proofs.Try.f117.body).getD .skip, [.v (.sl false (.pair .str (.pair .str .unit))), .v .str], [(.tmp 4, .str)], [], 0, [(7, ⟨[1, 7, 8, 9], [(7, (.pair .str (.pair .str .unit)))], []⟩)]⟩
inductive impl_valueOf.Pt where
  | p0 (a0 : List ((ByteArray) × ((ByteArray) × (Unit)))) (a1 : ByteArray)
  | p7 (y1 : ByteArray) (y2 : List ((ByteArray) × ((ByteArray) × (Unit)))) (y3 : Int) (y4 : Int)
def impl_valueOf.lb : impl_valueOf.Pt → Nat
  | .p0 _ _ => 0
  | .p7 _ _ _ _ => 7
def impl_valueOf.st : impl_valueOf.Pt → St
  | .p0 a0 a1 => enter [.v (.sl false (.pair .str (.pair .str .unit))) a0, .v .str a1] 0
  | .p7 y1 y2 y3 y4 => ⟨[(1, .im .str y1), (7, .im (.sl false (.pair .str (.pair .str .unit))) y2), (8, .im (.int .i64) y3), (9, .im (.int .i64) y4)], [], 0⟩
def impl_valueOf.step (n : Nat) (K : impl_valueOf.Pt → Option (Tup [.str])) : impl_valueOf.Pt → Option (Tup [.str])
  | .p0 a0 a1 => K (.p7 a1 a0 ((List.length a0) : Int) (0 : Int))
  | .p7 y1 y2 y3 y4 => cond (decide (y4 < y3)) (cond (inB y4 (List.length y2)) (cond (seq (List.getD y2 (Int.toNat y4) default).1 y1) (some (List.getD y2 (Int.toNat y4) default).2.1) (K (.p7 y1 y2 y3 (IntKind.wrap .i64 (y4 + (1 : Int)))))) (none)) (some (⟨#[]⟩ : ByteArray))
def impl_valueOf (n : Nat) (a0 : List ((ByteArray) × ((ByteArray) × (Unit)))) (a1 : ByteArray) : Option (Tup [.str]) := goRec impl_valueOf.step n (.p0 a0 a1)
def impl_valueOf.spec : Ctr := ⟨117, [.v (.sl false (.pair .str (.pair .str .unit))), .v .str], [.str], [], fun n x => impl_valueOf n x.1 x.2.1⟩
theorem impl_valueOf.seg_eq (n : Nat) (goto : Nat → St → Option (Tup [.str])) (y : impl_valueOf.Pt) : seg ⟨ty, gl, impl_valueOf.md, calOf impl_valueOf.T n⟩ impl_valueOf.F.np impl_valueOf.F.ks goto (impl_valueOf.F.fin ⟨ty, gl, impl_valueOf.md, calOf impl_valueOf.T 0⟩ [.str]) impl_valueOf.F.c (impl_valueOf.lb y) (impl_valueOf.st y) = impl_valueOf.step n (fun z => goto (impl_valueOf.lb z) (impl_valueOf.st z)) y := by
  cases y <;> kernel_rfl
theorem impl_valueOf.text : Text Go.Proofs.Try.prog impl_valueOf.F impl_valueOf.spec := ⟨⟨Go.Proofs.Try.f117, by kernel_rfl, by kernel_rfl, by decide +kernel, by kernel_rfl, by kernel_rfl, of_decide_eq_true (by kernel_rfl)⟩, fun _ => rfl, fun _ => rfl, rfl⟩
theorem impl_valueOf.ok : CtrOK Go.Proofs.Try.prog gl impl_valueOf.spec :=
  ctr_ok (T := impl_valueOf.T) (F := impl_valueOf.F) (lb := impl_valueOf.lb) (st := impl_valueOf.st) (step := impl_valueOf.step) (md := impl_valueOf.md) tabs impl_valueOf.text impl_valueOf.seg_eq (fun n x => ⟨.p0 x.1 x.2.1, rfl, rfl, rfl⟩) (nilC)

/-! loop.example/g00039/impl.parts -/
def impl_parts.T : List Ctr := []
def impl_parts.md : List (Nat × List Md) := []
noncomputable def impl_parts.F : Fun := ⟨(Go.Proofs.Try.f214.body).getD .skip, [.v (.sl false (.pair (.int .u8) (.pair .bool (.pair .bool .unit)))), .v .str], [(.tmp 4, (.sl false .str)), (.tmp 5, .bool)], [], 0, [(9, ⟨[0, 1, 6, 7], [(6, (.sl false .bool))], []⟩), (23, ⟨[0, 1, 6, 7, 8], [(6, (.sl false .bool))], []⟩), (60, ⟨[1, 6, 9, 10, 133, 134, 135], [(6, (.sl false .bool)), (9, .str), (133, (.pair (.int .u8) (.pair .bool (.pair .bool .unit))))], []⟩), (83, ⟨[1, 6, 9, 10, 11, 13, 133, 134, 135], [(6, (.sl false .bool)), (9, .str), (133, (.pair (.int .u8) (.pair .bool (.pair .bool .unit))))], []⟩)]⟩
inductive impl_parts.Pt where
  | p0 (a0 : List ((Int) × ((Bool) × ((Bool) × (Unit))))) (a1 : ByteArray)
  | p9 (y1 : List ((Int) × ((Bool) × ((Bool) × (Unit))))) (y2 : ByteArray) (y3 : Int) (y4 : List (List (Bool)))
  | p23 (y1 : List ((Int) × ((Bool) × ((Bool) × (Unit))))) (y2 : ByteArray) (y3 : Int) (y4 : Int) (y5 : List (List (Bool)))
  | p60 (y1 : ByteArray) (y2 : Int) (y3 : List ((Int) × ((Bool) × ((Bool) × (Unit))))) (y4 : Int) (y5 : Int) (y6 : List (List (Bool))) (y7 : List (ByteArray))
  | p83 (y1 : ByteArray) (y2 : Int) (y3 : Int) (y4 : Int) (y5 : List ((Int) × ((Bool) × ((Bool) × (Unit))))) (y6 : Int) (y7 : Int) (y8 : List (List (Bool))) (y9 : List (ByteArray))
def impl_parts.lb : impl_parts.Pt → Nat
  | .p0 _ _ => 0
  | .p9 _ _ _ _ => 9
  | .p23 _ _ _ _ _ => 23
  | .p60 _ _ _ _ _ _ _ => 60
  | .p83 _ _ _ _ _ _ _ _ _ => 83
def impl_parts.st : impl_parts.Pt → St
  | .p0 a0 a1 => enter [.v (.sl false (.pair (.int .u8) (.pair .bool (.pair .bool .unit)))) a0, .v .str a1] 0
  | .p9 y1 y2 y3 y4 => ⟨[(0, .im (.sl false (.pair (.int .u8) (.pair .bool (.pair .bool .unit)))) y1), (1, .im .str y2), (6, .hs 0 [] none 0), (7, .im (.int .i64) y3)], [(0, .arr false (.sl false .bool) y4 0)], 1⟩
  | .p23 y1 y2 y3 y4 y5 => ⟨[(0, .im (.sl false (.pair (.int .u8) (.pair .bool (.pair .bool .unit)))) y1), (1, .im .str y2), (6, .hs 0 [] none 0), (7, .im (.int .i64) y3), (8, .im (.int .i64) y4)], [(0, .arr false (.sl false .bool) y5 0)], 1⟩
  | .p60 y1 y2 y3 y4 y5 y6 y7 => ⟨[(1, .im .str y1), (6, .hs 0 [] none 0), (9, .hs 1 [] none 0), (10, .im (.int .i64) y2), (133, .im (.sl false (.pair (.int .u8) (.pair .bool (.pair .bool .unit)))) y3), (134, .im (.int .i64) y4), (135, .im (.int .i64) y5)], [(0, .arr false (.sl false .bool) y6 0), (1, .arr true .str y7 0)], 2⟩
  | .p83 y1 y2 y3 y4 y5 y6 y7 y8 y9 => ⟨[(1, .im .str y1), (6, .hs 0 [] none 0), (9, .hs 1 [] none 0), (10, .im (.int .i64) y2), (11, .im (.int .i64) y3), (13, .im (.int .i64) y4), (133, .im (.sl false (.pair (.int .u8) (.pair .bool (.pair .bool .unit)))) y5), (134, .im (.int .i64) y6), (135, .im (.int .i64) y7)], [(0, .arr false (.sl false .bool) y8 0), (1, .arr true .str y9 0)], 2⟩
def impl_parts.step (n : Nat) (K : impl_parts.Pt → Option (Tup [(.sl false .str), .bool])) : impl_parts.Pt → Option (Tup [(.sl false .str), .bool])
  | .p0 a0 a1 => cond (inC (IntKind.wrap .i64 (((List.length a0) : Int) + (1 : Int))) (IntKind.wrap .i64 (((List.length a0) : Int) + (1 : Int))) 1000000000) (K (.p9 a0 a1 ((List.length a0) : Int) (List.replicate (Int.toNat (IntKind.wrap .i64 (((List.length a0) : Int) + (1 : Int)))) (default : List (Bool))))) (none)
  | .p9 y1 y2 y3 y4 => cond (decide ((0 : Int) ≤ y3)) (cond (inC (IntKind.wrap .i64 (((ByteArray.size y2) : Int) + (1 : Int))) (IntKind.wrap .i64 (((ByteArray.size y2) : Int) + (1 : Int))) 1000000000) (cond (inB y3 (List.length y4)) (K (.p23 y1 y2 y3 ((ByteArray.size y2) : Int) (List.set y4 (0 + (Int.toNat y3)) (List.replicate (Int.toNat (IntKind.wrap .i64 (((ByteArray.size y2) : Int) + (1 : Int)))) (default : Bool))))) (none)) (none)) (cond (inB (0 : Int) (List.length y4)) (cond (inB (0 : Int) (List.length (List.getD y4 (0 + (Int.toNat (0 : Int))) default))) (cond (!(List.getD (List.getD y4 (0 + (Int.toNat (0 : Int))) default) (0 + (Int.toNat (0 : Int))) default)) (some (([] : List (ByteArray)), false)) (K (.p60 y2 (0 : Int) y1 ((List.length y1) : Int) (0 : Int) y4 ([] : List (ByteArray))))) (none)) (none))
  | .p23 y1 y2 y3 y4 y5 => cond (decide ((0 : Int) ≤ y4)) (cond (decide (y3 = ((List.length y1) : Int))) (cond (inB y3 (List.length y5)) (cond (inB y4 (List.length (List.getD y5 (0 + (Int.toNat y3)) default))) (K (.p23 y1 y2 y3 (IntKind.wrap .i64 (y4 - (1 : Int))) (List.set y5 (0 + (Int.toNat y3)) (List.set (List.getD y5 (0 + (Int.toNat y3)) default) (0 + (Int.toNat y4)) (decide (y4 = ((ByteArray.size y2) : Int))))))) (none)) (none)) (cond (inB y3 (List.length y1)) (cond (List.getD y1 (Int.toNat y3) default).2.2.1 (cond (inB y3 (List.length y5)) (cond (inB (IntKind.wrap .i64 (y3 + (1 : Int))) (List.length y5)) (cond (inB y4 (List.length (List.getD y5 (0 + (Int.toNat (IntKind.wrap .i64 (y3 + (1 : Int))))) default))) (cond (List.getD (List.getD y5 (0 + (Int.toNat (IntKind.wrap .i64 (y3 + (1 : Int))))) default) (0 + (Int.toNat y4)) default) (cond (inB y4 (List.length (List.getD y5 (0 + (Int.toNat y3)) default))) (K (.p23 y1 y2 y3 (IntKind.wrap .i64 (y4 - (1 : Int))) (List.set y5 (0 + (Int.toNat y3)) (List.set (List.getD y5 (0 + (Int.toNat y3)) default) (0 + (Int.toNat y4)) true)))) (none)) (cond (decide (y4 < ((ByteArray.size y2) : Int))) (cond (inB y3 (List.length y5)) (cond (inB (IntKind.wrap .i64 (y4 + (1 : Int))) (List.length (List.getD y5 (0 + (Int.toNat y3)) default))) (cond (inB y4 (List.length (List.getD y5 (0 + (Int.toNat y3)) default))) (K (.p23 y1 y2 y3 (IntKind.wrap .i64 (y4 - (1 : Int))) (List.set y5 (0 + (Int.toNat y3)) (List.set (List.getD y5 (0 + (Int.toNat y3)) default) (0 + (Int.toNat y4)) (List.getD (List.getD y5 (0 + (Int.toNat y3)) default) (0 + (Int.toNat (IntKind.wrap .i64 (y4 + (1 : Int))))) default))))) (none)) (none)) (none)) (cond (inB y4 (List.length (List.getD y5 (0 + (Int.toNat y3)) default))) (K (.p23 y1 y2 y3 (IntKind.wrap .i64 (y4 - (1 : Int))) (List.set y5 (0 + (Int.toNat y3)) (List.set (List.getD y5 (0 + (Int.toNat y3)) default) (0 + (Int.toNat y4)) false)))) (none)))) (none)) (none)) (none)) (cond (inB y3 (List.length y5)) (cond (decide (y4 < ((ByteArray.size y2) : Int))) (cond (inB y3 (List.length y1)) (cond (List.getD y1 (Int.toNat y3) default).2.1 (cond (inB (IntKind.wrap .i64 (y3 + (1 : Int))) (List.length y5)) (cond (inB (IntKind.wrap .i64 (y4 + (1 : Int))) (List.length (List.getD y5 (0 + (Int.toNat (IntKind.wrap .i64 (y3 + (1 : Int))))) default))) (cond (inB y4 (List.length (List.getD y5 (0 + (Int.toNat y3)) default))) (K (.p23 y1 y2 y3 (IntKind.wrap .i64 (y4 - (1 : Int))) (List.set y5 (0 + (Int.toNat y3)) (List.set (List.getD y5 (0 + (Int.toNat y3)) default) (0 + (Int.toNat y4)) (List.getD (List.getD y5 (0 + (Int.toNat (IntKind.wrap .i64 (y3 + (1 : Int))))) default) (0 + (Int.toNat (IntKind.wrap .i64 (y4 + (1 : Int))))) default))))) (none)) (none)) (none)) (cond (inB y3 (List.length y1)) (cond (inB y4 (ByteArray.size y2)) (cond (decide ((List.getD y1 (Int.toNat y3) default).1 = (bt y2 y4))) (cond (inB (IntKind.wrap .i64 (y3 + (1 : Int))) (List.length y5)) (cond (inB (IntKind.wrap .i64 (y4 + (1 : Int))) (List.length (List.getD y5 (0 + (Int.toNat (IntKind.wrap .i64 (y3 + (1 : Int))))) default))) (cond (inB y4 (List.length (List.getD y5 (0 + (Int.toNat y3)) default))) (K (.p23 y1 y2 y3 (IntKind.wrap .i64 (y4 - (1 : Int))) (List.set y5 (0 + (Int.toNat y3)) (List.set (List.getD y5 (0 + (Int.toNat y3)) default) (0 + (Int.toNat y4)) (List.getD (List.getD y5 (0 + (Int.toNat (IntKind.wrap .i64 (y3 + (1 : Int))))) default) (0 + (Int.toNat (IntKind.wrap .i64 (y4 + (1 : Int))))) default))))) (none)) (none)) (none)) (cond (inB y4 (List.length (List.getD y5 (0 + (Int.toNat y3)) default))) (K (.p23 y1 y2 y3 (IntKind.wrap .i64 (y4 - (1 : Int))) (List.set y5 (0 + (Int.toNat y3)) (List.set (List.getD y5 (0 + (Int.toNat y3)) default) (0 + (Int.toNat y4)) false)))) (none))) (none)) (none))) (none)) (cond (inB y4 (List.length (List.getD y5 (0 + (Int.toNat y3)) default))) (K (.p23 y1 y2 y3 (IntKind.wrap .i64 (y4 - (1 : Int))) (List.set y5 (0 + (Int.toNat y3)) (List.set (List.getD y5 (0 + (Int.toNat y3)) default) (0 + (Int.toNat y4)) false)))) (none))) (none))) (none))) (K (.p9 y1 y2 (IntKind.wrap .i64 (y3 - (1 : Int))) y5))
  | .p60 y1 y2 y3 y4 y5 y6 y7 => cond (decide (y5 < y4)) (cond (inB y5 (List.length y3)) (cond (!(List.getD y3 (Int.toNat y5) default).2.2.1) (K (.p60 y1 (IntKind.wrap .i64 (y2 + (1 : Int))) y3 y4 (IntKind.wrap .i64 (y5 + (1 : Int))) y6 y7)) (K (.p83 y1 y2 y5 y2 y3 y4 y5 y6 y7))) (none)) (some (y7, true))
  | .p83 y1 y2 y3 y4 y5 y6 y7 y8 y9 => cond (inB (IntKind.wrap .i64 (y3 + (1 : Int))) (List.length y8)) (cond (inB y4 (List.length (List.getD y8 (0 + (Int.toNat (IntKind.wrap .i64 (y3 + (1 : Int))))) default))) (cond (!(List.getD (List.getD y8 (0 + (Int.toNat (IntKind.wrap .i64 (y3 + (1 : Int))))) default) (0 + (Int.toNat y4)) default)) (K (.p83 y1 y2 y3 (IntKind.wrap .i64 (y4 + (1 : Int))) y5 y6 y7 y8 y9)) (cond (inC y2 y4 (ByteArray.size y1)) (cond (room ((List.length y9) + (List.length [(ByteArray.extract y1 (Int.toNat y2) (Int.toNat y4))]))) (K (.p60 y1 y4 y5 y6 (IntKind.wrap .i64 (y7 + (1 : Int))) y8 (y9 ++ [(ByteArray.extract y1 (Int.toNat y2) (Int.toNat y4))]))) (none)) (none))) (none)) (none)
def impl_parts (n : Nat) (a0 : List ((Int) × ((Bool) × ((Bool) × (Unit))))) (a1 : ByteArray) : Option (Tup [(.sl false .str), .bool]) := goRec impl_parts.step n (.p0 a0 a1)
def impl_parts.spec : Ctr := ⟨214, [.v (.sl false (.pair (.int .u8) (.pair .bool (.pair .bool .unit)))), .v .str], [(.sl false .str), .bool], [], fun n x => impl_parts n x.1 x.2.1⟩
theorem impl_parts.seg_eq (n : Nat) (goto : Nat → St → Option (Tup [(.sl false .str), .bool])) (y : impl_parts.Pt) : seg ⟨ty, gl, impl_parts.md, calOf impl_parts.T n⟩ impl_parts.F.np impl_parts.F.ks goto (impl_parts.F.fin ⟨ty, gl, impl_parts.md, calOf impl_parts.T 0⟩ [(.sl false .str), .bool]) impl_parts.F.c (impl_parts.lb y) (impl_parts.st y) = impl_parts.step n (fun z => goto (impl_parts.lb z) (impl_parts.st z)) y := by
  cases y <;> kernel_rfl
theorem impl_parts.text : Text Go.Proofs.Try.prog impl_parts.F impl_parts.spec := ⟨⟨Go.Proofs.Try.f214, by kernel_rfl, by kernel_rfl, by decide +kernel, by kernel_rfl, by kernel_rfl, of_decide_eq_true (by kernel_rfl)⟩, fun _ => rfl, fun _ => rfl, rfl⟩
theorem impl_parts.ok : CtrOK Go.Proofs.Try.prog gl impl_parts.spec :=
  ctr_ok (T := impl_parts.T) (F := impl_parts.F) (lb := impl_parts.lb) (st := impl_parts.st) (step := impl_parts.step) (md := impl_parts.md) tabs impl_parts.text impl_parts.seg_eq (fun n x => ⟨.p0 x.1 x.2.1, rfl, rfl, rfl⟩) (nilC)

/-! loop.example/g00039/impl.PatternParts -/
def impl_PatternParts.T : List Ctr := [impl_alternatives.spec, impl_parts.spec]
def impl_PatternParts.md : List (Nat × List Md) := []
noncomputable def impl_PatternParts.F : Fun := ⟨(Go.Proofs.Try.f208.body).getD .skip, [.v .str, .v .str], [(.tmp 4, (.sl false .str)), (.tmp 5, .bool)], [], 0, [(6, ⟨[1, 6, 23], [(6, (.sl false (.pair (.int .u8) (.pair .bool (.pair .bool .unit)))))], []⟩), (17, ⟨[1, 24, 25, 26], [(24, (.sl false (.pair (.int .u8) (.pair .bool (.pair .bool .unit)))))], []⟩)]⟩
inductive impl_PatternParts.Pt where
  | p0 (a0 : ByteArray) (a1 : ByteArray)
  | p6 (y1 : ByteArray) (y2 : Bool) (y3 : List (List ((Int) × ((Bool) × ((Bool) × (Unit))))))
  | p17 (y1 : ByteArray) (y2 : Int) (y3 : Int) (y4 : List (List ((Int) × ((Bool) × ((Bool) × (Unit))))))
def impl_PatternParts.lb : impl_PatternParts.Pt → Nat
  | .p0 _ _ => 0
  | .p6 _ _ _ => 6
  | .p17 _ _ _ _ => 17
def impl_PatternParts.st : impl_PatternParts.Pt → St
  | .p0 a0 a1 => enter [.v .str a0, .v .str a1] 0
  | .p6 y1 y2 y3 => ⟨[(1, .im .str y1), (6, .hs 0 [] none 0), (23, .im .bool y2)], [(0, .arr false (.sl false (.pair (.int .u8) (.pair .bool (.pair .bool .unit)))) y3 0)], 1⟩
  | .p17 y1 y2 y3 y4 => ⟨[(1, .im .str y1), (24, .hs 0 [] none 0), (25, .im (.int .i64) y2), (26, .im (.int .i64) y3)], [(0, .arr false (.sl false (.pair (.int .u8) (.pair .bool (.pair .bool .unit)))) y4 0)], 1⟩
def impl_PatternParts.step (n : Nat) (K : impl_PatternParts.Pt → Option (Tup [(.sl false .str), .bool])) : impl_PatternParts.Pt → Option (Tup [(.sl false .str), .bool])
  | .p0 a0 a1 => (impl_alternatives n a0).bind fun r5 => cond (!r5.2) (K (.p6 a1 true r5.1)) (K (.p6 a1 (decide ((100 : Int) < ((ByteArray.size a1) : Int))) r5.1))
  | .p6 y1 y2 y3 => cond y2 (some (([] : List (ByteArray)), false)) (K (.p17 y1 ((List.length y3) : Int) (0 : Int) y3))
  | .p17 y1 y2 y3 y4 => cond (decide (y3 < y2)) (cond (inB y3 (List.length y4)) ((impl_parts n (List.getD y4 (0 + (Int.toNat y3)) default) y1).bind fun r7 => cond r7.2 (some (r7.1, true)) (K (.p17 y1 y2 (IntKind.wrap .i64 (y3 + (1 : Int))) y4))) (none)) (some (([] : List (ByteArray)), false))
def impl_PatternParts (n : Nat) (a0 : ByteArray) (a1 : ByteArray) : Option (Tup [(.sl false .str), .bool]) := goRec impl_PatternParts.step n (.p0 a0 a1)
def impl_PatternParts.spec : Ctr := ⟨208, [.v .str, .v .str], [(.sl false .str), .bool], [], fun n x => impl_PatternParts n x.1 x.2.1⟩
theorem impl_PatternParts.seg_eq (n : Nat) (goto : Nat → St → Option (Tup [(.sl false .str), .bool])) (y : impl_PatternParts.Pt) : seg ⟨ty, gl, impl_PatternParts.md, calOf impl_PatternParts.T n⟩ impl_PatternParts.F.np impl_PatternParts.F.ks goto (impl_PatternParts.F.fin ⟨ty, gl, impl_PatternParts.md, calOf impl_PatternParts.T 0⟩ [(.sl false .str), .bool]) impl_PatternParts.F.c (impl_PatternParts.lb y) (impl_PatternParts.st y) = impl_PatternParts.step n (fun z => goto (impl_PatternParts.lb z) (impl_PatternParts.st z)) y := by
  cases y <;> kernel_rfl
theorem impl_PatternParts.text : Text Go.Proofs.Try.prog impl_PatternParts.F impl_PatternParts.spec := ⟨⟨Go.Proofs.Try.f208, by kernel_rfl, by kernel_rfl, by decide +kernel, by kernel_rfl, by kernel_rfl, of_decide_eq_true (by kernel_rfl)⟩, fun _ => rfl, fun _ => rfl, rfl⟩
theorem impl_PatternParts.ok : CtrOK Go.Proofs.Try.prog gl impl_PatternParts.spec :=
  ctr_ok (T := impl_PatternParts.T) (F := impl_PatternParts.F) (lb := impl_PatternParts.lb) (st := impl_PatternParts.st) (step := impl_PatternParts.step) (md := impl_PatternParts.md) tabs impl_PatternParts.text impl_PatternParts.seg_eq (fun n x => ⟨.p0 x.1 x.2.1, rfl, rfl, rfl⟩) (consC impl_alternatives.ok (consC impl_parts.ok (nilC)))

/-! loop.example/g00039/impl.PatternFits -/
def impl_PatternFits.T : List Ctr := [impl_PatternParts.spec]
def impl_PatternFits.md : List (Nat × List Md) := []
noncomputable def impl_PatternFits.F : Fun := ⟨(Go.Proofs.Try.f199.body).getD .skip, [.v .str, .v .str], [(.tmp 4, .bool)], [], 0, []⟩
inductive impl_PatternFits.Pt where
  | p0 (a0 : ByteArray) (a1 : ByteArray)
def impl_PatternFits.lb : impl_PatternFits.Pt → Nat
  | .p0 _ _ => 0
def impl_PatternFits.st : impl_PatternFits.Pt → St
  | .p0 a0 a1 => enter [.v .str a0, .v .str a1] 0
def impl_PatternFits.step (n : Nat) (K : impl_PatternFits.Pt → Option (Tup [.bool])) : impl_PatternFits.Pt → Option (Tup [.bool])
  | .p0 a0 a1 => (impl_PatternParts n a0 a1).bind fun r5 => some r5.2
def impl_PatternFits (n : Nat) (a0 : ByteArray) (a1 : ByteArray) : Option (Tup [.bool]) := goRec impl_PatternFits.step n (.p0 a0 a1)
def impl_PatternFits.spec : Ctr := ⟨199, [.v .str, .v .str], [.bool], [], fun n x => impl_PatternFits n x.1 x.2.1⟩
theorem impl_PatternFits.seg_eq (n : Nat) (goto : Nat → St → Option (Tup [.bool])) (y : impl_PatternFits.Pt) : seg ⟨ty, gl, impl_PatternFits.md, calOf impl_PatternFits.T n⟩ impl_PatternFits.F.np impl_PatternFits.F.ks goto (impl_PatternFits.F.fin ⟨ty, gl, impl_PatternFits.md, calOf impl_PatternFits.T 0⟩ [.bool]) impl_PatternFits.F.c (impl_PatternFits.lb y) (impl_PatternFits.st y) = impl_PatternFits.step n (fun z => goto (impl_PatternFits.lb z) (impl_PatternFits.st z)) y := by
  cases y <;> kernel_rfl
theorem impl_PatternFits.text : Text Go.Proofs.Try.prog impl_PatternFits.F impl_PatternFits.spec := ⟨⟨Go.Proofs.Try.f199, by kernel_rfl, by kernel_rfl, by decide +kernel, by kernel_rfl, by kernel_rfl, of_decide_eq_true (by kernel_rfl)⟩, fun _ => rfl, fun _ => rfl, rfl⟩
theorem impl_PatternFits.ok : CtrOK Go.Proofs.Try.prog gl impl_PatternFits.spec :=
  ctr_ok (T := impl_PatternFits.T) (F := impl_PatternFits.F) (lb := impl_PatternFits.lb) (st := impl_PatternFits.st) (step := impl_PatternFits.step) (md := impl_PatternFits.md) tabs impl_PatternFits.text impl_PatternFits.seg_eq (fun n x => ⟨.p0 x.1 x.2.1, rfl, rfl, rfl⟩) (consC impl_PatternParts.ok (nilC))

/-! loop.example/g00039/impl.fitsOne -/
def impl_fitsOne.T : List Ctr := [impl_valueOf.spec, impl_PatternFits.spec]
def impl_fitsOne.md : List (Nat × List Md) := []
noncomputable def impl_fitsOne.F : Fun := ⟨(Go.Proofs.Try.f167.body).getD .skip, [.v (.pair .str (.pair (.int .i64) (.pair .str .unit))), .v (.sl false (.pair .str (.pair .str .unit)))], [(.tmp 4, .bool)], [], 0, []⟩
inductive impl_fitsOne.Pt where
  | p0 (a0 : (ByteArray) × ((Int) × ((ByteArray) × (Unit)))) (a1 : List ((ByteArray) × ((ByteArray) × (Unit))))
def impl_fitsOne.lb : impl_fitsOne.Pt → Nat
  | .p0 _ _ => 0
def impl_fitsOne.st : impl_fitsOne.Pt → St
  | .p0 a0 a1 => enter [.v (.pair .str (.pair (.int .i64) (.pair .str .unit))) a0, .v (.sl false (.pair .str (.pair .str .unit))) a1] 0
def impl_fitsOne.step (n : Nat) (K : impl_fitsOne.Pt → Option (Tup [.bool])) : impl_fitsOne.Pt → Option (Tup [.bool])
  | .p0 a0 a1 => (impl_valueOf n a1 a0.1).bind fun r5 => cond (decide (a0.2.1 = (1 : Int))) (some (seq r5 a0.2.2.1)) (cond (decide (a0.2.1 = (2 : Int))) (some (!(seq r5 a0.2.2.1))) (cond (decide (a0.2.1 = (3 : Int))) ((impl_PatternFits n a0.2.2.1 r5).bind fun r6 => some r6) ((impl_PatternFits n a0.2.2.1 r5).bind fun r6 => some (!r6))))
def impl_fitsOne (n : Nat) (a0 : (ByteArray) × ((Int) × ((ByteArray) × (Unit)))) (a1 : List ((ByteArray) × ((ByteArray) × (Unit)))) : Option (Tup [.bool]) := goRec impl_fitsOne.step n (.p0 a0 a1)
def impl_fitsOne.spec : Ctr := ⟨167, [.v (.pair .str (.pair (.int .i64) (.pair .str .unit))), .v (.sl false (.pair .str (.pair .str .unit)))], [.bool], [], fun n x => impl_fitsOne n x.1 x.2.1⟩
theorem impl_fitsOne.seg_eq (n : Nat) (goto : Nat → St → Option (Tup [.bool])) (y : impl_fitsOne.Pt) : seg ⟨ty, gl, impl_fitsOne.md, calOf impl_fitsOne.T n⟩ impl_fitsOne.F.np impl_fitsOne.F.ks goto (impl_fitsOne.F.fin ⟨ty, gl, impl_fitsOne.md, calOf impl_fitsOne.T 0⟩ [.bool]) impl_fitsOne.F.c (impl_fitsOne.lb y) (impl_fitsOne.st y) = impl_fitsOne.step n (fun z => goto (impl_fitsOne.lb z) (impl_fitsOne.st z)) y := by
  cases y <;> kernel_rfl
theorem impl_fitsOne.text : Text Go.Proofs.Try.prog impl_fitsOne.F impl_fitsOne.spec := ⟨⟨Go.Proofs.Try.f167, by kernel_rfl, by kernel_rfl, by decide +kernel, by kernel_rfl, by kernel_rfl, of_decide_eq_true (by kernel_rfl)⟩, fun _ => rfl, fun _ => rfl, rfl⟩
theorem impl_fitsOne.ok : CtrOK Go.Proofs.Try.prog gl impl_fitsOne.spec :=
  ctr_ok (T := impl_fitsOne.T) (F := impl_fitsOne.F) (lb := impl_fitsOne.lb) (st := impl_fitsOne.st) (step := impl_fitsOne.step) (md := impl_fitsOne.md) tabs impl_fitsOne.text impl_fitsOne.seg_eq (fun n x => ⟨.p0 x.1 x.2.1, rfl, rfl, rfl⟩) (consC impl_valueOf.ok (consC impl_PatternFits.ok (nilC)))

/-! loop.example/g00039/impl.fits -/
def impl_fits.T : List Ctr := [impl_fitsOne.spec]
def impl_fits.md : List (Nat × List Md) := []
noncomputable def impl_fits.F : Fun := ⟨(Go.Proofs.Try.f105.body).getD .skip, [.v (.sl false (.pair .str (.pair (.int .i64) (.pair .str .unit)))), .v (.sl false (.pair .str (.pair .str .unit)))], [(.tmp 4, .bool)], [], 0, [(7, ⟨[1, 7, 8, 9], [(7, (.pair .str (.pair (.int .i64) (.pair .str .unit))))], []⟩)]⟩
inductive impl_fits.Pt where
  | p0 (a0 : List ((ByteArray) × ((Int) × ((ByteArray) × (Unit))))) (a1 : List ((ByteArray) × ((ByteArray) × (Unit))))
  | p7 (y1 : List ((ByteArray) × ((ByteArray) × (Unit)))) (y2 : List ((ByteArray) × ((Int) × ((ByteArray) × (Unit))))) (y3 : Int) (y4 : Int)
def impl_fits.lb : impl_fits.Pt → Nat
  | .p0 _ _ => 0
  | .p7 _ _ _ _ => 7
def impl_fits.st : impl_fits.Pt → St
  | .p0 a0 a1 => enter [.v (.sl false (.pair .str (.pair (.int .i64) (.pair .str .unit)))) a0, .v (.sl false (.pair .str (.pair .str .unit))) a1] 0
  | .p7 y1 y2 y3 y4 => ⟨[(1, .im (.sl false (.pair .str (.pair .str .unit))) y1), (7, .im (.sl false (.pair .str (.pair (.int .i64) (.pair .str .unit)))) y2), (8, .im (.int .i64) y3), (9, .im (.int .i64) y4)], [], 0⟩
def impl_fits.step (n : Nat) (K : impl_fits.Pt → Option (Tup [.bool])) : impl_fits.Pt → Option (Tup [.bool])
  | .p0 a0 a1 => K (.p7 a1 a0 ((List.length a0) : Int) (0 : Int))
  | .p7 y1 y2 y3 y4 => cond (decide (y4 < y3)) (cond (inB y4 (List.length y2)) ((impl_fitsOne n (List.getD y2 (Int.toNat y4) default) y1).bind fun r7 => cond (!r7) (some false) (K (.p7 y1 y2 y3 (IntKind.wrap .i64 (y4 + (1 : Int)))))) (none)) (some true)
def impl_fits (n : Nat) (a0 : List ((ByteArray) × ((Int) × ((ByteArray) × (Unit))))) (a1 : List ((ByteArray) × ((ByteArray) × (Unit)))) : Option (Tup [.bool]) := goRec impl_fits.step n (.p0 a0 a1)
def impl_fits.spec : Ctr := ⟨105, [.v (.sl false (.pair .str (.pair (.int .i64) (.pair .str .unit)))), .v (.sl false (.pair .str (.pair .str .unit)))], [.bool], [], fun n x => impl_fits n x.1 x.2.1⟩
theorem impl_fits.seg_eq (n : Nat) (goto : Nat → St → Option (Tup [.bool])) (y : impl_fits.Pt) : seg ⟨ty, gl, impl_fits.md, calOf impl_fits.T n⟩ impl_fits.F.np impl_fits.F.ks goto (impl_fits.F.fin ⟨ty, gl, impl_fits.md, calOf impl_fits.T 0⟩ [.bool]) impl_fits.F.c (impl_fits.lb y) (impl_fits.st y) = impl_fits.step n (fun z => goto (impl_fits.lb z) (impl_fits.st z)) y := by
  cases y <;> kernel_rfl
theorem impl_fits.text : Text Go.Proofs.Try.prog impl_fits.F impl_fits.spec := ⟨⟨Go.Proofs.Try.f105, by kernel_rfl, by kernel_rfl, by decide +kernel, by kernel_rfl, by kernel_rfl, of_decide_eq_true (by kernel_rfl)⟩, fun _ => rfl, fun _ => rfl, rfl⟩
theorem impl_fits.ok : CtrOK Go.Proofs.Try.prog gl impl_fits.spec :=
  ctr_ok (T := impl_fits.T) (F := impl_fits.F) (lb := impl_fits.lb) (st := impl_fits.st) (step := impl_fits.step) (md := impl_fits.md) tabs impl_fits.text impl_fits.seg_eq (fun n x => ⟨.p0 x.1 x.2.1, rfl, rfl, rfl⟩) (consC impl_fitsOne.ok (nilC))

/-! loop.example/g00039/impl.inhibited$1 -/
def impl_inhibited_1.T : List Ctr := [impl_valueOf.spec]
def impl_inhibited_1.md : List (Nat × List Md) := []
noncomputable def impl_inhibited_1.F : Fun := ⟨(Go.Proofs.Try.f116.body).getD .skip, [.v .str, .q (.sl false (.pair .str (.pair .str .unit))), .q (.sl false (.pair .str (.pair .str .unit)))], [(.tmp 4, .bool)], [], 0, []⟩
inductive impl_inhibited_1.Pt where
  | p0 (a0 : ByteArray) (a1 : List ((ByteArray) × ((ByteArray) × (Unit)))) (a2 : List ((ByteArray) × ((ByteArray) × (Unit))))
def impl_inhibited_1.lb : impl_inhibited_1.Pt → Nat
  | .p0 _ _ _ => 0
def impl_inhibited_1.st : impl_inhibited_1.Pt → St
  | .p0 a0 a1 a2 => enter [.v .str a0, .q (.sl false (.pair .str (.pair .str .unit))) a1, .q (.sl false (.pair .str (.pair .str .unit))) a2] 0
def impl_inhibited_1.step (n : Nat) (K : impl_inhibited_1.Pt → Option (Tup [.bool])) : impl_inhibited_1.Pt → Option (Tup [.bool])
  | .p0 a0 a1 a2 => (impl_valueOf n (List.getD [a1] 0 default) a0).bind fun r6 => (impl_valueOf n (List.getD [a2] 0 default) a0).bind fun r7 => some (!(seq r6 r7))
def impl_inhibited_1 (n : Nat) (a0 : ByteArray) (a1 : List ((ByteArray) × ((ByteArray) × (Unit)))) (a2 : List ((ByteArray) × ((ByteArray) × (Unit)))) : Option (Tup [.bool]) := goRec impl_inhibited_1.step n (.p0 a0 a1 a2)
def impl_inhibited_1.spec : Ctr := ⟨116, [.v .str, .q (.sl false (.pair .str (.pair .str .unit))), .q (.sl false (.pair .str (.pair .str .unit)))], [.bool], [], fun n x => impl_inhibited_1 n x.1 x.2.1 x.2.2.1⟩
theorem impl_inhibited_1.seg_eq (n : Nat) (goto : Nat → St → Option (Tup [.bool])) (y : impl_inhibited_1.Pt) : seg ⟨ty, gl, impl_inhibited_1.md, calOf impl_inhibited_1.T n⟩ impl_inhibited_1.F.np impl_inhibited_1.F.ks goto (impl_inhibited_1.F.fin ⟨ty, gl, impl_inhibited_1.md, calOf impl_inhibited_1.T 0⟩ [.bool]) impl_inhibited_1.F.c (impl_inhibited_1.lb y) (impl_inhibited_1.st y) = impl_inhibited_1.step n (fun z => goto (impl_inhibited_1.lb z) (impl_inhibited_1.st z)) y := by
  cases y <;> kernel_rfl
theorem impl_inhibited_1.text : Text Go.Proofs.Try.prog impl_inhibited_1.F impl_inhibited_1.spec := ⟨⟨Go.Proofs.Try.f116, by kernel_rfl, by kernel_rfl, by decide +kernel, by kernel_rfl, by kernel_rfl, of_decide_eq_true (by kernel_rfl)⟩, fun _ => rfl, fun _ => rfl, rfl⟩
theorem impl_inhibited_1.ok : CtrOK Go.Proofs.Try.prog gl impl_inhibited_1.spec :=
  ctr_ok (T := impl_inhibited_1.T) (F := impl_inhibited_1.F) (lb := impl_inhibited_1.lb) (st := impl_inhibited_1.st) (step := impl_inhibited_1.step) (md := impl_inhibited_1.md) tabs impl_inhibited_1.text impl_inhibited_1.seg_eq (fun n x => ⟨.p0 x.1 x.2.1 x.2.2.1, rfl, rfl, rfl⟩) (consC impl_valueOf.ok (nilC))

/-! slices.IndexFunc[[]string,string] -/
def slices_IndexFunc_string_impl_inhibited_1.T : List Ctr := [impl_inhibited_1.spec]
def slices_IndexFunc_string_impl_inhibited_1.md : List (Nat × List Md) := [(116, [.v, .q (.sl false (.pair .str (.pair .str .unit))), .q (.sl false (.pair .str (.pair .str .unit)))]), (1000116, [.q (.sl false (.pair .str (.pair .str .unit))), .q (.sl false (.pair .str (.pair .str .unit)))])]
noncomputable def slices_IndexFunc_string_impl_inhibited_1.F : Fun := ⟨(Go.Proofs.Try.f173.body).getD .skip, [.v (.sl false .str), .fn 116 [.q (.sl false (.pair .str (.pair .str .unit))), .q (.sl false (.pair .str (.pair .str .unit)))]], [(.tmp 4, (.int .i64))], [], 0, [(7, ⟨[0, 1, 7, 8], [], []⟩)]⟩
inductive slices_IndexFunc_string_impl_inhibited_1.Pt where
  | p0 (a0 : List (ByteArray)) (a1 : List ((ByteArray) × ((ByteArray) × (Unit)))) (a2 : List ((ByteArray) × ((ByteArray) × (Unit))))
  | p7 (y1 : List (ByteArray)) (y2 : List (List ((ByteArray) × ((ByteArray) × (Unit))))) (y3 : Nat) (y4 : List (List ((ByteArray) × ((ByteArray) × (Unit))))) (y5 : Nat) (y6 : Int) (y7 : Int)
def slices_IndexFunc_string_impl_inhibited_1.lb : slices_IndexFunc_string_impl_inhibited_1.Pt → Nat
  | .p0 _ _ _ => 0
  | .p7 _ _ _ _ _ _ _ => 7
def slices_IndexFunc_string_impl_inhibited_1.st : slices_IndexFunc_string_impl_inhibited_1.Pt → St
  | .p0 a0 a1 a2 => enter [.v (.sl false .str) a0, .fn 116 [.q (.sl false (.pair .str (.pair .str .unit))) a1, .q (.sl false (.pair .str (.pair .str .unit))) a2]] 0
  | .p7 y1 y2 y3 y4 y5 y6 y7 => ⟨[(0, .im (.sl false .str) y1), (1, .fn 116 [.pi (.sl false (.pair .str (.pair .str .unit))) y2 y3 0, .pi (.sl false (.pair .str (.pair .str .unit))) y4 y5 0]), (7, .im (.int .i64) y6), (8, .im (.int .i64) y7)], [], 0⟩
def slices_IndexFunc_string_impl_inhibited_1.step (n : Nat) (K : slices_IndexFunc_string_impl_inhibited_1.Pt → Option (Tup [(.int .i64)])) : slices_IndexFunc_string_impl_inhibited_1.Pt → Option (Tup [(.int .i64)])
  | .p0 a0 a1 a2 => K (.p7 a0 [a1] 0 [a2] 0 ((List.length a0) : Int) (0 : Int))
  | .p7 y1 y2 y3 y4 y5 y6 y7 => cond (decide (y7 < y6)) (cond (inB y7 (List.length y1)) ((impl_inhibited_1 n (List.getD y1 (Int.toNat y7) default) (List.getD y2 y3 default) (List.getD y4 y5 default)).bind fun r10 => cond r10 (some y7) (K (.p7 y1 y2 y3 y4 y5 y6 (IntKind.wrap .i64 (y7 + (1 : Int)))))) (none)) (some (-(1 : Int)))
def slices_IndexFunc_string_impl_inhibited_1 (n : Nat) (a0 : List (ByteArray)) (a1 : List ((ByteArray) × ((ByteArray) × (Unit)))) (a2 : List ((ByteArray) × ((ByteArray) × (Unit)))) : Option (Tup [(.int .i64)]) := goRec slices_IndexFunc_string_impl_inhibited_1.step n (.p0 a0 a1 a2)
def slices_IndexFunc_string_impl_inhibited_1.spec : Ctr := ⟨173, [.v (.sl false .str), .fn 116 [.q (.sl false (.pair .str (.pair .str .unit))), .q (.sl false (.pair .str (.pair .str .unit)))]], [(.int .i64)], [], fun n x => slices_IndexFunc_string_impl_inhibited_1 n x.1 x.2.1.1 x.2.1.2.1⟩
theorem slices_IndexFunc_string_impl_inhibited_1.seg_eq (n : Nat) (goto : Nat → St → Option (Tup [(.int .i64)])) (y : slices_IndexFunc_string_impl_inhibited_1.Pt) : seg ⟨ty, gl, slices_IndexFunc_string_impl_inhibited_1.md, calOf slices_IndexFunc_string_impl_inhibited_1.T n⟩ slices_IndexFunc_string_impl_inhibited_1.F.np slices_IndexFunc_string_impl_inhibited_1.F.ks goto (slices_IndexFunc_string_impl_inhibited_1.F.fin ⟨ty, gl, slices_IndexFunc_string_impl_inhibited_1.md, calOf slices_IndexFunc_string_impl_inhibited_1.T 0⟩ [(.int .i64)]) slices_IndexFunc_string_impl_inhibited_1.F.c (slices_IndexFunc_string_impl_inhibited_1.lb y) (slices_IndexFunc_string_impl_inhibited_1.st y) = slices_IndexFunc_string_impl_inhibited_1.step n (fun z => goto (slices_IndexFunc_string_impl_inhibited_1.lb z) (slices_IndexFunc_string_impl_inhibited_1.st z)) y := by
  cases y <;> kernel_rfl
theorem slices_IndexFunc_string_impl_inhibited_1.text : Text Go.Proofs.Try.prog slices_IndexFunc_string_impl_inhibited_1.F slices_IndexFunc_string_impl_inhibited_1.spec := ⟨⟨Go.Proofs.Try.f173, by kernel_rfl, by kernel_rfl, by decide +kernel, by kernel_rfl, by kernel_rfl, of_decide_eq_true (by kernel_rfl)⟩, fun _ => rfl, fun _ => rfl, rfl⟩
theorem slices_IndexFunc_string_impl_inhibited_1.ok : CtrOK Go.Proofs.Try.prog gl slices_IndexFunc_string_impl_inhibited_1.spec :=
  ctr_ok (T := slices_IndexFunc_string_impl_inhibited_1.T) (F := slices_IndexFunc_string_impl_inhibited_1.F) (lb := slices_IndexFunc_string_impl_inhibited_1.lb) (st := slices_IndexFunc_string_impl_inhibited_1.st) (step := slices_IndexFunc_string_impl_inhibited_1.step) (md := slices_IndexFunc_string_impl_inhibited_1.md) tabs slices_IndexFunc_string_impl_inhibited_1.text slices_IndexFunc_string_impl_inhibited_1.seg_eq (fun n x => ⟨.p0 x.1 x.2.1.1 x.2.1.2.1, rfl, rfl, rfl⟩) (consC impl_inhibited_1.ok (nilC))

/-! slices.ContainsFunc[[]string,string] -/
def slices_ContainsFunc_string_impl_inhibited_1.T : List Ctr := [slices_IndexFunc_string_impl_goodNames_1.spec, slices_IndexFunc_string_impl_inhibited_1.spec]
def slices_ContainsFunc_string_impl_inhibited_1.md : List (Nat × List Md) := [(173, [.v, .fn]), (116, [.v, .q (.sl false (.pair .str (.pair .str .unit))), .q (.sl false (.pair .str (.pair .str .unit)))]), (1000116, [.q (.sl false (.pair .str (.pair .str .unit))), .q (.sl false (.pair .str (.pair .str .unit)))])]
noncomputable def slices_ContainsFunc_string_impl_inhibited_1.F : Fun := ⟨(Go.Proofs.Try.f115.body).getD .skip, [.v (.sl false .str), .fn 116 [.q (.sl false (.pair .str (.pair .str .unit))), .q (.sl false (.pair .str (.pair .str .unit)))]], [(.tmp 4, .bool)], [], 0, []⟩
inductive slices_ContainsFunc_string_impl_inhibited_1.Pt where
  | p0 (a0 : List (ByteArray)) (a1 : List ((ByteArray) × ((ByteArray) × (Unit)))) (a2 : List ((ByteArray) × ((ByteArray) × (Unit))))
def slices_ContainsFunc_string_impl_inhibited_1.lb : slices_ContainsFunc_string_impl_inhibited_1.Pt → Nat
  | .p0 _ _ _ => 0
def slices_ContainsFunc_string_impl_inhibited_1.st : slices_ContainsFunc_string_impl_inhibited_1.Pt → St
  | .p0 a0 a1 a2 => enter [.v (.sl false .str) a0, .fn 116 [.q (.sl false (.pair .str (.pair .str .unit))) a1, .q (.sl false (.pair .str (.pair .str .unit))) a2]] 0
def slices_ContainsFunc_string_impl_inhibited_1.step (n : Nat) (K : slices_ContainsFunc_string_impl_inhibited_1.Pt → Option (Tup [.bool])) : slices_ContainsFunc_string_impl_inhibited_1.Pt → Option (Tup [.bool])
  | .p0 a0 a1 a2 => (slices_IndexFunc_string_impl_inhibited_1 n a0 (List.getD [a1] 0 default) (List.getD [a2] 0 default)).bind fun (r6 : Int) => some (decide ((0 : Int) ≤ r6))
def slices_ContainsFunc_string_impl_inhibited_1 (n : Nat) (a0 : List (ByteArray)) (a1 : List ((ByteArray) × ((ByteArray) × (Unit)))) (a2 : List ((ByteArray) × ((ByteArray) × (Unit)))) : Option (Tup [.bool]) := goRec slices_ContainsFunc_string_impl_inhibited_1.step n (.p0 a0 a1 a2)
def slices_ContainsFunc_string_impl_inhibited_1.spec : Ctr := ⟨115, [.v (.sl false .str), .fn 116 [.q (.sl false (.pair .str (.pair .str .unit))), .q (.sl false (.pair .str (.pair .str .unit)))]], [.bool], [], fun n x => slices_ContainsFunc_string_impl_inhibited_1 n x.1 x.2.1.1 x.2.1.2.1⟩
theorem slices_ContainsFunc_string_impl_inhibited_1.seg_eq (n : Nat) (goto : Nat → St → Option (Tup [.bool])) (y : slices_ContainsFunc_string_impl_inhibited_1.Pt) : seg ⟨ty, gl, slices_ContainsFunc_string_impl_inhibited_1.md, calOf slices_ContainsFunc_string_impl_inhibited_1.T n⟩ slices_ContainsFunc_string_impl_inhibited_1.F.np slices_ContainsFunc_string_impl_inhibited_1.F.ks goto (slices_ContainsFunc_string_impl_inhibited_1.F.fin ⟨ty, gl, slices_ContainsFunc_string_impl_inhibited_1.md, calOf slices_ContainsFunc_string_impl_inhibited_1.T 0⟩ [.bool]) slices_ContainsFunc_string_impl_inhibited_1.F.c (slices_ContainsFunc_string_impl_inhibited_1.lb y) (slices_ContainsFunc_string_impl_inhibited_1.st y) = slices_ContainsFunc_string_impl_inhibited_1.step n (fun z => goto (slices_ContainsFunc_string_impl_inhibited_1.lb z) (slices_ContainsFunc_string_impl_inhibited_1.st z)) y := by
  cases y <;> kernel_rfl
theorem slices_ContainsFunc_string_impl_inhibited_1.text : Text Go.Proofs.Try.prog slices_ContainsFunc_string_impl_inhibited_1.F slices_ContainsFunc_string_impl_inhibited_1.spec := ⟨⟨Go.Proofs.Try.f115, by kernel_rfl, by kernel_rfl, by decide +kernel, by kernel_rfl, by kernel_rfl, of_decide_eq_true (by kernel_rfl)⟩, fun _ => rfl, fun _ => rfl, rfl⟩
theorem slices_ContainsFunc_string_impl_inhibited_1.ok : CtrOK Go.Proofs.Try.prog gl slices_ContainsFunc_string_impl_inhibited_1.spec :=
  ctr_ok (T := slices_ContainsFunc_string_impl_inhibited_1.T) (F := slices_ContainsFunc_string_impl_inhibited_1.F) (lb := slices_ContainsFunc_string_impl_inhibited_1.lb) (st := slices_ContainsFunc_string_impl_inhibited_1.st) (step := slices_ContainsFunc_string_impl_inhibited_1.step) (md := slices_ContainsFunc_string_impl_inhibited_1.md) tabs slices_ContainsFunc_string_impl_inhibited_1.text slices_ContainsFunc_string_impl_inhibited_1.seg_eq (fun n x => ⟨.p0 x.1 x.2.1.1 x.2.1.2.1, rfl, rfl, rfl⟩) (consC slices_IndexFunc_string_impl_goodNames_1.ok (consC slices_IndexFunc_string_impl_inhibited_1.ok (nilC)))

end Go.IH
