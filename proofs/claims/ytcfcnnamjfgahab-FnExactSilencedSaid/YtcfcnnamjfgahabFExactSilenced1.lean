/- The functions that the law reaches, each as a Lean function and with its contract, part 1. -/
import Derived.Test.YtcfcnnamjfgahabV1
import Derived.Test.YtcfcnnamjfgahabV2
import Derived.Test.YtcfcnnamjfgahabV3
import Derived.Lib.Bytealg
import Derived.Shelf.Lays
import Derived.Shelf.Small.Strs
import Derived.Test.YtcfcnnamjfgahabProg
open Go Go.VM
namespace Go.SI
set_option maxRecDepth 100000
set_option linter.unusedVariables false
set_option linter.unusedSimpArgs false
def ty : List (Nat × U) := [(0, .oth), (1, .oth), (2, (.int .i64)), (3, (.int .i64)), (4, .bool), (5, (.int .u8)), (6, (.int .u8)), (7, (.pair (.int .i64) (.pair (.int .i64) (.pair .bool (.pair (.int .u8) .unit))))), (8, (.pair (.int .i64) (.pair (.int .i64) (.pair .bool (.pair (.int .u8) .unit))))), (9, .str), (10, .str), (11, .str), (12, (.int .u64)), (13, (.pair .str (.pair (.int .u64) .unit))), (14, (.pair .str (.pair (.int .u64) .unit))), (15, .oth), (16, .oth), (17, .oth), (18, (.pair .oth .unit)), (19, (.pair .oth .unit)), (20, .oth), (21, (.int .i32)), (22, (.sl false (.pair .str (.pair (.sl false (.pair .str (.pair (.int .i64) (.pair .str .unit)))) (.pair (.int .i64) (.pair (.int .i64) .unit)))))), (23, (.sl false (.pair .str (.pair .str .unit)))), (24, .oth), (25, .oth), (26, (.sl false .str)), (27, .oth), (28, (.sl false (.pair .str (.pair (.sl false (.pair .str (.pair (.int .i64) (.pair .str .unit)))) (.pair (.int .i64) (.pair (.int .i64) .unit)))))), (29, .oth), (30, (.sl false (.pair .str (.pair .str .unit)))), (31, .oth), (32, .oth), (33, .oth), (34, .oth), (35, .oth), (36, .oth), (37, .oth), (38, .oth), (39, (.sl false (.pair (.sl false (.pair .str (.pair (.int .i64) (.pair .str .unit)))) (.pair (.sl false (.pair .str (.pair (.int .i64) (.pair .str .unit)))) (.pair (.sl false .str) .unit))))), (40, (.sl false (.sl false (.pair .str (.pair .str .unit))))), (41, .oth), (42, .oth), (43, .oth), (44, (.sl false (.pair (.sl false (.pair .str (.pair (.int .i64) (.pair .str .unit)))) (.pair (.sl false (.pair .str (.pair (.int .i64) (.pair .str .unit)))) (.pair (.sl false .str) .unit))))), (45, .oth), (46, (.sl false (.sl false (.pair .str (.pair .str .unit))))), (47, .oth), (48, .oth), (49, .oth), (50, .oth), (51, (.sl false (.pair .str (.pair (.sl false (.pair .str (.pair (.int .i64) (.pair .str .unit)))) (.pair (.sl false .str) (.pair (.int .i64) (.pair (.int .i64) (.pair (.int .i64) (.pair (.sl false (.int .i64)) (.pair .bool (.pair (.int .i64) .unit))))))))))), (52, .oth), (53, .oth), (54, (.sl false (.pair .str (.pair (.sl false (.pair .str (.pair (.int .i64) (.pair .str .unit)))) (.pair (.sl false .str) (.pair (.int .i64) (.pair (.int .i64) (.pair (.int .i64) (.pair (.sl false (.int .i64)) (.pair .bool (.pair (.int .i64) .unit))))))))))), (55, .oth), (56, .oth), (57, .oth), (58, .oth), (59, (.sl false (.int .u8))), (60, (.sl false (.pair (.sl false (.pair .str (.pair .str .unit))) (.pair (.sl false (.pair (.int .i64) (.pair (.int .i64) .unit))) .unit)))), (61, (.pair (.int .i64) (.pair (.int .i64) (.pair (.int .i64) (.pair (.sl false (.pair (.sl false (.pair .str (.pair .str .unit))) (.pair (.sl false (.pair (.int .i64) (.pair (.int .i64) .unit))) .unit))) .unit))))), (62, (.pair (.int .i64) (.pair (.int .i64) (.pair (.int .i64) (.pair (.sl false (.pair (.sl false (.pair .str (.pair .str .unit))) (.pair (.sl false (.pair (.int .i64) (.pair (.int .i64) .unit))) .unit))) .unit))))), (63, (.sl false (.pair (.sl false (.pair .str (.pair .str .unit))) (.pair (.int .i64) (.pair (.int .i64) .unit))))), (64, .oth), (65, .oth), (66, (.sl false (.int .i64))), (67, .oth), (68, .oth), (69, .oth), (70, .oth), (71, .oth), (72, .oth), (73, (.pair (.sl false (.pair .str (.pair .str .unit))) (.pair (.int .i64) (.pair (.int .i64) .unit)))), (74, (.pair (.sl false (.pair .str (.pair .str .unit))) (.pair (.int .i64) (.pair (.int .i64) .unit)))), (75, .oth), (76, .oth), (77, .oth), (78, .oth), (79, .oth), (80, (.sl false (.pair .str (.pair (.int .i64) (.pair .str .unit))))), (81, (.pair .str (.pair (.sl false (.pair .str (.pair (.int .i64) (.pair .str .unit)))) (.pair (.int .i64) (.pair (.int .i64) .unit))))), (82, (.pair .str (.pair (.sl false (.pair .str (.pair (.int .i64) (.pair .str .unit)))) (.pair (.int .i64) (.pair (.int .i64) .unit))))), (83, .oth), (84, (.pair .str (.pair .str .unit))), (85, (.pair .str (.pair .str .unit))), (86, .oth), (87, .oth), (88, .oth), (89, (.sl false (.pair .str (.pair (.int .i64) (.pair .str .unit))))), (90, (.pair .str (.pair (.sl false (.pair .str (.pair (.int .i64) (.pair .str .unit)))) (.pair (.int .i64) (.pair (.int .i64) .unit))))), (91, (.pair .str (.pair (.sl false (.pair .str (.pair (.int .i64) (.pair .str .unit)))) (.pair (.int .i64) (.pair (.int .i64) .unit))))), (92, .oth), (93, (.pair .str (.pair .str .unit))), (94, .oth), (95, .oth), (96, .oth), (97, .oth), (98, .oth), (99, .oth), (100, (.pair (.sl false (.pair .str (.pair (.int .i64) (.pair .str .unit)))) (.pair (.sl false (.pair .str (.pair (.int .i64) (.pair .str .unit)))) (.pair (.sl false .str) .unit)))), (101, (.pair (.sl false (.pair .str (.pair (.int .i64) (.pair .str .unit)))) (.pair (.sl false (.pair .str (.pair (.int .i64) (.pair .str .unit)))) (.pair (.sl false .str) .unit)))), (102, .oth), (103, (.pair (.sl false (.pair .str (.pair (.int .i64) (.pair .str .unit)))) (.pair (.sl false (.pair .str (.pair (.int .i64) (.pair .str .unit)))) (.pair (.sl false .str) .unit)))), (104, (.pair (.sl false (.pair .str (.pair (.int .i64) (.pair .str .unit)))) (.pair (.sl false (.pair .str (.pair (.int .i64) (.pair .str .unit)))) (.pair (.sl false .str) .unit)))), (105, .oth), (106, .oth), (107, .oth), (108, .oth), (109, (.pair .str (.pair (.sl false (.pair .str (.pair (.int .i64) (.pair .str .unit)))) (.pair (.sl false .str) (.pair (.int .i64) (.pair (.int .i64) (.pair (.int .i64) (.pair (.sl false (.int .i64)) (.pair .bool (.pair (.int .i64) .unit)))))))))), (110, (.pair .str (.pair (.sl false (.pair .str (.pair (.int .i64) (.pair .str .unit)))) (.pair (.sl false .str) (.pair (.int .i64) (.pair (.int .i64) (.pair (.int .i64) (.pair (.sl false (.int .i64)) (.pair .bool (.pair (.int .i64) .unit)))))))))), (111, .oth), (112, .oth), (113, (.pair .str (.pair (.sl false (.pair .str (.pair (.int .i64) (.pair .str .unit)))) (.pair (.sl false .str) (.pair (.int .i64) (.pair (.int .i64) (.pair (.int .i64) (.pair (.sl false (.int .i64)) (.pair .bool (.pair (.int .i64) .unit)))))))))), (114, (.pair .str (.pair (.sl false (.pair .str (.pair (.int .i64) (.pair .str .unit)))) (.pair (.sl false .str) (.pair (.int .i64) (.pair (.int .i64) (.pair (.int .i64) (.pair (.sl false (.int .i64)) (.pair .bool (.pair (.int .i64) .unit)))))))))), (115, .oth), (116, .oth), (117, .oth), (118, .oth), (119, .oth), (120, (.int .u64)), (121, (.pair (.sl false (.int .u8)) (.pair (.int .i64) (.pair (.int .u64) .unit)))), (122, (.pair (.sl false (.int .u8)) (.pair (.int .i64) (.pair (.int .u64) .unit)))), (123, .oth), (124, .oth), (125, .oth), (126, .oth), (127, (.sl false (.pair (.int .i64) (.pair (.int .i64) .unit)))), (128, .oth), (129, (.pair (.sl false (.pair .str (.pair .str .unit))) (.pair (.sl false (.pair (.int .i64) (.pair (.int .i64) .unit))) .unit))), (130, (.pair (.sl false (.pair .str (.pair .str .unit))) (.pair (.sl false (.pair (.int .i64) (.pair (.int .i64) .unit))) .unit))), (131, .oth), (132, .oth), (133, .oth), (134, .oth), (135, .oth), (136, .oth), (137, .oth), (138, .oth), (139, (.pair (.int .i64) (.pair (.int .i64) .unit))), (140, (.pair (.int .i64) (.pair (.int .i64) .unit))), (141, .oth), (142, .oth), (143, .oth), (144, .oth), (145, .oth), (146, .oth), (147, .oth), (148, .oth), (149, .oth), (150, (.pair .str (.pair (.int .i64) (.pair .str .unit)))), (151, (.pair .str (.pair (.int .i64) (.pair .str .unit)))), (152, .oth), (153, .oth), (154, .oth), (155, .oth), (156, .oth), (157, .oth), (158, .oth), (159, .oth), (160, .oth), (161, .oth), (162, .oth), (163, .oth), (164, .oth), (165, .oth), (166, .oth), (167, .oth), (168, .oth), (169, .oth), (170, .oth), (171, .oth), (172, .oth), (173, .oth), (174, .oth), (175, .oth), (176, .oth), (177, .oth), (178, .oth), (179, .oth), (180, .oth), (181, .oth), (182, (.int .u64)), (183, .oth), (184, (.pair .str (.pair (.int .i64) (.pair .str .unit)))), (185, .oth), (186, .oth), (187, .oth), (188, .oth), (189, .oth), (190, .oth), (191, .oth), (192, .oth), (193, .oth), (194, .oth), (195, .oth), (196, .oth), (197, .oth), (198, .oth), (199, .oth), (200, .oth), (201, .oth), (202, .oth), (203, .oth), (204, .oth), (205, .oth), (206, (.sl false (.sl false (.int .i64)))), (207, .oth), (208, .oth), (209, .oth), (210, .oth), (211, .oth), (212, (.sl false .bool)), (213, .oth), (214, (.sl false (.sl false (.pair (.int .u8) (.pair .bool (.pair .bool .unit)))))), (215, .oth), (216, .oth), (217, .oth), (218, .oth), (219, .oth), (220, .oth), (221, (.pair (.int .u8) (.pair .bool (.pair .bool .unit)))), (222, (.pair (.int .u8) (.pair .bool (.pair .bool .unit)))), (223, (.sl false (.pair (.int .u8) (.pair .bool (.pair .bool .unit))))), (224, .oth), (225, .oth), (226, .oth), (227, (.sl false (.sl false .bool))), (228, (.pair .oth (.pair .oth (.pair .oth (.pair .str .unit))))), (229, (.pair .oth (.pair .oth (.pair .oth (.pair .str .unit))))), (230, (.ar 0 .oth)), (233, (.int .u32)), (234, (.int .u8)), (235, (.int .u8)), (236, .oth), (237, .oth), (238, (.int .i32)), (239, (.int .i32)), (240, (.pair (.int .u64) (.pair (.int .u64) (.pair (.int .u32) (.pair (.int .u8) (.pair (.int .u8) (.pair (.int .u8) (.pair (.int .u8) (.pair .oth (.pair .oth (.pair (.int .i32) (.pair (.int .i32) .unit)))))))))))), (241, (.pair (.int .u64) (.pair (.int .u64) (.pair (.int .u32) (.pair (.int .u8) (.pair (.int .u8) (.pair (.int .u8) (.pair (.int .u8) (.pair .oth (.pair .oth (.pair (.int .i32) (.pair (.int .i32) .unit)))))))))))), (242, .oth)]
def gl : List (Nat × TV) := []
theorem tabs : Tabs Go.Proofs.Try.prog ty gl := tabs_of (by kernel_rfl) (by kernel_rfl)
/-! loop.example/g00039/laws.szMatcher -/
def laws_szMatcher.T : List Ctr := []
def laws_szMatcher.md : List (Nat × List Md) := []
noncomputable def laws_szMatcher.F : Fun := ⟨(Go.Proofs.Try.f153.body).getD .skip, [.v (.pair .str (.pair (.int .i64) (.pair .str .unit))), .v (.int .i64)], [(.tmp 4, (.int .i64))], [], 0, []⟩
inductive laws_szMatcher.Pt where
  | p0 (a0 : (ByteArray) × ((Int) × ((ByteArray) × (Unit)))) (a1 : Int)
def laws_szMatcher.lb : laws_szMatcher.Pt → Nat
  | .p0 _ _ => 0
def laws_szMatcher.st : laws_szMatcher.Pt → St
  | .p0 a0 a1 => enter [.v (.pair .str (.pair (.int .i64) (.pair .str .unit))) a0, .v (.int .i64) a1] 0
def laws_szMatcher.step (n : Nat) (K : laws_szMatcher.Pt → Option (Tup [(.int .i64)])) : laws_szMatcher.Pt → Option (Tup [(.int .i64)])
  | .p0 a0 a1 => cond (decide ((IntKind.wrap .i64 (a1 - ((ByteArray.size a0.1) : Int))) < (0 : Int))) (some (-(1 : Int))) (cond (decide ((IntKind.wrap .i64 ((IntKind.wrap .i64 (a1 - ((ByteArray.size a0.1) : Int))) - ((ByteArray.size a0.2.2.1) : Int))) < (0 : Int))) (some (-(1 : Int))) (some (IntKind.wrap .i64 ((IntKind.wrap .i64 (a1 - ((ByteArray.size a0.1) : Int))) - ((ByteArray.size a0.2.2.1) : Int)))))
def laws_szMatcher (n : Nat) (a0 : (ByteArray) × ((Int) × ((ByteArray) × (Unit)))) (a1 : Int) : Option (Tup [(.int .i64)]) := goRec laws_szMatcher.step n (.p0 a0 a1)
def laws_szMatcher.spec : Ctr := ⟨153, [.v (.pair .str (.pair (.int .i64) (.pair .str .unit))), .v (.int .i64)], [(.int .i64)], [], fun n x => laws_szMatcher n x.1 x.2.1⟩
theorem laws_szMatcher.seg_eq (n : Nat) (goto : Nat → St → Option (Tup [(.int .i64)])) (y : laws_szMatcher.Pt) : seg ⟨ty, gl, laws_szMatcher.md, calOf laws_szMatcher.T n⟩ laws_szMatcher.F.np laws_szMatcher.F.ks goto (laws_szMatcher.F.fin ⟨ty, gl, laws_szMatcher.md, calOf laws_szMatcher.T 0⟩ [(.int .i64)]) laws_szMatcher.F.c (laws_szMatcher.lb y) (laws_szMatcher.st y) = laws_szMatcher.step n (fun z => goto (laws_szMatcher.lb z) (laws_szMatcher.st z)) y := by
  cases y <;> kernel_rfl
theorem laws_szMatcher.text : Text Go.Proofs.Try.prog laws_szMatcher.F laws_szMatcher.spec := ⟨⟨Go.Proofs.Try.f153, by kernel_rfl, by kernel_rfl, by decide +kernel, by kernel_rfl, by kernel_rfl, of_decide_eq_true (by kernel_rfl)⟩, fun _ => rfl, fun _ => rfl, rfl⟩
theorem laws_szMatcher.ok : CtrOK Go.Proofs.Try.prog gl laws_szMatcher.spec :=
  ctr_ok (T := laws_szMatcher.T) (F := laws_szMatcher.F) (lb := laws_szMatcher.lb) (st := laws_szMatcher.st) (step := laws_szMatcher.step) (md := laws_szMatcher.md) tabs laws_szMatcher.text laws_szMatcher.seg_eq (fun n x => ⟨.p0 x.1 x.2.1, rfl, rfl, rfl⟩) (nilC)

/-! loop.example/g00039/laws.szMatcherS -/
def laws_szMatcherS.T : List Ctr := [laws_szMatcher.spec]
def laws_szMatcherS.md : List (Nat × List Md) := []
noncomputable def laws_szMatcherS.F : Fun := ⟨(Go.Proofs.Try.f95.body).getD .skip, [.v (.sl false (.pair .str (.pair (.int .i64) (.pair .str .unit)))), .v (.int .i64)], [(.tmp 4, (.int .i64))], [], 0, [(17, ⟨[0, 1, 5], [], []⟩)]⟩
inductive laws_szMatcherS.Pt where
  | p0 (a0 : List ((ByteArray) × ((Int) × ((ByteArray) × (Unit))))) (a1 : Int)
  | p17 (y1 : List ((ByteArray) × ((Int) × ((ByteArray) × (Unit))))) (y2 : Int) (y3 : Int)
def laws_szMatcherS.lb : laws_szMatcherS.Pt → Nat
  | .p0 _ _ => 0
  | .p17 _ _ _ => 17
def laws_szMatcherS.st : laws_szMatcherS.Pt → St
  | .p0 a0 a1 => enter [.v (.sl false (.pair .str (.pair (.int .i64) (.pair .str .unit)))) a0, .v (.int .i64) a1] 0
  | .p17 y1 y2 y3 => ⟨[(0, .im (.sl false (.pair .str (.pair (.int .i64) (.pair .str .unit)))) y1), (1, .im (.int .i64) y2), (5, .im (.int .i64) y3)], [], 0⟩
def laws_szMatcherS.step (n : Nat) (K : laws_szMatcherS.Pt → Option (Tup [(.int .i64)])) : laws_szMatcherS.Pt → Option (Tup [(.int .i64)])
  | .p0 a0 a1 => cond (decide ((IntKind.wrap .i64 (a1 - ((List.length a0) : Int))) < (0 : Int))) (some (-(1 : Int))) (K (.p17 a0 (IntKind.wrap .i64 (a1 - ((List.length a0) : Int))) (0 : Int)))
  | .p17 y1 y2 y3 => cond (decide (y3 < ((List.length y1) : Int))) (cond (inB y3 (List.length y1)) ((laws_szMatcher n (List.getD y1 (Int.toNat y3) default) y2).bind fun (r6 : Int) => cond (decide (r6 < (0 : Int))) (some (-(1 : Int))) (K (.p17 y1 r6 (IntKind.wrap .i64 (y3 + (1 : Int)))))) (none)) (some y2)
def laws_szMatcherS (n : Nat) (a0 : List ((ByteArray) × ((Int) × ((ByteArray) × (Unit))))) (a1 : Int) : Option (Tup [(.int .i64)]) := goRec laws_szMatcherS.step n (.p0 a0 a1)
def laws_szMatcherS.spec : Ctr := ⟨95, [.v (.sl false (.pair .str (.pair (.int .i64) (.pair .str .unit)))), .v (.int .i64)], [(.int .i64)], [], fun n x => laws_szMatcherS n x.1 x.2.1⟩
theorem laws_szMatcherS.seg_eq (n : Nat) (goto : Nat → St → Option (Tup [(.int .i64)])) (y : laws_szMatcherS.Pt) : seg ⟨ty, gl, laws_szMatcherS.md, calOf laws_szMatcherS.T n⟩ laws_szMatcherS.F.np laws_szMatcherS.F.ks goto (laws_szMatcherS.F.fin ⟨ty, gl, laws_szMatcherS.md, calOf laws_szMatcherS.T 0⟩ [(.int .i64)]) laws_szMatcherS.F.c (laws_szMatcherS.lb y) (laws_szMatcherS.st y) = laws_szMatcherS.step n (fun z => goto (laws_szMatcherS.lb z) (laws_szMatcherS.st z)) y := by
  cases y <;> kernel_rfl
theorem laws_szMatcherS.text : Text Go.Proofs.Try.prog laws_szMatcherS.F laws_szMatcherS.spec := ⟨⟨Go.Proofs.Try.f95, by kernel_rfl, by kernel_rfl, by decide +kernel, by kernel_rfl, by kernel_rfl, of_decide_eq_true (by kernel_rfl)⟩, fun _ => rfl, fun _ => rfl, rfl⟩
theorem laws_szMatcherS.ok : CtrOK Go.Proofs.Try.prog gl laws_szMatcherS.spec :=
  ctr_ok (T := laws_szMatcherS.T) (F := laws_szMatcherS.F) (lb := laws_szMatcherS.lb) (st := laws_szMatcherS.st) (step := laws_szMatcherS.step) (md := laws_szMatcherS.md) tabs laws_szMatcherS.text laws_szMatcherS.seg_eq (fun n x => ⟨.p0 x.1 x.2.1, rfl, rfl, rfl⟩) (consC laws_szMatcher.ok (nilC))

/-! loop.example/g00039/laws.szSilence -/
def laws_szSilence.T : List Ctr := [laws_szMatcherS.spec]
def laws_szSilence.md : List (Nat × List Md) := []
noncomputable def laws_szSilence.F : Fun := ⟨(Go.Proofs.Try.f44.body).getD .skip, [.v (.pair .str (.pair (.sl false (.pair .str (.pair (.int .i64) (.pair .str .unit)))) (.pair (.int .i64) (.pair (.int .i64) .unit)))), .v (.int .i64)], [(.tmp 4, (.int .i64))], [], 0, []⟩
inductive laws_szSilence.Pt where
  | p0 (a0 : (ByteArray) × ((List ((ByteArray) × ((Int) × ((ByteArray) × (Unit))))) × ((Int) × ((Int) × (Unit))))) (a1 : Int)
def laws_szSilence.lb : laws_szSilence.Pt → Nat
  | .p0 _ _ => 0
def laws_szSilence.st : laws_szSilence.Pt → St
  | .p0 a0 a1 => enter [.v (.pair .str (.pair (.sl false (.pair .str (.pair (.int .i64) (.pair .str .unit)))) (.pair (.int .i64) (.pair (.int .i64) .unit)))) a0, .v (.int .i64) a1] 0
def laws_szSilence.step (n : Nat) (K : laws_szSilence.Pt → Option (Tup [(.int .i64)])) : laws_szSilence.Pt → Option (Tup [(.int .i64)])
  | .p0 a0 a1 => cond (decide ((IntKind.wrap .i64 (a1 - ((ByteArray.size a0.1) : Int))) < (0 : Int))) (some (-(1 : Int))) ((laws_szMatcherS n a0.2.1 (IntKind.wrap .i64 (a1 - ((ByteArray.size a0.1) : Int)))).bind fun (r5 : Int) => cond (decide (r5 < (0 : Int))) (some (-(1 : Int))) (some r5))
def laws_szSilence (n : Nat) (a0 : (ByteArray) × ((List ((ByteArray) × ((Int) × ((ByteArray) × (Unit))))) × ((Int) × ((Int) × (Unit))))) (a1 : Int) : Option (Tup [(.int .i64)]) := goRec laws_szSilence.step n (.p0 a0 a1)
def laws_szSilence.spec : Ctr := ⟨44, [.v (.pair .str (.pair (.sl false (.pair .str (.pair (.int .i64) (.pair .str .unit)))) (.pair (.int .i64) (.pair (.int .i64) .unit)))), .v (.int .i64)], [(.int .i64)], [], fun n x => laws_szSilence n x.1 x.2.1⟩
theorem laws_szSilence.seg_eq (n : Nat) (goto : Nat → St → Option (Tup [(.int .i64)])) (y : laws_szSilence.Pt) : seg ⟨ty, gl, laws_szSilence.md, calOf laws_szSilence.T n⟩ laws_szSilence.F.np laws_szSilence.F.ks goto (laws_szSilence.F.fin ⟨ty, gl, laws_szSilence.md, calOf laws_szSilence.T 0⟩ [(.int .i64)]) laws_szSilence.F.c (laws_szSilence.lb y) (laws_szSilence.st y) = laws_szSilence.step n (fun z => goto (laws_szSilence.lb z) (laws_szSilence.st z)) y := by
  cases y <;> kernel_rfl
theorem laws_szSilence.text : Text Go.Proofs.Try.prog laws_szSilence.F laws_szSilence.spec := ⟨⟨Go.Proofs.Try.f44, by kernel_rfl, by kernel_rfl, by decide +kernel, by kernel_rfl, by kernel_rfl, of_decide_eq_true (by kernel_rfl)⟩, fun _ => rfl, fun _ => rfl, rfl⟩
theorem laws_szSilence.ok : CtrOK Go.Proofs.Try.prog gl laws_szSilence.spec :=
  ctr_ok (T := laws_szSilence.T) (F := laws_szSilence.F) (lb := laws_szSilence.lb) (st := laws_szSilence.st) (step := laws_szSilence.step) (md := laws_szSilence.md) tabs laws_szSilence.text laws_szSilence.seg_eq (fun n x => ⟨.p0 x.1 x.2.1, rfl, rfl, rfl⟩) (consC laws_szMatcherS.ok (nilC))

/-! loop.example/g00039/laws.szSilenceS -/
def laws_szSilenceS.T : List Ctr := [laws_szSilence.spec]
def laws_szSilenceS.md : List (Nat × List Md) := []
noncomputable def laws_szSilenceS.F : Fun := ⟨(Go.Proofs.Try.f7.body).getD .skip, [.v (.sl false (.pair .str (.pair (.sl false (.pair .str (.pair (.int .i64) (.pair .str .unit)))) (.pair (.int .i64) (.pair (.int .i64) .unit))))), .v (.int .i64)], [(.tmp 4, (.int .i64))], [], 0, [(17, ⟨[0, 1, 5], [], []⟩)]⟩
inductive laws_szSilenceS.Pt where
  | p0 (a0 : List ((ByteArray) × ((List ((ByteArray) × ((Int) × ((ByteArray) × (Unit))))) × ((Int) × ((Int) × (Unit)))))) (a1 : Int)
  | p17 (y1 : List ((ByteArray) × ((List ((ByteArray) × ((Int) × ((ByteArray) × (Unit))))) × ((Int) × ((Int) × (Unit)))))) (y2 : Int) (y3 : Int)
def laws_szSilenceS.lb : laws_szSilenceS.Pt → Nat
  | .p0 _ _ => 0
  | .p17 _ _ _ => 17
def laws_szSilenceS.st : laws_szSilenceS.Pt → St
  | .p0 a0 a1 => enter [.v (.sl false (.pair .str (.pair (.sl false (.pair .str (.pair (.int .i64) (.pair .str .unit)))) (.pair (.int .i64) (.pair (.int .i64) .unit))))) a0, .v (.int .i64) a1] 0
  | .p17 y1 y2 y3 => ⟨[(0, .im (.sl false (.pair .str (.pair (.sl false (.pair .str (.pair (.int .i64) (.pair .str .unit)))) (.pair (.int .i64) (.pair (.int .i64) .unit))))) y1), (1, .im (.int .i64) y2), (5, .im (.int .i64) y3)], [], 0⟩
def laws_szSilenceS.step (n : Nat) (K : laws_szSilenceS.Pt → Option (Tup [(.int .i64)])) : laws_szSilenceS.Pt → Option (Tup [(.int .i64)])
  | .p0 a0 a1 => cond (decide ((IntKind.wrap .i64 (a1 - ((List.length a0) : Int))) < (0 : Int))) (some (-(1 : Int))) (K (.p17 a0 (IntKind.wrap .i64 (a1 - ((List.length a0) : Int))) (0 : Int)))
  | .p17 y1 y2 y3 => cond (decide (y3 < ((List.length y1) : Int))) (cond (inB y3 (List.length y1)) ((laws_szSilence n (List.getD y1 (Int.toNat y3) default) y2).bind fun (r6 : Int) => cond (decide (r6 < (0 : Int))) (some (-(1 : Int))) (K (.p17 y1 r6 (IntKind.wrap .i64 (y3 + (1 : Int)))))) (none)) (some y2)
def laws_szSilenceS (n : Nat) (a0 : List ((ByteArray) × ((List ((ByteArray) × ((Int) × ((ByteArray) × (Unit))))) × ((Int) × ((Int) × (Unit)))))) (a1 : Int) : Option (Tup [(.int .i64)]) := goRec laws_szSilenceS.step n (.p0 a0 a1)
def laws_szSilenceS.spec : Ctr := ⟨7, [.v (.sl false (.pair .str (.pair (.sl false (.pair .str (.pair (.int .i64) (.pair .str .unit)))) (.pair (.int .i64) (.pair (.int .i64) .unit))))), .v (.int .i64)], [(.int .i64)], [], fun n x => laws_szSilenceS n x.1 x.2.1⟩
theorem laws_szSilenceS.seg_eq (n : Nat) (goto : Nat → St → Option (Tup [(.int .i64)])) (y : laws_szSilenceS.Pt) : seg ⟨ty, gl, laws_szSilenceS.md, calOf laws_szSilenceS.T n⟩ laws_szSilenceS.F.np laws_szSilenceS.F.ks goto (laws_szSilenceS.F.fin ⟨ty, gl, laws_szSilenceS.md, calOf laws_szSilenceS.T 0⟩ [(.int .i64)]) laws_szSilenceS.F.c (laws_szSilenceS.lb y) (laws_szSilenceS.st y) = laws_szSilenceS.step n (fun z => goto (laws_szSilenceS.lb z) (laws_szSilenceS.st z)) y := by
  cases y <;> kernel_rfl
theorem laws_szSilenceS.text : Text Go.Proofs.Try.prog laws_szSilenceS.F laws_szSilenceS.spec := ⟨⟨Go.Proofs.Try.f7, by kernel_rfl, by kernel_rfl, by decide +kernel, by kernel_rfl, by kernel_rfl, of_decide_eq_true (by kernel_rfl)⟩, fun _ => rfl, fun _ => rfl, rfl⟩
theorem laws_szSilenceS.ok : CtrOK Go.Proofs.Try.prog gl laws_szSilenceS.spec :=
  ctr_ok (T := laws_szSilenceS.T) (F := laws_szSilenceS.F) (lb := laws_szSilenceS.lb) (st := laws_szSilenceS.st) (step := laws_szSilenceS.step) (md := laws_szSilenceS.md) tabs laws_szSilenceS.text laws_szSilenceS.seg_eq (fun n x => ⟨.p0 x.1 x.2.1, rfl, rfl, rfl⟩) (consC laws_szSilence.ok (nilC))

/-! loop.example/g00039/laws.szLabel -/
def laws_szLabel.T : List Ctr := []
def laws_szLabel.md : List (Nat × List Md) := []
noncomputable def laws_szLabel.F : Fun := ⟨(Go.Proofs.Try.f45.body).getD .skip, [.v (.pair .str (.pair .str .unit)), .v (.int .i64)], [(.tmp 4, (.int .i64))], [], 0, []⟩
inductive laws_szLabel.Pt where
  | p0 (a0 : (ByteArray) × ((ByteArray) × (Unit))) (a1 : Int)
def laws_szLabel.lb : laws_szLabel.Pt → Nat
  | .p0 _ _ => 0
def laws_szLabel.st : laws_szLabel.Pt → St
  | .p0 a0 a1 => enter [.v (.pair .str (.pair .str .unit)) a0, .v (.int .i64) a1] 0
def laws_szLabel.step (n : Nat) (K : laws_szLabel.Pt → Option (Tup [(.int .i64)])) : laws_szLabel.Pt → Option (Tup [(.int .i64)])
  | .p0 a0 a1 => cond (decide ((IntKind.wrap .i64 (a1 - ((ByteArray.size a0.1) : Int))) < (0 : Int))) (some (-(1 : Int))) (cond (decide ((IntKind.wrap .i64 ((IntKind.wrap .i64 (a1 - ((ByteArray.size a0.1) : Int))) - ((ByteArray.size a0.2.1) : Int))) < (0 : Int))) (some (-(1 : Int))) (some (IntKind.wrap .i64 ((IntKind.wrap .i64 (a1 - ((ByteArray.size a0.1) : Int))) - ((ByteArray.size a0.2.1) : Int)))))
def laws_szLabel (n : Nat) (a0 : (ByteArray) × ((ByteArray) × (Unit))) (a1 : Int) : Option (Tup [(.int .i64)]) := goRec laws_szLabel.step n (.p0 a0 a1)
def laws_szLabel.spec : Ctr := ⟨45, [.v (.pair .str (.pair .str .unit)), .v (.int .i64)], [(.int .i64)], [], fun n x => laws_szLabel n x.1 x.2.1⟩
theorem laws_szLabel.seg_eq (n : Nat) (goto : Nat → St → Option (Tup [(.int .i64)])) (y : laws_szLabel.Pt) : seg ⟨ty, gl, laws_szLabel.md, calOf laws_szLabel.T n⟩ laws_szLabel.F.np laws_szLabel.F.ks goto (laws_szLabel.F.fin ⟨ty, gl, laws_szLabel.md, calOf laws_szLabel.T 0⟩ [(.int .i64)]) laws_szLabel.F.c (laws_szLabel.lb y) (laws_szLabel.st y) = laws_szLabel.step n (fun z => goto (laws_szLabel.lb z) (laws_szLabel.st z)) y := by
  cases y <;> kernel_rfl
theorem laws_szLabel.text : Text Go.Proofs.Try.prog laws_szLabel.F laws_szLabel.spec := ⟨⟨Go.Proofs.Try.f45, by kernel_rfl, by kernel_rfl, by decide +kernel, by kernel_rfl, by kernel_rfl, of_decide_eq_true (by kernel_rfl)⟩, fun _ => rfl, fun _ => rfl, rfl⟩
theorem laws_szLabel.ok : CtrOK Go.Proofs.Try.prog gl laws_szLabel.spec :=
  ctr_ok (T := laws_szLabel.T) (F := laws_szLabel.F) (lb := laws_szLabel.lb) (st := laws_szLabel.st) (step := laws_szLabel.step) (md := laws_szLabel.md) tabs laws_szLabel.text laws_szLabel.seg_eq (fun n x => ⟨.p0 x.1 x.2.1, rfl, rfl, rfl⟩) (nilC)

/-! loop.example/g00039/laws.szLabelS -/
def laws_szLabelS.T : List Ctr := [laws_szLabel.spec]
def laws_szLabelS.md : List (Nat × List Md) := []
noncomputable def laws_szLabelS.F : Fun := ⟨(Go.Proofs.Try.f8.body).getD .skip, [.v (.sl false (.pair .str (.pair .str .unit))), .v (.int .i64)], [(.tmp 4, (.int .i64))], [], 0, [(17, ⟨[0, 1, 5], [], []⟩)]⟩
inductive laws_szLabelS.Pt where
  | p0 (a0 : List ((ByteArray) × ((ByteArray) × (Unit)))) (a1 : Int)
  | p17 (y1 : List ((ByteArray) × ((ByteArray) × (Unit)))) (y2 : Int) (y3 : Int)
def laws_szLabelS.lb : laws_szLabelS.Pt → Nat
  | .p0 _ _ => 0
  | .p17 _ _ _ => 17
def laws_szLabelS.st : laws_szLabelS.Pt → St
  | .p0 a0 a1 => enter [.v (.sl false (.pair .str (.pair .str .unit))) a0, .v (.int .i64) a1] 0
  | .p17 y1 y2 y3 => ⟨[(0, .im (.sl false (.pair .str (.pair .str .unit))) y1), (1, .im (.int .i64) y2), (5, .im (.int .i64) y3)], [], 0⟩
def laws_szLabelS.step (n : Nat) (K : laws_szLabelS.Pt → Option (Tup [(.int .i64)])) : laws_szLabelS.Pt → Option (Tup [(.int .i64)])
  | .p0 a0 a1 => cond (decide ((IntKind.wrap .i64 (a1 - ((List.length a0) : Int))) < (0 : Int))) (some (-(1 : Int))) (K (.p17 a0 (IntKind.wrap .i64 (a1 - ((List.length a0) : Int))) (0 : Int)))
  | .p17 y1 y2 y3 => cond (decide (y3 < ((List.length y1) : Int))) (cond (inB y3 (List.length y1)) ((laws_szLabel n (List.getD y1 (Int.toNat y3) default) y2).bind fun (r6 : Int) => cond (decide (r6 < (0 : Int))) (some (-(1 : Int))) (K (.p17 y1 r6 (IntKind.wrap .i64 (y3 + (1 : Int)))))) (none)) (some y2)
def laws_szLabelS (n : Nat) (a0 : List ((ByteArray) × ((ByteArray) × (Unit)))) (a1 : Int) : Option (Tup [(.int .i64)]) := goRec laws_szLabelS.step n (.p0 a0 a1)
def laws_szLabelS.spec : Ctr := ⟨8, [.v (.sl false (.pair .str (.pair .str .unit))), .v (.int .i64)], [(.int .i64)], [], fun n x => laws_szLabelS n x.1 x.2.1⟩
theorem laws_szLabelS.seg_eq (n : Nat) (goto : Nat → St → Option (Tup [(.int .i64)])) (y : laws_szLabelS.Pt) : seg ⟨ty, gl, laws_szLabelS.md, calOf laws_szLabelS.T n⟩ laws_szLabelS.F.np laws_szLabelS.F.ks goto (laws_szLabelS.F.fin ⟨ty, gl, laws_szLabelS.md, calOf laws_szLabelS.T 0⟩ [(.int .i64)]) laws_szLabelS.F.c (laws_szLabelS.lb y) (laws_szLabelS.st y) = laws_szLabelS.step n (fun z => goto (laws_szLabelS.lb z) (laws_szLabelS.st z)) y := by
  cases y <;> kernel_rfl
theorem laws_szLabelS.text : Text Go.Proofs.Try.prog laws_szLabelS.F laws_szLabelS.spec := ⟨⟨Go.Proofs.Try.f8, by kernel_rfl, by kernel_rfl, by decide +kernel, by kernel_rfl, by kernel_rfl, of_decide_eq_true (by kernel_rfl)⟩, fun _ => rfl, fun _ => rfl, rfl⟩
theorem laws_szLabelS.ok : CtrOK Go.Proofs.Try.prog gl laws_szLabelS.spec :=
  ctr_ok (T := laws_szLabelS.T) (F := laws_szLabelS.F) (lb := laws_szLabelS.lb) (st := laws_szLabelS.st) (step := laws_szLabelS.step) (md := laws_szLabelS.md) tabs laws_szLabelS.text laws_szLabelS.seg_eq (fun n x => ⟨.p0 x.1 x.2.1, rfl, rfl, rfl⟩) (consC laws_szLabel.ok (nilC))

/-! loop.example/g00039/laws.toMatcher -/
def laws_toMatcher.T : List Ctr := []
def laws_toMatcher.md : List (Nat × List Md) := []
noncomputable def laws_toMatcher.F : Fun := ⟨(Go.Proofs.Try.f160.body).getD .skip, [.v (.pair .str (.pair (.int .i64) (.pair .str .unit)))], [(.cell 2 151, (.pair .str (.pair (.int .i64) (.pair .str .unit))))], [], 0, []⟩
inductive laws_toMatcher.Pt where
  | p0 (a0 : (ByteArray) × ((Int) × ((ByteArray) × (Unit))))
def laws_toMatcher.lb : laws_toMatcher.Pt → Nat
  | .p0 _ => 0
def laws_toMatcher.st : laws_toMatcher.Pt → St
  | .p0 a0 => enter [.v (.pair .str (.pair (.int .i64) (.pair .str .unit))) a0] 0
def laws_toMatcher.step (n : Nat) (K : laws_toMatcher.Pt → Option (Tup [(.pair .str (.pair (.int .i64) (.pair .str .unit)))])) : laws_toMatcher.Pt → Option (Tup [(.pair .str (.pair (.int .i64) (.pair .str .unit)))])
  | .p0 a0 => some a0
def laws_toMatcher (n : Nat) (a0 : (ByteArray) × ((Int) × ((ByteArray) × (Unit)))) : Option (Tup [(.pair .str (.pair (.int .i64) (.pair .str .unit)))]) := goRec laws_toMatcher.step n (.p0 a0)
def laws_toMatcher.spec : Ctr := ⟨160, [.v (.pair .str (.pair (.int .i64) (.pair .str .unit)))], [(.pair .str (.pair (.int .i64) (.pair .str .unit)))], [], fun n x => laws_toMatcher n x.1⟩
theorem laws_toMatcher.seg_eq (n : Nat) (goto : Nat → St → Option (Tup [(.pair .str (.pair (.int .i64) (.pair .str .unit)))])) (y : laws_toMatcher.Pt) : seg ⟨ty, gl, laws_toMatcher.md, calOf laws_toMatcher.T n⟩ laws_toMatcher.F.np laws_toMatcher.F.ks goto (laws_toMatcher.F.fin ⟨ty, gl, laws_toMatcher.md, calOf laws_toMatcher.T 0⟩ [(.pair .str (.pair (.int .i64) (.pair .str .unit)))]) laws_toMatcher.F.c (laws_toMatcher.lb y) (laws_toMatcher.st y) = laws_toMatcher.step n (fun z => goto (laws_toMatcher.lb z) (laws_toMatcher.st z)) y := by
  cases y <;> kernel_rfl
theorem laws_toMatcher.text : Text Go.Proofs.Try.prog laws_toMatcher.F laws_toMatcher.spec := ⟨⟨Go.Proofs.Try.f160, by kernel_rfl, by kernel_rfl, by decide +kernel, by kernel_rfl, by kernel_rfl, of_decide_eq_true (by kernel_rfl)⟩, fun _ => rfl, fun _ => rfl, rfl⟩
theorem laws_toMatcher.ok : CtrOK Go.Proofs.Try.prog gl laws_toMatcher.spec :=
  ctr_ok (T := laws_toMatcher.T) (F := laws_toMatcher.F) (lb := laws_toMatcher.lb) (st := laws_toMatcher.st) (step := laws_toMatcher.step) (md := laws_toMatcher.md) tabs laws_toMatcher.text laws_toMatcher.seg_eq (fun n x => ⟨.p0 x.1, rfl, rfl, rfl⟩) (nilC)

/-! loop.example/g00039/laws.toMatcherS -/
def laws_toMatcherS.T : List Ctr := [laws_toMatcher.spec]
def laws_toMatcherS.md : List (Nat × List Md) := []
noncomputable def laws_toMatcherS.F : Fun := ⟨(Go.Proofs.Try.f101.body).getD .skip, [.v (.sl false (.pair .str (.pair (.int .i64) (.pair .str .unit))))], [(.tmp 2, (.sl false (.pair .str (.pair (.int .i64) (.pair .str .unit)))))], [], 0, [(9, ⟨[0, 3, 4], [(3, (.pair .str (.pair (.int .i64) (.pair .str .unit))))], []⟩)]⟩
inductive laws_toMatcherS.Pt where
  | p0 (a0 : List ((ByteArray) × ((Int) × ((ByteArray) × (Unit)))))
  | p9 (y1 : List ((ByteArray) × ((Int) × ((ByteArray) × (Unit))))) (y2 : Int) (y3 : List ((ByteArray) × ((Int) × ((ByteArray) × (Unit)))))
def laws_toMatcherS.lb : laws_toMatcherS.Pt → Nat
  | .p0 _ => 0
  | .p9 _ _ _ => 9
def laws_toMatcherS.st : laws_toMatcherS.Pt → St
  | .p0 a0 => enter [.v (.sl false (.pair .str (.pair (.int .i64) (.pair .str .unit)))) a0] 0
  | .p9 y1 y2 y3 => ⟨[(0, .im (.sl false (.pair .str (.pair (.int .i64) (.pair .str .unit)))) y1), (3, .hs 0 [] none 0), (4, .im (.int .i64) y2)], [(0, .arr false (.pair .str (.pair (.int .i64) (.pair .str .unit))) y3 0)], 1⟩
def laws_toMatcherS.step (n : Nat) (K : laws_toMatcherS.Pt → Option (Tup [(.sl false (.pair .str (.pair (.int .i64) (.pair .str .unit))))])) : laws_toMatcherS.Pt → Option (Tup [(.sl false (.pair .str (.pair (.int .i64) (.pair .str .unit))))])
  | .p0 a0 => cond (inC ((List.length a0) : Int) ((List.length a0) : Int) 1000000000) (K (.p9 a0 (0 : Int) (List.replicate (Int.toNat ((List.length a0) : Int)) (default : (ByteArray) × ((Int) × ((ByteArray) × (Unit))))))) (none)
  | .p9 y1 y2 y3 => cond (decide (y2 < ((List.length y1) : Int))) (cond (inB y2 (List.length y1)) ((laws_toMatcher n (List.getD y1 (Int.toNat y2) default)).bind fun r6 => cond (inB y2 (List.length y3)) (K (.p9 y1 (IntKind.wrap .i64 (y2 + (1 : Int))) (List.set y3 (0 + (Int.toNat y2)) r6))) (none)) (none)) (some y3)
def laws_toMatcherS (n : Nat) (a0 : List ((ByteArray) × ((Int) × ((ByteArray) × (Unit))))) : Option (Tup [(.sl false (.pair .str (.pair (.int .i64) (.pair .str .unit))))]) := goRec laws_toMatcherS.step n (.p0 a0)
def laws_toMatcherS.spec : Ctr := ⟨101, [.v (.sl false (.pair .str (.pair (.int .i64) (.pair .str .unit))))], [(.sl false (.pair .str (.pair (.int .i64) (.pair .str .unit))))], [], fun n x => laws_toMatcherS n x.1⟩
theorem laws_toMatcherS.seg_eq (n : Nat) (goto : Nat → St → Option (Tup [(.sl false (.pair .str (.pair (.int .i64) (.pair .str .unit))))])) (y : laws_toMatcherS.Pt) : seg ⟨ty, gl, laws_toMatcherS.md, calOf laws_toMatcherS.T n⟩ laws_toMatcherS.F.np laws_toMatcherS.F.ks goto (laws_toMatcherS.F.fin ⟨ty, gl, laws_toMatcherS.md, calOf laws_toMatcherS.T 0⟩ [(.sl false (.pair .str (.pair (.int .i64) (.pair .str .unit))))]) laws_toMatcherS.F.c (laws_toMatcherS.lb y) (laws_toMatcherS.st y) = laws_toMatcherS.step n (fun z => goto (laws_toMatcherS.lb z) (laws_toMatcherS.st z)) y := by
  cases y <;> kernel_rfl
theorem laws_toMatcherS.text : Text Go.Proofs.Try.prog laws_toMatcherS.F laws_toMatcherS.spec := ⟨⟨Go.Proofs.Try.f101, by kernel_rfl, by kernel_rfl, by decide +kernel, by kernel_rfl, by kernel_rfl, of_decide_eq_true (by kernel_rfl)⟩, fun _ => rfl, fun _ => rfl, rfl⟩
theorem laws_toMatcherS.ok : CtrOK Go.Proofs.Try.prog gl laws_toMatcherS.spec :=
  ctr_ok (T := laws_toMatcherS.T) (F := laws_toMatcherS.F) (lb := laws_toMatcherS.lb) (st := laws_toMatcherS.st) (step := laws_toMatcherS.step) (md := laws_toMatcherS.md) tabs laws_toMatcherS.text laws_toMatcherS.seg_eq (fun n x => ⟨.p0 x.1, rfl, rfl, rfl⟩) (consC laws_toMatcher.ok (nilC))

/-! loop.example/g00039/laws.toSilence -/
def laws_toSilence.T : List Ctr := [laws_toMatcherS.spec]
def laws_toSilence.md : List (Nat × List Md) := []
noncomputable def laws_toSilence.F : Fun := ⟨(Go.Proofs.Try.f50.body).getD .skip, [.v (.pair .str (.pair (.sl false (.pair .str (.pair (.int .i64) (.pair .str .unit)))) (.pair (.int .i64) (.pair (.int .i64) .unit))))], [(.cell 2 91, (.pair .str (.pair (.sl false (.pair .str (.pair (.int .i64) (.pair .str .unit)))) (.pair (.int .i64) (.pair (.int .i64) .unit)))))], [], 0, []⟩
inductive laws_toSilence.Pt where
  | p0 (a0 : (ByteArray) × ((List ((ByteArray) × ((Int) × ((ByteArray) × (Unit))))) × ((Int) × ((Int) × (Unit)))))
def laws_toSilence.lb : laws_toSilence.Pt → Nat
  | .p0 _ => 0
def laws_toSilence.st : laws_toSilence.Pt → St
  | .p0 a0 => enter [.v (.pair .str (.pair (.sl false (.pair .str (.pair (.int .i64) (.pair .str .unit)))) (.pair (.int .i64) (.pair (.int .i64) .unit)))) a0] 0
def laws_toSilence.step (n : Nat) (K : laws_toSilence.Pt → Option (Tup [(.pair .str (.pair (.sl false (.pair .str (.pair (.int .i64) (.pair .str .unit)))) (.pair (.int .i64) (.pair (.int .i64) .unit))))])) : laws_toSilence.Pt → Option (Tup [(.pair .str (.pair (.sl false (.pair .str (.pair (.int .i64) (.pair .str .unit)))) (.pair (.int .i64) (.pair (.int .i64) .unit))))])
  | .p0 a0 => (laws_toMatcherS n a0.2.1).bind fun r4 => some (a0.1, (r4, a0.2.2))
def laws_toSilence (n : Nat) (a0 : (ByteArray) × ((List ((ByteArray) × ((Int) × ((ByteArray) × (Unit))))) × ((Int) × ((Int) × (Unit))))) : Option (Tup [(.pair .str (.pair (.sl false (.pair .str (.pair (.int .i64) (.pair .str .unit)))) (.pair (.int .i64) (.pair (.int .i64) .unit))))]) := goRec laws_toSilence.step n (.p0 a0)
def laws_toSilence.spec : Ctr := ⟨50, [.v (.pair .str (.pair (.sl false (.pair .str (.pair (.int .i64) (.pair .str .unit)))) (.pair (.int .i64) (.pair (.int .i64) .unit))))], [(.pair .str (.pair (.sl false (.pair .str (.pair (.int .i64) (.pair .str .unit)))) (.pair (.int .i64) (.pair (.int .i64) .unit))))], [], fun n x => laws_toSilence n x.1⟩
theorem laws_toSilence.seg_eq (n : Nat) (goto : Nat → St → Option (Tup [(.pair .str (.pair (.sl false (.pair .str (.pair (.int .i64) (.pair .str .unit)))) (.pair (.int .i64) (.pair (.int .i64) .unit))))])) (y : laws_toSilence.Pt) : seg ⟨ty, gl, laws_toSilence.md, calOf laws_toSilence.T n⟩ laws_toSilence.F.np laws_toSilence.F.ks goto (laws_toSilence.F.fin ⟨ty, gl, laws_toSilence.md, calOf laws_toSilence.T 0⟩ [(.pair .str (.pair (.sl false (.pair .str (.pair (.int .i64) (.pair .str .unit)))) (.pair (.int .i64) (.pair (.int .i64) .unit))))]) laws_toSilence.F.c (laws_toSilence.lb y) (laws_toSilence.st y) = laws_toSilence.step n (fun z => goto (laws_toSilence.lb z) (laws_toSilence.st z)) y := by
  cases y <;> kernel_rfl
theorem laws_toSilence.text : Text Go.Proofs.Try.prog laws_toSilence.F laws_toSilence.spec := ⟨⟨Go.Proofs.Try.f50, by kernel_rfl, by kernel_rfl, by decide +kernel, by kernel_rfl, by kernel_rfl, of_decide_eq_true (by kernel_rfl)⟩, fun _ => rfl, fun _ => rfl, rfl⟩
theorem laws_toSilence.ok : CtrOK Go.Proofs.Try.prog gl laws_toSilence.spec :=
  ctr_ok (T := laws_toSilence.T) (F := laws_toSilence.F) (lb := laws_toSilence.lb) (st := laws_toSilence.st) (step := laws_toSilence.step) (md := laws_toSilence.md) tabs laws_toSilence.text laws_toSilence.seg_eq (fun n x => ⟨.p0 x.1, rfl, rfl, rfl⟩) (consC laws_toMatcherS.ok (nilC))

/-! loop.example/g00039/laws.toSilenceS -/
def laws_toSilenceS.T : List Ctr := [laws_toSilence.spec]
def laws_toSilenceS.md : List (Nat × List Md) := []
noncomputable def laws_toSilenceS.F : Fun := ⟨(Go.Proofs.Try.f10.body).getD .skip, [.v (.sl false (.pair .str (.pair (.sl false (.pair .str (.pair (.int .i64) (.pair .str .unit)))) (.pair (.int .i64) (.pair (.int .i64) .unit)))))], [(.tmp 2, (.sl false (.pair .str (.pair (.sl false (.pair .str (.pair (.int .i64) (.pair .str .unit)))) (.pair (.int .i64) (.pair (.int .i64) .unit))))))], [], 0, [(9, ⟨[0, 3, 4], [(3, (.pair .str (.pair (.sl false (.pair .str (.pair (.int .i64) (.pair .str .unit)))) (.pair (.int .i64) (.pair (.int .i64) .unit)))))], []⟩)]⟩
inductive laws_toSilenceS.Pt where
  | p0 (a0 : List ((ByteArray) × ((List ((ByteArray) × ((Int) × ((ByteArray) × (Unit))))) × ((Int) × ((Int) × (Unit))))))
  | p9 (y1 : List ((ByteArray) × ((List ((ByteArray) × ((Int) × ((ByteArray) × (Unit))))) × ((Int) × ((Int) × (Unit)))))) (y2 : Int) (y3 : List ((ByteArray) × ((List ((ByteArray) × ((Int) × ((ByteArray) × (Unit))))) × ((Int) × ((Int) × (Unit))))))
def laws_toSilenceS.lb : laws_toSilenceS.Pt → Nat
  | .p0 _ => 0
  | .p9 _ _ _ => 9
def laws_toSilenceS.st : laws_toSilenceS.Pt → St
  | .p0 a0 => enter [.v (.sl false (.pair .str (.pair (.sl false (.pair .str (.pair (.int .i64) (.pair .str .unit)))) (.pair (.int .i64) (.pair (.int .i64) .unit))))) a0] 0
  | .p9 y1 y2 y3 => ⟨[(0, .im (.sl false (.pair .str (.pair (.sl false (.pair .str (.pair (.int .i64) (.pair .str .unit)))) (.pair (.int .i64) (.pair (.int .i64) .unit))))) y1), (3, .hs 0 [] none 0), (4, .im (.int .i64) y2)], [(0, .arr false (.pair .str (.pair (.sl false (.pair .str (.pair (.int .i64) (.pair .str .unit)))) (.pair (.int .i64) (.pair (.int .i64) .unit)))) y3 0)], 1⟩
def laws_toSilenceS.step (n : Nat) (K : laws_toSilenceS.Pt → Option (Tup [(.sl false (.pair .str (.pair (.sl false (.pair .str (.pair (.int .i64) (.pair .str .unit)))) (.pair (.int .i64) (.pair (.int .i64) .unit)))))])) : laws_toSilenceS.Pt → Option (Tup [(.sl false (.pair .str (.pair (.sl false (.pair .str (.pair (.int .i64) (.pair .str .unit)))) (.pair (.int .i64) (.pair (.int .i64) .unit)))))])
  | .p0 a0 => cond (inC ((List.length a0) : Int) ((List.length a0) : Int) 1000000000) (K (.p9 a0 (0 : Int) (List.replicate (Int.toNat ((List.length a0) : Int)) (default : (ByteArray) × ((List ((ByteArray) × ((Int) × ((ByteArray) × (Unit))))) × ((Int) × ((Int) × (Unit)))))))) (none)
  | .p9 y1 y2 y3 => cond (decide (y2 < ((List.length y1) : Int))) (cond (inB y2 (List.length y1)) ((laws_toSilence n (List.getD y1 (Int.toNat y2) default)).bind fun r6 => cond (inB y2 (List.length y3)) (K (.p9 y1 (IntKind.wrap .i64 (y2 + (1 : Int))) (List.set y3 (0 + (Int.toNat y2)) r6))) (none)) (none)) (some y3)
def laws_toSilenceS (n : Nat) (a0 : List ((ByteArray) × ((List ((ByteArray) × ((Int) × ((ByteArray) × (Unit))))) × ((Int) × ((Int) × (Unit)))))) : Option (Tup [(.sl false (.pair .str (.pair (.sl false (.pair .str (.pair (.int .i64) (.pair .str .unit)))) (.pair (.int .i64) (.pair (.int .i64) .unit)))))]) := goRec laws_toSilenceS.step n (.p0 a0)
def laws_toSilenceS.spec : Ctr := ⟨10, [.v (.sl false (.pair .str (.pair (.sl false (.pair .str (.pair (.int .i64) (.pair .str .unit)))) (.pair (.int .i64) (.pair (.int .i64) .unit)))))], [(.sl false (.pair .str (.pair (.sl false (.pair .str (.pair (.int .i64) (.pair .str .unit)))) (.pair (.int .i64) (.pair (.int .i64) .unit)))))], [], fun n x => laws_toSilenceS n x.1⟩
theorem laws_toSilenceS.seg_eq (n : Nat) (goto : Nat → St → Option (Tup [(.sl false (.pair .str (.pair (.sl false (.pair .str (.pair (.int .i64) (.pair .str .unit)))) (.pair (.int .i64) (.pair (.int .i64) .unit)))))])) (y : laws_toSilenceS.Pt) : seg ⟨ty, gl, laws_toSilenceS.md, calOf laws_toSilenceS.T n⟩ laws_toSilenceS.F.np laws_toSilenceS.F.ks goto (laws_toSilenceS.F.fin ⟨ty, gl, laws_toSilenceS.md, calOf laws_toSilenceS.T 0⟩ [(.sl false (.pair .str (.pair (.sl false (.pair .str (.pair (.int .i64) (.pair .str .unit)))) (.pair (.int .i64) (.pair (.int .i64) .unit)))))]) laws_toSilenceS.F.c (laws_toSilenceS.lb y) (laws_toSilenceS.st y) = laws_toSilenceS.step n (fun z => goto (laws_toSilenceS.lb z) (laws_toSilenceS.st z)) y := by
  cases y <;> kernel_rfl
theorem laws_toSilenceS.text : Text Go.Proofs.Try.prog laws_toSilenceS.F laws_toSilenceS.spec := ⟨⟨Go.Proofs.Try.f10, by kernel_rfl, by kernel_rfl, by decide +kernel, by kernel_rfl, by kernel_rfl, of_decide_eq_true (by kernel_rfl)⟩, fun _ => rfl, fun _ => rfl, rfl⟩
theorem laws_toSilenceS.ok : CtrOK Go.Proofs.Try.prog gl laws_toSilenceS.spec :=
  ctr_ok (T := laws_toSilenceS.T) (F := laws_toSilenceS.F) (lb := laws_toSilenceS.lb) (st := laws_toSilenceS.st) (step := laws_toSilenceS.step) (md := laws_toSilenceS.md) tabs laws_toSilenceS.text laws_toSilenceS.seg_eq (fun n x => ⟨.p0 x.1, rfl, rfl, rfl⟩) (consC laws_toSilence.ok (nilC))

/-! loop.example/g00039/laws.toLabel -/
def laws_toLabel.T : List Ctr := []
def laws_toLabel.md : List (Nat × List Md) := []
noncomputable def laws_toLabel.F : Fun := ⟨(Go.Proofs.Try.f51.body).getD .skip, [.v (.pair .str (.pair .str .unit))], [(.cell 2 93, (.pair .str (.pair .str .unit)))], [], 0, []⟩
inductive laws_toLabel.Pt where
  | p0 (a0 : (ByteArray) × ((ByteArray) × (Unit)))
def laws_toLabel.lb : laws_toLabel.Pt → Nat
  | .p0 _ => 0
def laws_toLabel.st : laws_toLabel.Pt → St
  | .p0 a0 => enter [.v (.pair .str (.pair .str .unit)) a0] 0
def laws_toLabel.step (n : Nat) (K : laws_toLabel.Pt → Option (Tup [(.pair .str (.pair .str .unit))])) : laws_toLabel.Pt → Option (Tup [(.pair .str (.pair .str .unit))])
  | .p0 a0 => some a0
def laws_toLabel (n : Nat) (a0 : (ByteArray) × ((ByteArray) × (Unit))) : Option (Tup [(.pair .str (.pair .str .unit))]) := goRec laws_toLabel.step n (.p0 a0)
def laws_toLabel.spec : Ctr := ⟨51, [.v (.pair .str (.pair .str .unit))], [(.pair .str (.pair .str .unit))], [], fun n x => laws_toLabel n x.1⟩
theorem laws_toLabel.seg_eq (n : Nat) (goto : Nat → St → Option (Tup [(.pair .str (.pair .str .unit))])) (y : laws_toLabel.Pt) : seg ⟨ty, gl, laws_toLabel.md, calOf laws_toLabel.T n⟩ laws_toLabel.F.np laws_toLabel.F.ks goto (laws_toLabel.F.fin ⟨ty, gl, laws_toLabel.md, calOf laws_toLabel.T 0⟩ [(.pair .str (.pair .str .unit))]) laws_toLabel.F.c (laws_toLabel.lb y) (laws_toLabel.st y) = laws_toLabel.step n (fun z => goto (laws_toLabel.lb z) (laws_toLabel.st z)) y := by
  cases y <;> kernel_rfl
theorem laws_toLabel.text : Text Go.Proofs.Try.prog laws_toLabel.F laws_toLabel.spec := ⟨⟨Go.Proofs.Try.f51, by kernel_rfl, by kernel_rfl, by decide +kernel, by kernel_rfl, by kernel_rfl, of_decide_eq_true (by kernel_rfl)⟩, fun _ => rfl, fun _ => rfl, rfl⟩
theorem laws_toLabel.ok : CtrOK Go.Proofs.Try.prog gl laws_toLabel.spec :=
  ctr_ok (T := laws_toLabel.T) (F := laws_toLabel.F) (lb := laws_toLabel.lb) (st := laws_toLabel.st) (step := laws_toLabel.step) (md := laws_toLabel.md) tabs laws_toLabel.text laws_toLabel.seg_eq (fun n x => ⟨.p0 x.1, rfl, rfl, rfl⟩) (nilC)

/-! loop.example/g00039/laws.toLabelS -/
def laws_toLabelS.T : List Ctr := [laws_toLabel.spec]
def laws_toLabelS.md : List (Nat × List Md) := []
noncomputable def laws_toLabelS.F : Fun := ⟨(Go.Proofs.Try.f11.body).getD .skip, [.v (.sl false (.pair .str (.pair .str .unit)))], [(.tmp 2, (.sl false (.pair .str (.pair .str .unit))))], [], 0, [(9, ⟨[0, 3, 4], [(3, (.pair .str (.pair .str .unit)))], []⟩)]⟩
inductive laws_toLabelS.Pt where
  | p0 (a0 : List ((ByteArray) × ((ByteArray) × (Unit))))
  | p9 (y1 : List ((ByteArray) × ((ByteArray) × (Unit)))) (y2 : Int) (y3 : List ((ByteArray) × ((ByteArray) × (Unit))))
def laws_toLabelS.lb : laws_toLabelS.Pt → Nat
  | .p0 _ => 0
  | .p9 _ _ _ => 9
def laws_toLabelS.st : laws_toLabelS.Pt → St
  | .p0 a0 => enter [.v (.sl false (.pair .str (.pair .str .unit))) a0] 0
  | .p9 y1 y2 y3 => ⟨[(0, .im (.sl false (.pair .str (.pair .str .unit))) y1), (3, .hs 0 [] none 0), (4, .im (.int .i64) y2)], [(0, .arr false (.pair .str (.pair .str .unit)) y3 0)], 1⟩
def laws_toLabelS.step (n : Nat) (K : laws_toLabelS.Pt → Option (Tup [(.sl false (.pair .str (.pair .str .unit)))])) : laws_toLabelS.Pt → Option (Tup [(.sl false (.pair .str (.pair .str .unit)))])
  | .p0 a0 => cond (inC ((List.length a0) : Int) ((List.length a0) : Int) 1000000000) (K (.p9 a0 (0 : Int) (List.replicate (Int.toNat ((List.length a0) : Int)) (default : (ByteArray) × ((ByteArray) × (Unit)))))) (none)
  | .p9 y1 y2 y3 => cond (decide (y2 < ((List.length y1) : Int))) (cond (inB y2 (List.length y1)) ((laws_toLabel n (List.getD y1 (Int.toNat y2) default)).bind fun r6 => cond (inB y2 (List.length y3)) (K (.p9 y1 (IntKind.wrap .i64 (y2 + (1 : Int))) (List.set y3 (0 + (Int.toNat y2)) r6))) (none)) (none)) (some y3)
def laws_toLabelS (n : Nat) (a0 : List ((ByteArray) × ((ByteArray) × (Unit)))) : Option (Tup [(.sl false (.pair .str (.pair .str .unit)))]) := goRec laws_toLabelS.step n (.p0 a0)
def laws_toLabelS.spec : Ctr := ⟨11, [.v (.sl false (.pair .str (.pair .str .unit)))], [(.sl false (.pair .str (.pair .str .unit)))], [], fun n x => laws_toLabelS n x.1⟩
theorem laws_toLabelS.seg_eq (n : Nat) (goto : Nat → St → Option (Tup [(.sl false (.pair .str (.pair .str .unit)))])) (y : laws_toLabelS.Pt) : seg ⟨ty, gl, laws_toLabelS.md, calOf laws_toLabelS.T n⟩ laws_toLabelS.F.np laws_toLabelS.F.ks goto (laws_toLabelS.F.fin ⟨ty, gl, laws_toLabelS.md, calOf laws_toLabelS.T 0⟩ [(.sl false (.pair .str (.pair .str .unit)))]) laws_toLabelS.F.c (laws_toLabelS.lb y) (laws_toLabelS.st y) = laws_toLabelS.step n (fun z => goto (laws_toLabelS.lb z) (laws_toLabelS.st z)) y := by
  cases y <;> kernel_rfl
theorem laws_toLabelS.text : Text Go.Proofs.Try.prog laws_toLabelS.F laws_toLabelS.spec := ⟨⟨Go.Proofs.Try.f11, by kernel_rfl, by kernel_rfl, by decide +kernel, by kernel_rfl, by kernel_rfl, of_decide_eq_true (by kernel_rfl)⟩, fun _ => rfl, fun _ => rfl, rfl⟩
theorem laws_toLabelS.ok : CtrOK Go.Proofs.Try.prog gl laws_toLabelS.spec :=
  ctr_ok (T := laws_toLabelS.T) (F := laws_toLabelS.F) (lb := laws_toLabelS.lb) (st := laws_toLabelS.st) (step := laws_toLabelS.step) (md := laws_toLabelS.md) tabs laws_toLabelS.text laws_toLabelS.seg_eq (fun n x => ⟨.p0 x.1, rfl, rfl, rfl⟩) (consC laws_toLabel.ok (nilC))

/-! loop.example/g00039/spec.l2Digit -/
def spec_l2Digit.T : List Ctr := []
def spec_l2Digit.md : List (Nat × List Md) := []
noncomputable def spec_l2Digit.F : Fun := ⟨(Go.Proofs.Try.f154.body).getD .skip, [.v (.int .u8)], [(.tmp 2, .bool)], [], 0, []⟩
inductive spec_l2Digit.Pt where
  | p0 (a0 : Int)
def spec_l2Digit.lb : spec_l2Digit.Pt → Nat
  | .p0 _ => 0
def spec_l2Digit.st : spec_l2Digit.Pt → St
  | .p0 a0 => enter [.v (.int .u8) a0] 0
def spec_l2Digit.step (n : Nat) (K : spec_l2Digit.Pt → Option (Tup [.bool])) : spec_l2Digit.Pt → Option (Tup [.bool])
  | .p0 a0 => cond (decide ((48 : Int) ≤ a0)) (some (decide (a0 ≤ (57 : Int)))) (some false)
def spec_l2Digit (n : Nat) (a0 : Int) : Option (Tup [.bool]) := goRec spec_l2Digit.step n (.p0 a0)
def spec_l2Digit.spec : Ctr := ⟨154, [.v (.int .u8)], [.bool], [], fun n x => spec_l2Digit n x.1⟩
theorem spec_l2Digit.seg_eq (n : Nat) (goto : Nat → St → Option (Tup [.bool])) (y : spec_l2Digit.Pt) : seg ⟨ty, gl, spec_l2Digit.md, calOf spec_l2Digit.T n⟩ spec_l2Digit.F.np spec_l2Digit.F.ks goto (spec_l2Digit.F.fin ⟨ty, gl, spec_l2Digit.md, calOf spec_l2Digit.T 0⟩ [.bool]) spec_l2Digit.F.c (spec_l2Digit.lb y) (spec_l2Digit.st y) = spec_l2Digit.step n (fun z => goto (spec_l2Digit.lb z) (spec_l2Digit.st z)) y := by
  cases y <;> kernel_rfl
theorem spec_l2Digit.text : Text Go.Proofs.Try.prog spec_l2Digit.F spec_l2Digit.spec := ⟨⟨Go.Proofs.Try.f154, by kernel_rfl, by kernel_rfl, by decide +kernel, by kernel_rfl, by kernel_rfl, of_decide_eq_true (by kernel_rfl)⟩, fun _ => rfl, fun _ => rfl, rfl⟩
theorem spec_l2Digit.ok : CtrOK Go.Proofs.Try.prog gl spec_l2Digit.spec :=
  ctr_ok (T := spec_l2Digit.T) (F := spec_l2Digit.F) (lb := spec_l2Digit.lb) (st := spec_l2Digit.st) (step := spec_l2Digit.step) (md := spec_l2Digit.md) tabs spec_l2Digit.text spec_l2Digit.seg_eq (fun n x => ⟨.p0 x.1, rfl, rfl, rfl⟩) (nilC)

/-! loop.example/g00039/spec.l2Letter -/
def spec_l2Letter.T : List Ctr := []
def spec_l2Letter.md : List (Nat × List Md) := []
noncomputable def spec_l2Letter.F : Fun := ⟨(Go.Proofs.Try.f155.body).getD .skip, [.v (.int .u8)], [(.tmp 2, .bool)], [], 0, []⟩
inductive spec_l2Letter.Pt where
  | p0 (a0 : Int)
def spec_l2Letter.lb : spec_l2Letter.Pt → Nat
  | .p0 _ => 0
def spec_l2Letter.st : spec_l2Letter.Pt → St
  | .p0 a0 => enter [.v (.int .u8) a0] 0
def spec_l2Letter.step (n : Nat) (K : spec_l2Letter.Pt → Option (Tup [.bool])) : spec_l2Letter.Pt → Option (Tup [.bool])
  | .p0 a0 => cond (decide ((97 : Int) ≤ a0)) (cond (decide (a0 ≤ (122 : Int))) (some true) (cond (decide ((65 : Int) ≤ a0)) (some (decide (a0 ≤ (90 : Int)))) (some false))) (cond (decide ((65 : Int) ≤ a0)) (some (decide (a0 ≤ (90 : Int)))) (some false))
def spec_l2Letter (n : Nat) (a0 : Int) : Option (Tup [.bool]) := goRec spec_l2Letter.step n (.p0 a0)
def spec_l2Letter.spec : Ctr := ⟨155, [.v (.int .u8)], [.bool], [], fun n x => spec_l2Letter n x.1⟩
theorem spec_l2Letter.seg_eq (n : Nat) (goto : Nat → St → Option (Tup [.bool])) (y : spec_l2Letter.Pt) : seg ⟨ty, gl, spec_l2Letter.md, calOf spec_l2Letter.T n⟩ spec_l2Letter.F.np spec_l2Letter.F.ks goto (spec_l2Letter.F.fin ⟨ty, gl, spec_l2Letter.md, calOf spec_l2Letter.T 0⟩ [.bool]) spec_l2Letter.F.c (spec_l2Letter.lb y) (spec_l2Letter.st y) = spec_l2Letter.step n (fun z => goto (spec_l2Letter.lb z) (spec_l2Letter.st z)) y := by
  cases y <;> kernel_rfl
theorem spec_l2Letter.text : Text Go.Proofs.Try.prog spec_l2Letter.F spec_l2Letter.spec := ⟨⟨Go.Proofs.Try.f155, by kernel_rfl, by kernel_rfl, by decide +kernel, by kernel_rfl, by kernel_rfl, of_decide_eq_true (by kernel_rfl)⟩, fun _ => rfl, fun _ => rfl, rfl⟩
theorem spec_l2Letter.ok : CtrOK Go.Proofs.Try.prog gl spec_l2Letter.spec :=
  ctr_ok (T := spec_l2Letter.T) (F := spec_l2Letter.F) (lb := spec_l2Letter.lb) (st := spec_l2Letter.st) (step := spec_l2Letter.step) (md := spec_l2Letter.md) tabs spec_l2Letter.text spec_l2Letter.seg_eq (fun n x => ⟨.p0 x.1, rfl, rfl, rfl⟩) (nilC)

/-! loop.example/g00039/spec.l2Name -/
def spec_l2Name.T : List Ctr := [spec_l2Digit.spec, spec_l2Letter.spec]
def spec_l2Name.md : List (Nat × List Md) := []
noncomputable def spec_l2Name.F : Fun := ⟨(Go.Proofs.Try.f96.body).getD .skip, [.v .str], [(.tmp 2, .bool)], [], 0, [(4, ⟨[0, 16], [], []⟩), (15, ⟨[0, 3], [], []⟩), (24, ⟨[0, 3, 40], [], []⟩)]⟩
inductive spec_l2Name.Pt where
  | p0 (a0 : ByteArray)
  | p4 (y1 : ByteArray) (y2 : Bool)
  | p15 (y1 : ByteArray) (y2 : Int)
  | p24 (y1 : ByteArray) (y2 : Int) (y3 : Bool)
def spec_l2Name.lb : spec_l2Name.Pt → Nat
  | .p0 _ => 0
  | .p4 _ _ => 4
  | .p15 _ _ => 15
  | .p24 _ _ _ => 24
def spec_l2Name.st : spec_l2Name.Pt → St
  | .p0 a0 => enter [.v .str a0] 0
  | .p4 y1 y2 => ⟨[(0, .im .str y1), (16, .im .bool y2)], [], 0⟩
  | .p15 y1 y2 => ⟨[(0, .im .str y1), (3, .im (.int .i64) y2)], [], 0⟩
  | .p24 y1 y2 y3 => ⟨[(0, .im .str y1), (3, .im (.int .i64) y2), (40, .im .bool y3)], [], 0⟩
def spec_l2Name.step (n : Nat) (K : spec_l2Name.Pt → Option (Tup [.bool])) : spec_l2Name.Pt → Option (Tup [.bool])
  | .p0 a0 => cond (decide (((ByteArray.size a0) : Int) < (1 : Int))) (K (.p4 a0 true)) (cond (decide ((40 : Int) < ((ByteArray.size a0) : Int))) (K (.p4 a0 true)) (cond (inB (0 : Int) (ByteArray.size a0)) ((spec_l2Digit n (bt a0 (0 : Int))).bind fun r4 => K (.p4 a0 r4)) (none)))
  | .p4 y1 y2 => cond y2 (some false) (K (.p15 y1 (0 : Int)))
  | .p15 y1 y2 => cond (decide (y2 < ((ByteArray.size y1) : Int))) (cond (inB y2 (ByteArray.size y1)) ((spec_l2Letter n (bt y1 y2)).bind fun r5 => cond (!r5) (cond (inB y2 (ByteArray.size y1)) ((spec_l2Digit n (bt y1 y2)).bind fun r6 => cond (!r6) (cond (inB y2 (ByteArray.size y1)) (K (.p24 y1 y2 (!(decide ((bt y1 y2) = (95 : Int)))))) (none)) (K (.p24 y1 y2 false))) (none)) (K (.p24 y1 y2 false))) (none)) (some true)
  | .p24 y1 y2 y3 => cond y3 (some false) (K (.p15 y1 (IntKind.wrap .i64 (y2 + (1 : Int)))))
def spec_l2Name (n : Nat) (a0 : ByteArray) : Option (Tup [.bool]) := goRec spec_l2Name.step n (.p0 a0)
def spec_l2Name.spec : Ctr := ⟨96, [.v .str], [.bool], [], fun n x => spec_l2Name n x.1⟩
theorem spec_l2Name.seg_eq (n : Nat) (goto : Nat → St → Option (Tup [.bool])) (y : spec_l2Name.Pt) : seg ⟨ty, gl, spec_l2Name.md, calOf spec_l2Name.T n⟩ spec_l2Name.F.np spec_l2Name.F.ks goto (spec_l2Name.F.fin ⟨ty, gl, spec_l2Name.md, calOf spec_l2Name.T 0⟩ [.bool]) spec_l2Name.F.c (spec_l2Name.lb y) (spec_l2Name.st y) = spec_l2Name.step n (fun z => goto (spec_l2Name.lb z) (spec_l2Name.st z)) y := by
  cases y <;> kernel_rfl
theorem spec_l2Name.text : Text Go.Proofs.Try.prog spec_l2Name.F spec_l2Name.spec := ⟨⟨Go.Proofs.Try.f96, by kernel_rfl, by kernel_rfl, by decide +kernel, by kernel_rfl, by kernel_rfl, of_decide_eq_true (by kernel_rfl)⟩, fun _ => rfl, fun _ => rfl, rfl⟩
theorem spec_l2Name.ok : CtrOK Go.Proofs.Try.prog gl spec_l2Name.spec :=
  ctr_ok (T := spec_l2Name.T) (F := spec_l2Name.F) (lb := spec_l2Name.lb) (st := spec_l2Name.st) (step := spec_l2Name.step) (md := spec_l2Name.md) tabs spec_l2Name.text spec_l2Name.seg_eq (fun n x => ⟨.p0 x.1, rfl, rfl, rfl⟩) (consC spec_l2Digit.ok (consC spec_l2Letter.ok (nilC)))

/-! loop.example/g00039/spec.l2Printed -/
def spec_l2Printed.T : List Ctr := []
def spec_l2Printed.md : List (Nat × List Md) := []
noncomputable def spec_l2Printed.F : Fun := ⟨(Go.Proofs.Try.f156.body).getD .skip, [.v .str], [(.tmp 2, .bool)], [], 0, [(7, ⟨[0, 3], [], []⟩)]⟩
inductive spec_l2Printed.Pt where
  | p0 (a0 : ByteArray)
  | p7 (y1 : ByteArray) (y2 : Int)
def spec_l2Printed.lb : spec_l2Printed.Pt → Nat
  | .p0 _ => 0
  | .p7 _ _ => 7
def spec_l2Printed.st : spec_l2Printed.Pt → St
  | .p0 a0 => enter [.v .str a0] 0
  | .p7 y1 y2 => ⟨[(0, .im .str y1), (3, .im (.int .i64) y2)], [], 0⟩
def spec_l2Printed.step (n : Nat) (K : spec_l2Printed.Pt → Option (Tup [.bool])) : spec_l2Printed.Pt → Option (Tup [.bool])
  | .p0 a0 => K (.p7 a0 (0 : Int))
  | .p7 y1 y2 => cond (decide (y2 < ((ByteArray.size y1) : Int))) (cond (inB y2 (ByteArray.size y1)) (cond (decide ((bt y1 y2) < (32 : Int))) (some false) (cond (inB y2 (ByteArray.size y1)) (cond (decide ((126 : Int) < (bt y1 y2))) (some false) (K (.p7 y1 (IntKind.wrap .i64 (y2 + (1 : Int)))))) (none))) (none)) (some true)
def spec_l2Printed (n : Nat) (a0 : ByteArray) : Option (Tup [.bool]) := goRec spec_l2Printed.step n (.p0 a0)
def spec_l2Printed.spec : Ctr := ⟨156, [.v .str], [.bool], [], fun n x => spec_l2Printed n x.1⟩
theorem spec_l2Printed.seg_eq (n : Nat) (goto : Nat → St → Option (Tup [.bool])) (y : spec_l2Printed.Pt) : seg ⟨ty, gl, spec_l2Printed.md, calOf spec_l2Printed.T n⟩ spec_l2Printed.F.np spec_l2Printed.F.ks goto (spec_l2Printed.F.fin ⟨ty, gl, spec_l2Printed.md, calOf spec_l2Printed.T 0⟩ [.bool]) spec_l2Printed.F.c (spec_l2Printed.lb y) (spec_l2Printed.st y) = spec_l2Printed.step n (fun z => goto (spec_l2Printed.lb z) (spec_l2Printed.st z)) y := by
  cases y <;> kernel_rfl
theorem spec_l2Printed.text : Text Go.Proofs.Try.prog spec_l2Printed.F spec_l2Printed.spec := ⟨⟨Go.Proofs.Try.f156, by kernel_rfl, by kernel_rfl, by decide +kernel, by kernel_rfl, by kernel_rfl, of_decide_eq_true (by kernel_rfl)⟩, fun _ => rfl, fun _ => rfl, rfl⟩
theorem spec_l2Printed.ok : CtrOK Go.Proofs.Try.prog gl spec_l2Printed.spec :=
  ctr_ok (T := spec_l2Printed.T) (F := spec_l2Printed.F) (lb := spec_l2Printed.lb) (st := spec_l2Printed.st) (step := spec_l2Printed.step) (md := spec_l2Printed.md) tabs spec_l2Printed.text spec_l2Printed.seg_eq (fun n x => ⟨.p0 x.1, rfl, rfl, rfl⟩) (nilC)

/-! loop.example/g00039/spec.l2Alternatives -/
def spec_l2Alternatives.T : List Ctr := [spec_l2Printed.spec]
def spec_l2Alternatives.md : List (Nat × List Md) := []
noncomputable def spec_l2Alternatives.F : Fun := ⟨(Go.Proofs.Try.f194.body).getD .skip, [.v .str], [(.tmp 2, (.sl false (.sl false (.int .i64)))), (.tmp 3, .bool)], [], 0, [(8, ⟨[0, 4, 5, 14], [(4, (.sl false (.int .i64))), (5, (.int .i64))], []⟩), (19, ⟨[0, 4, 5, 6], [(4, (.sl false (.int .i64))), (5, (.int .i64))], []⟩), (51, ⟨[0, 4, 5, 6, 78], [(4, (.sl false (.int .i64))), (5, (.int .i64))], []⟩)]⟩
inductive spec_l2Alternatives.Pt where
  | p0 (a0 : ByteArray)
  | p8 (y1 : ByteArray) (y2 : Bool) (y3 : List (List (Int))) (y4 : List (Int))
  | p19 (y1 : ByteArray) (y2 : Int) (y3 : List (List (Int))) (y4 : List (Int))
  | p51 (y1 : ByteArray) (y2 : Int) (y3 : Bool) (y4 : List (List (Int))) (y5 : List (Int))
def spec_l2Alternatives.lb : spec_l2Alternatives.Pt → Nat
  | .p0 _ => 0
  | .p8 _ _ _ _ => 8
  | .p19 _ _ _ _ => 19
  | .p51 _ _ _ _ _ => 51
def spec_l2Alternatives.st : spec_l2Alternatives.Pt → St
  | .p0 a0 => enter [.v .str a0] 0
  | .p8 y1 y2 y3 y4 => ⟨[(0, .im .str y1), (4, .hs 0 [] none 0), (5, .hs 1 [] none 0), (14, .im .bool y2)], [(0, .arr true (.sl false (.int .i64)) y3 0), (1, .arr true (.int .i64) y4 0)], 2⟩
  | .p19 y1 y2 y3 y4 => ⟨[(0, .im .str y1), (4, .hs 0 [] none 0), (5, .hs 1 [] none 0), (6, .im (.int .i64) y2)], [(0, .arr true (.sl false (.int .i64)) y3 0), (1, .arr true (.int .i64) y4 0)], 2⟩
  | .p51 y1 y2 y3 y4 y5 => ⟨[(0, .im .str y1), (4, .hs 0 [] none 0), (5, .hs 1 [] none 0), (6, .im (.int .i64) y2), (78, .im .bool y3)], [(0, .arr true (.sl false (.int .i64)) y4 0), (1, .arr true (.int .i64) y5 0)], 2⟩
def spec_l2Alternatives.step (n : Nat) (K : spec_l2Alternatives.Pt → Option (Tup [(.sl false (.sl false (.int .i64))), .bool])) : spec_l2Alternatives.Pt → Option (Tup [(.sl false (.sl false (.int .i64))), .bool])
  | .p0 a0 => cond (decide ((100 : Int) < ((ByteArray.size a0) : Int))) (K (.p8 a0 true ([] : List (List (Int))) ([] : List (Int)))) ((spec_l2Printed n a0).bind fun r4 => K (.p8 a0 (!r4) ([] : List (List (Int))) ([] : List (Int))))
  | .p8 y1 y2 y3 y4 => cond y2 (some (([] : List (List (Int))), false)) (K (.p19 y1 (0 : Int) y3 y4))
  | .p19 y1 y2 y3 y4 => cond (decide (y2 < ((ByteArray.size y1) : Int))) (cond (inB y2 (ByteArray.size y1)) (cond (decide ((bt y1 y2) = (124 : Int))) (cond (room ((List.length y3) + (List.length [y4]))) (K (.p19 y1 (IntKind.wrap .i64 (y2 + (1 : Int))) (y3 ++ [y4]) ([] : List (Int)))) (none)) (cond (decide ((bt y1 y2) = (42 : Int))) (cond (room ((List.length y4) + (List.length [(-(1 : Int))]))) (K (.p19 y1 (IntKind.wrap .i64 (y2 + (1 : Int))) y3 (y4 ++ [(-(1 : Int))]))) (none)) (cond (decide ((bt y1 y2) = (63 : Int))) (cond (room ((List.length y4) + (List.length [(-(2 : Int))]))) (K (.p19 y1 (IntKind.wrap .i64 (y2 + (1 : Int))) y3 (y4 ++ [(-(2 : Int))]))) (none)) (cond (decide ((bt y1 y2) = (92 : Int))) (cond (decide ((IntKind.wrap .i64 (y2 + (1 : Int))) = ((ByteArray.size y1) : Int))) (K (.p51 y1 (IntKind.wrap .i64 (y2 + (1 : Int))) true y3 y4)) (cond (inB (IntKind.wrap .i64 (y2 + (1 : Int))) (ByteArray.size y1)) (cond (!(decide ((bt y1 (IntKind.wrap .i64 (y2 + (1 : Int)))) = (42 : Int)))) (cond (inB (IntKind.wrap .i64 (y2 + (1 : Int))) (ByteArray.size y1)) (cond (!(decide ((bt y1 (IntKind.wrap .i64 (y2 + (1 : Int)))) = (63 : Int)))) (cond (inB (IntKind.wrap .i64 (y2 + (1 : Int))) (ByteArray.size y1)) (cond (!(decide ((bt y1 (IntKind.wrap .i64 (y2 + (1 : Int)))) = (124 : Int)))) (cond (inB (IntKind.wrap .i64 (y2 + (1 : Int))) (ByteArray.size y1)) (K (.p51 y1 (IntKind.wrap .i64 (y2 + (1 : Int))) (!(decide ((bt y1 (IntKind.wrap .i64 (y2 + (1 : Int)))) = (92 : Int)))) y3 y4)) (none)) (K (.p51 y1 (IntKind.wrap .i64 (y2 + (1 : Int))) false y3 y4))) (none)) (K (.p51 y1 (IntKind.wrap .i64 (y2 + (1 : Int))) false y3 y4))) (none)) (K (.p51 y1 (IntKind.wrap .i64 (y2 + (1 : Int))) false y3 y4))) (none))) (cond (inB y2 (ByteArray.size y1)) (cond (room ((List.length y4) + (List.length [(IntKind.wrap .i64 (bt y1 y2))]))) (K (.p19 y1 (IntKind.wrap .i64 (y2 + (1 : Int))) y3 (y4 ++ [(IntKind.wrap .i64 (bt y1 y2))]))) (none)) (none)))))) (none)) (cond (room ((List.length y3) + (List.length [y4]))) (some ((y3 ++ [y4]), true)) (none))
  | .p51 y1 y2 y3 y4 y5 => cond y3 (some (([] : List (List (Int))), false)) (cond (inB y2 (ByteArray.size y1)) (cond (room ((List.length y5) + (List.length [(IntKind.wrap .i64 (bt y1 y2))]))) (K (.p19 y1 (IntKind.wrap .i64 (y2 + (1 : Int))) y4 (y5 ++ [(IntKind.wrap .i64 (bt y1 y2))]))) (none)) (none))
def spec_l2Alternatives (n : Nat) (a0 : ByteArray) : Option (Tup [(.sl false (.sl false (.int .i64))), .bool]) := goRec spec_l2Alternatives.step n (.p0 a0)
def spec_l2Alternatives.spec : Ctr := ⟨194, [.v .str], [(.sl false (.sl false (.int .i64))), .bool], [], fun n x => spec_l2Alternatives n x.1⟩
theorem spec_l2Alternatives.seg_eq (n : Nat) (goto : Nat → St → Option (Tup [(.sl false (.sl false (.int .i64))), .bool])) (y : spec_l2Alternatives.Pt) : seg ⟨ty, gl, spec_l2Alternatives.md, calOf spec_l2Alternatives.T n⟩ spec_l2Alternatives.F.np spec_l2Alternatives.F.ks goto (spec_l2Alternatives.F.fin ⟨ty, gl, spec_l2Alternatives.md, calOf spec_l2Alternatives.T 0⟩ [(.sl false (.sl false (.int .i64))), .bool]) spec_l2Alternatives.F.c (spec_l2Alternatives.lb y) (spec_l2Alternatives.st y) = spec_l2Alternatives.step n (fun z => goto (spec_l2Alternatives.lb z) (spec_l2Alternatives.st z)) y := by
  cases y <;> kernel_rfl
theorem spec_l2Alternatives.text : Text Go.Proofs.Try.prog spec_l2Alternatives.F spec_l2Alternatives.spec := ⟨⟨Go.Proofs.Try.f194, by kernel_rfl, by kernel_rfl, by decide +kernel, by kernel_rfl, by kernel_rfl, of_decide_eq_true (by kernel_rfl)⟩, fun _ => rfl, fun _ => rfl, rfl⟩
theorem spec_l2Alternatives.ok : CtrOK Go.Proofs.Try.prog gl spec_l2Alternatives.spec :=
  ctr_ok (T := spec_l2Alternatives.T) (F := spec_l2Alternatives.F) (lb := spec_l2Alternatives.lb) (st := spec_l2Alternatives.st) (step := spec_l2Alternatives.step) (md := spec_l2Alternatives.md) tabs spec_l2Alternatives.text spec_l2Alternatives.seg_eq (fun n x => ⟨.p0 x.1, rfl, rfl, rfl⟩) (consC spec_l2Printed.ok (nilC))

/-! loop.example/g00039/spec.GoodPattern -/
def spec_GoodPattern.T : List Ctr := [spec_l2Alternatives.spec]
def spec_GoodPattern.md : List (Nat × List Md) := []
noncomputable def spec_GoodPattern.F : Fun := ⟨(Go.Proofs.Try.f157.body).getD .skip, [.v .str], [(.tmp 2, .bool)], [], 0, []⟩
inductive spec_GoodPattern.Pt where
  | p0 (a0 : ByteArray)
def spec_GoodPattern.lb : spec_GoodPattern.Pt → Nat
  | .p0 _ => 0
def spec_GoodPattern.st : spec_GoodPattern.Pt → St
  | .p0 a0 => enter [.v .str a0] 0
def spec_GoodPattern.step (n : Nat) (K : spec_GoodPattern.Pt → Option (Tup [.bool])) : spec_GoodPattern.Pt → Option (Tup [.bool])
  | .p0 a0 => (spec_l2Alternatives n a0).bind fun r4 => some r4.2
def spec_GoodPattern (n : Nat) (a0 : ByteArray) : Option (Tup [.bool]) := goRec spec_GoodPattern.step n (.p0 a0)
def spec_GoodPattern.spec : Ctr := ⟨157, [.v .str], [.bool], [], fun n x => spec_GoodPattern n x.1⟩
theorem spec_GoodPattern.seg_eq (n : Nat) (goto : Nat → St → Option (Tup [.bool])) (y : spec_GoodPattern.Pt) : seg ⟨ty, gl, spec_GoodPattern.md, calOf spec_GoodPattern.T n⟩ spec_GoodPattern.F.np spec_GoodPattern.F.ks goto (spec_GoodPattern.F.fin ⟨ty, gl, spec_GoodPattern.md, calOf spec_GoodPattern.T 0⟩ [.bool]) spec_GoodPattern.F.c (spec_GoodPattern.lb y) (spec_GoodPattern.st y) = spec_GoodPattern.step n (fun z => goto (spec_GoodPattern.lb z) (spec_GoodPattern.st z)) y := by
  cases y <;> kernel_rfl
theorem spec_GoodPattern.text : Text Go.Proofs.Try.prog spec_GoodPattern.F spec_GoodPattern.spec := ⟨⟨Go.Proofs.Try.f157, by kernel_rfl, by kernel_rfl, by decide +kernel, by kernel_rfl, by kernel_rfl, of_decide_eq_true (by kernel_rfl)⟩, fun _ => rfl, fun _ => rfl, rfl⟩
theorem spec_GoodPattern.ok : CtrOK Go.Proofs.Try.prog gl spec_GoodPattern.spec :=
  ctr_ok (T := spec_GoodPattern.T) (F := spec_GoodPattern.F) (lb := spec_GoodPattern.lb) (st := spec_GoodPattern.st) (step := spec_GoodPattern.step) (md := spec_GoodPattern.md) tabs spec_GoodPattern.text spec_GoodPattern.seg_eq (fun n x => ⟨.p0 x.1, rfl, rfl, rfl⟩) (consC spec_l2Alternatives.ok (nilC))

/-! loop.example/g00039/spec.GoodMatchers -/
def spec_GoodMatchers.T : List Ctr := [spec_l2Name.spec, spec_l2Printed.spec, spec_GoodPattern.spec]
def spec_GoodMatchers.md : List (Nat × List Md) := []
noncomputable def spec_GoodMatchers.F : Fun := ⟨(Go.Proofs.Try.f97.body).getD .skip, [.v (.sl false (.pair .str (.pair (.int .i64) (.pair .str .unit))))], [(.tmp 2, .bool)], [], 0, [(15, ⟨[8, 9, 10], [(8, (.pair .str (.pair (.int .i64) (.pair .str .unit))))], []⟩), (26, ⟨[8, 9, 10, 50], [(8, (.pair .str (.pair (.int .i64) (.pair .str .unit))))], []⟩)]⟩
inductive spec_GoodMatchers.Pt where
  | p0 (a0 : List ((ByteArray) × ((Int) × ((ByteArray) × (Unit)))))
  | p15 (y1 : List ((ByteArray) × ((Int) × ((ByteArray) × (Unit))))) (y2 : Int) (y3 : Int)
  | p26 (y1 : List ((ByteArray) × ((Int) × ((ByteArray) × (Unit))))) (y2 : Int) (y3 : Int) (y4 : Bool)
def spec_GoodMatchers.lb : spec_GoodMatchers.Pt → Nat
  | .p0 _ => 0
  | .p15 _ _ _ => 15
  | .p26 _ _ _ _ => 26
def spec_GoodMatchers.st : spec_GoodMatchers.Pt → St
  | .p0 a0 => enter [.v (.sl false (.pair .str (.pair (.int .i64) (.pair .str .unit)))) a0] 0
  | .p15 y1 y2 y3 => ⟨[(8, .im (.sl false (.pair .str (.pair (.int .i64) (.pair .str .unit)))) y1), (9, .im (.int .i64) y2), (10, .im (.int .i64) y3)], [], 0⟩
  | .p26 y1 y2 y3 y4 => ⟨[(8, .im (.sl false (.pair .str (.pair (.int .i64) (.pair .str .unit)))) y1), (9, .im (.int .i64) y2), (10, .im (.int .i64) y3), (50, .im .bool y4)], [], 0⟩
def spec_GoodMatchers.step (n : Nat) (K : spec_GoodMatchers.Pt → Option (Tup [.bool])) : spec_GoodMatchers.Pt → Option (Tup [.bool])
  | .p0 a0 => cond (decide ((10 : Int) < ((List.length a0) : Int))) (some false) (K (.p15 a0 ((List.length a0) : Int) (0 : Int)))
  | .p15 y1 y2 y3 => cond (decide (y3 < y2)) (cond (inB y3 (List.length y1)) ((spec_l2Name n (List.getD y1 (Int.toNat y3) default).1).bind fun r6 => cond (!r6) (K (.p26 y1 y2 y3 true)) (cond (decide ((List.getD y1 (Int.toNat y3) default).2.1 < (1 : Int))) (K (.p26 y1 y2 y3 true)) (cond (decide ((4 : Int) < (List.getD y1 (Int.toNat y3) default).2.1)) (K (.p26 y1 y2 y3 true)) (cond (decide ((100 : Int) < ((ByteArray.size (List.getD y1 (Int.toNat y3) default).2.2.1) : Int))) (K (.p26 y1 y2 y3 true)) ((spec_l2Printed n (List.getD y1 (Int.toNat y3) default).2.2.1).bind fun r7 => cond (!r7) (K (.p26 y1 y2 y3 true)) (cond (decide ((3 : Int) ≤ (List.getD y1 (Int.toNat y3) default).2.1)) ((spec_GoodPattern n (List.getD y1 (Int.toNat y3) default).2.2.1).bind fun r8 => K (.p26 y1 y2 y3 (!r8))) (K (.p26 y1 y2 y3 false)))))))) (none)) (some true)
  | .p26 y1 y2 y3 y4 => cond y4 (some false) (K (.p15 y1 y2 (IntKind.wrap .i64 (y3 + (1 : Int)))))
def spec_GoodMatchers (n : Nat) (a0 : List ((ByteArray) × ((Int) × ((ByteArray) × (Unit))))) : Option (Tup [.bool]) := goRec spec_GoodMatchers.step n (.p0 a0)
def spec_GoodMatchers.spec : Ctr := ⟨97, [.v (.sl false (.pair .str (.pair (.int .i64) (.pair .str .unit))))], [.bool], [], fun n x => spec_GoodMatchers n x.1⟩
theorem spec_GoodMatchers.seg_eq (n : Nat) (goto : Nat → St → Option (Tup [.bool])) (y : spec_GoodMatchers.Pt) : seg ⟨ty, gl, spec_GoodMatchers.md, calOf spec_GoodMatchers.T n⟩ spec_GoodMatchers.F.np spec_GoodMatchers.F.ks goto (spec_GoodMatchers.F.fin ⟨ty, gl, spec_GoodMatchers.md, calOf spec_GoodMatchers.T 0⟩ [.bool]) spec_GoodMatchers.F.c (spec_GoodMatchers.lb y) (spec_GoodMatchers.st y) = spec_GoodMatchers.step n (fun z => goto (spec_GoodMatchers.lb z) (spec_GoodMatchers.st z)) y := by
  cases y <;> kernel_rfl
theorem spec_GoodMatchers.text : Text Go.Proofs.Try.prog spec_GoodMatchers.F spec_GoodMatchers.spec := ⟨⟨Go.Proofs.Try.f97, by kernel_rfl, by kernel_rfl, by decide +kernel, by kernel_rfl, by kernel_rfl, of_decide_eq_true (by kernel_rfl)⟩, fun _ => rfl, fun _ => rfl, rfl⟩
theorem spec_GoodMatchers.ok : CtrOK Go.Proofs.Try.prog gl spec_GoodMatchers.spec :=
  ctr_ok (T := spec_GoodMatchers.T) (F := spec_GoodMatchers.F) (lb := spec_GoodMatchers.lb) (st := spec_GoodMatchers.st) (step := spec_GoodMatchers.step) (md := spec_GoodMatchers.md) tabs spec_GoodMatchers.text spec_GoodMatchers.seg_eq (fun n x => ⟨.p0 x.1, rfl, rfl, rfl⟩) (consC spec_l2Name.ok (consC spec_l2Printed.ok (consC spec_GoodPattern.ok (nilC))))

/-! loop.example/g00039/spec.l3Time -/
def spec_l3Time.T : List Ctr := []
def spec_l3Time.md : List (Nat × List Md) := []
noncomputable def spec_l3Time.F : Fun := ⟨(Go.Proofs.Try.f48.body).getD .skip, [.v (.int .i64)], [(.tmp 2, .bool)], [], 0, []⟩
inductive spec_l3Time.Pt where
  | p0 (a0 : Int)
def spec_l3Time.lb : spec_l3Time.Pt → Nat
  | .p0 _ => 0
def spec_l3Time.st : spec_l3Time.Pt → St
  | .p0 a0 => enter [.v (.int .i64) a0] 0
def spec_l3Time.step (n : Nat) (K : spec_l3Time.Pt → Option (Tup [.bool])) : spec_l3Time.Pt → Option (Tup [.bool])
  | .p0 a0 => cond (decide ((0 : Int) ≤ a0)) (some (decide (a0 ≤ (1000000000000 : Int)))) (some false)
def spec_l3Time (n : Nat) (a0 : Int) : Option (Tup [.bool]) := goRec spec_l3Time.step n (.p0 a0)
def spec_l3Time.spec : Ctr := ⟨48, [.v (.int .i64)], [.bool], [], fun n x => spec_l3Time n x.1⟩
theorem spec_l3Time.seg_eq (n : Nat) (goto : Nat → St → Option (Tup [.bool])) (y : spec_l3Time.Pt) : seg ⟨ty, gl, spec_l3Time.md, calOf spec_l3Time.T n⟩ spec_l3Time.F.np spec_l3Time.F.ks goto (spec_l3Time.F.fin ⟨ty, gl, spec_l3Time.md, calOf spec_l3Time.T 0⟩ [.bool]) spec_l3Time.F.c (spec_l3Time.lb y) (spec_l3Time.st y) = spec_l3Time.step n (fun z => goto (spec_l3Time.lb z) (spec_l3Time.st z)) y := by
  cases y <;> kernel_rfl
theorem spec_l3Time.text : Text Go.Proofs.Try.prog spec_l3Time.F spec_l3Time.spec := ⟨⟨Go.Proofs.Try.f48, by kernel_rfl, by kernel_rfl, by decide +kernel, by kernel_rfl, by kernel_rfl, of_decide_eq_true (by kernel_rfl)⟩, fun _ => rfl, fun _ => rfl, rfl⟩
theorem spec_l3Time.ok : CtrOK Go.Proofs.Try.prog gl spec_l3Time.spec :=
  ctr_ok (T := spec_l3Time.T) (F := spec_l3Time.F) (lb := spec_l3Time.lb) (st := spec_l3Time.st) (step := spec_l3Time.step) (md := spec_l3Time.md) tabs spec_l3Time.text spec_l3Time.seg_eq (fun n x => ⟨.p0 x.1, rfl, rfl, rfl⟩) (nilC)

/-! loop.example/g00039/spec.l2CmpNum -/
def spec_l2CmpNum.T : List Ctr := []
def spec_l2CmpNum.md : List (Nat × List Md) := []
noncomputable def spec_l2CmpNum.F : Fun := ⟨(Go.Proofs.Try.f158.body).getD .skip, [.v (.int .i64), .v (.int .i64)], [(.tmp 4, (.int .i64))], [], 0, []⟩
inductive spec_l2CmpNum.Pt where
  | p0 (a0 : Int) (a1 : Int)
def spec_l2CmpNum.lb : spec_l2CmpNum.Pt → Nat
  | .p0 _ _ => 0
def spec_l2CmpNum.st : spec_l2CmpNum.Pt → St
  | .p0 a0 a1 => enter [.v (.int .i64) a0, .v (.int .i64) a1] 0
def spec_l2CmpNum.step (n : Nat) (K : spec_l2CmpNum.Pt → Option (Tup [(.int .i64)])) : spec_l2CmpNum.Pt → Option (Tup [(.int .i64)])
  | .p0 a0 a1 => cond (decide (a0 < a1)) (some (-(1 : Int))) (cond (decide (a1 < a0)) (some (1 : Int)) (some (0 : Int)))
def spec_l2CmpNum (n : Nat) (a0 : Int) (a1 : Int) : Option (Tup [(.int .i64)]) := goRec spec_l2CmpNum.step n (.p0 a0 a1)
def spec_l2CmpNum.spec : Ctr := ⟨158, [.v (.int .i64), .v (.int .i64)], [(.int .i64)], [], fun n x => spec_l2CmpNum n x.1 x.2.1⟩
theorem spec_l2CmpNum.seg_eq (n : Nat) (goto : Nat → St → Option (Tup [(.int .i64)])) (y : spec_l2CmpNum.Pt) : seg ⟨ty, gl, spec_l2CmpNum.md, calOf spec_l2CmpNum.T n⟩ spec_l2CmpNum.F.np spec_l2CmpNum.F.ks goto (spec_l2CmpNum.F.fin ⟨ty, gl, spec_l2CmpNum.md, calOf spec_l2CmpNum.T 0⟩ [(.int .i64)]) spec_l2CmpNum.F.c (spec_l2CmpNum.lb y) (spec_l2CmpNum.st y) = spec_l2CmpNum.step n (fun z => goto (spec_l2CmpNum.lb z) (spec_l2CmpNum.st z)) y := by
  cases y <;> kernel_rfl
theorem spec_l2CmpNum.text : Text Go.Proofs.Try.prog spec_l2CmpNum.F spec_l2CmpNum.spec := ⟨⟨Go.Proofs.Try.f158, by kernel_rfl, by kernel_rfl, by decide +kernel, by kernel_rfl, by kernel_rfl, of_decide_eq_true (by kernel_rfl)⟩, fun _ => rfl, fun _ => rfl, rfl⟩
theorem spec_l2CmpNum.ok : CtrOK Go.Proofs.Try.prog gl spec_l2CmpNum.spec :=
  ctr_ok (T := spec_l2CmpNum.T) (F := spec_l2CmpNum.F) (lb := spec_l2CmpNum.lb) (st := spec_l2CmpNum.st) (step := spec_l2CmpNum.step) (md := spec_l2CmpNum.md) tabs spec_l2CmpNum.text spec_l2CmpNum.seg_eq (fun n x => ⟨.p0 x.1 x.2.1, rfl, rfl, rfl⟩) (nilC)

/-! loop.example/g00039/spec.l2CmpText -/
def spec_l2CmpText.T : List Ctr := [spec_l2CmpNum.spec]
def spec_l2CmpText.md : List (Nat × List Md) := []
noncomputable def spec_l2CmpText.F : Fun := ⟨(Go.Proofs.Try.f98.body).getD .skip, [.v .str, .v .str], [(.tmp 4, (.int .i64))], [], 0, [(7, ⟨[0, 1, 5], [], []⟩), (9, ⟨[0, 1, 5, 15], [], []⟩)]⟩
inductive spec_l2CmpText.Pt where
  | p0 (a0 : ByteArray) (a1 : ByteArray)
  | p7 (y1 : ByteArray) (y2 : ByteArray) (y3 : Int)
  | p9 (y1 : ByteArray) (y2 : ByteArray) (y3 : Int) (y4 : Bool)
def spec_l2CmpText.lb : spec_l2CmpText.Pt → Nat
  | .p0 _ _ => 0
  | .p7 _ _ _ => 7
  | .p9 _ _ _ _ => 9
def spec_l2CmpText.st : spec_l2CmpText.Pt → St
  | .p0 a0 a1 => enter [.v .str a0, .v .str a1] 0
  | .p7 y1 y2 y3 => ⟨[(0, .im .str y1), (1, .im .str y2), (5, .im (.int .i64) y3)], [], 0⟩
  | .p9 y1 y2 y3 y4 => ⟨[(0, .im .str y1), (1, .im .str y2), (5, .im (.int .i64) y3), (15, .im .bool y4)], [], 0⟩
def spec_l2CmpText.step (n : Nat) (K : spec_l2CmpText.Pt → Option (Tup [(.int .i64)])) : spec_l2CmpText.Pt → Option (Tup [(.int .i64)])
  | .p0 a0 a1 => K (.p7 a0 a1 (0 : Int))
  | .p7 y1 y2 y3 => cond (decide (y3 < ((ByteArray.size y1) : Int))) (K (.p9 y1 y2 y3 (decide (y3 < ((ByteArray.size y2) : Int))))) (K (.p9 y1 y2 y3 false))
  | .p9 y1 y2 y3 y4 => cond y4 (cond (inB y3 (ByteArray.size y1)) (cond (inB y3 (ByteArray.size y2)) (cond (!(decide ((bt y1 y3) = (bt y2 y3)))) (cond (inB y3 (ByteArray.size y1)) (cond (inB y3 (ByteArray.size y2)) ((spec_l2CmpNum n (IntKind.wrap .i64 (bt y1 y3)) (IntKind.wrap .i64 (bt y2 y3))).bind fun (r7 : Int) => some r7) (none)) (none)) (K (.p7 y1 y2 (IntKind.wrap .i64 (y3 + (1 : Int)))))) (none)) (none)) ((spec_l2CmpNum n ((ByteArray.size y1) : Int) ((ByteArray.size y2) : Int)).bind fun (r7 : Int) => some r7)
def spec_l2CmpText (n : Nat) (a0 : ByteArray) (a1 : ByteArray) : Option (Tup [(.int .i64)]) := goRec spec_l2CmpText.step n (.p0 a0 a1)
def spec_l2CmpText.spec : Ctr := ⟨98, [.v .str, .v .str], [(.int .i64)], [], fun n x => spec_l2CmpText n x.1 x.2.1⟩
theorem spec_l2CmpText.seg_eq (n : Nat) (goto : Nat → St → Option (Tup [(.int .i64)])) (y : spec_l2CmpText.Pt) : seg ⟨ty, gl, spec_l2CmpText.md, calOf spec_l2CmpText.T n⟩ spec_l2CmpText.F.np spec_l2CmpText.F.ks goto (spec_l2CmpText.F.fin ⟨ty, gl, spec_l2CmpText.md, calOf spec_l2CmpText.T 0⟩ [(.int .i64)]) spec_l2CmpText.F.c (spec_l2CmpText.lb y) (spec_l2CmpText.st y) = spec_l2CmpText.step n (fun z => goto (spec_l2CmpText.lb z) (spec_l2CmpText.st z)) y := by
  cases y <;> kernel_rfl
theorem spec_l2CmpText.text : Text Go.Proofs.Try.prog spec_l2CmpText.F spec_l2CmpText.spec := ⟨⟨Go.Proofs.Try.f98, by kernel_rfl, by kernel_rfl, by decide +kernel, by kernel_rfl, by kernel_rfl, of_decide_eq_true (by kernel_rfl)⟩, fun _ => rfl, fun _ => rfl, rfl⟩
theorem spec_l2CmpText.ok : CtrOK Go.Proofs.Try.prog gl spec_l2CmpText.spec :=
  ctr_ok (T := spec_l2CmpText.T) (F := spec_l2CmpText.F) (lb := spec_l2CmpText.lb) (st := spec_l2CmpText.st) (step := spec_l2CmpText.step) (md := spec_l2CmpText.md) tabs spec_l2CmpText.text spec_l2CmpText.seg_eq (fun n x => ⟨.p0 x.1 x.2.1, rfl, rfl, rfl⟩) (consC spec_l2CmpNum.ok (nilC))

/-! loop.example/g00039/spec.GoodSilences -/
def spec_GoodSilences.T : List Ctr := [spec_l2Name.spec, spec_GoodMatchers.spec, spec_l3Time.spec, spec_l2CmpText.spec]
def spec_GoodSilences.md : List (Nat × List Md) := []
noncomputable def spec_GoodSilences.F : Fun := ⟨(Go.Proofs.Try.f46.body).getD .skip, [.v (.sl false (.pair .str (.pair (.sl false (.pair .str (.pair (.int .i64) (.pair .str .unit)))) (.pair (.int .i64) (.pair (.int .i64) .unit)))))], [(.tmp 2, .bool)], [], 0, [(15, ⟨[0, 8, 9, 10], [(8, (.pair .str (.pair (.sl false (.pair .str (.pair (.int .i64) (.pair .str .unit)))) (.pair (.int .i64) (.pair (.int .i64) .unit)))))], []⟩), (26, ⟨[0, 8, 9, 10, 65], [(8, (.pair .str (.pair (.sl false (.pair .str (.pair (.int .i64) (.pair .str .unit)))) (.pair (.int .i64) (.pair (.int .i64) .unit)))))], []⟩)]⟩
inductive spec_GoodSilences.Pt where
  | p0 (a0 : List ((ByteArray) × ((List ((ByteArray) × ((Int) × ((ByteArray) × (Unit))))) × ((Int) × ((Int) × (Unit))))))
  | p15 (y1 : List ((ByteArray) × ((List ((ByteArray) × ((Int) × ((ByteArray) × (Unit))))) × ((Int) × ((Int) × (Unit)))))) (y2 : List ((ByteArray) × ((List ((ByteArray) × ((Int) × ((ByteArray) × (Unit))))) × ((Int) × ((Int) × (Unit)))))) (y3 : Int) (y4 : Int)
  | p26 (y1 : List ((ByteArray) × ((List ((ByteArray) × ((Int) × ((ByteArray) × (Unit))))) × ((Int) × ((Int) × (Unit)))))) (y2 : List ((ByteArray) × ((List ((ByteArray) × ((Int) × ((ByteArray) × (Unit))))) × ((Int) × ((Int) × (Unit)))))) (y3 : Int) (y4 : Int) (y5 : Bool)
def spec_GoodSilences.lb : spec_GoodSilences.Pt → Nat
  | .p0 _ => 0
  | .p15 _ _ _ _ => 15
  | .p26 _ _ _ _ _ => 26
def spec_GoodSilences.st : spec_GoodSilences.Pt → St
  | .p0 a0 => enter [.v (.sl false (.pair .str (.pair (.sl false (.pair .str (.pair (.int .i64) (.pair .str .unit)))) (.pair (.int .i64) (.pair (.int .i64) .unit))))) a0] 0
  | .p15 y1 y2 y3 y4 => ⟨[(0, .im (.sl false (.pair .str (.pair (.sl false (.pair .str (.pair (.int .i64) (.pair .str .unit)))) (.pair (.int .i64) (.pair (.int .i64) .unit))))) y1), (8, .im (.sl false (.pair .str (.pair (.sl false (.pair .str (.pair (.int .i64) (.pair .str .unit)))) (.pair (.int .i64) (.pair (.int .i64) .unit))))) y2), (9, .im (.int .i64) y3), (10, .im (.int .i64) y4)], [], 0⟩
  | .p26 y1 y2 y3 y4 y5 => ⟨[(0, .im (.sl false (.pair .str (.pair (.sl false (.pair .str (.pair (.int .i64) (.pair .str .unit)))) (.pair (.int .i64) (.pair (.int .i64) .unit))))) y1), (8, .im (.sl false (.pair .str (.pair (.sl false (.pair .str (.pair (.int .i64) (.pair .str .unit)))) (.pair (.int .i64) (.pair (.int .i64) .unit))))) y2), (9, .im (.int .i64) y3), (10, .im (.int .i64) y4), (65, .im .bool y5)], [], 0⟩
def spec_GoodSilences.step (n : Nat) (K : spec_GoodSilences.Pt → Option (Tup [.bool])) : spec_GoodSilences.Pt → Option (Tup [.bool])
  | .p0 a0 => cond (decide ((50 : Int) < ((List.length a0) : Int))) (some false) (K (.p15 a0 a0 ((List.length a0) : Int) (0 : Int)))
  | .p15 y1 y2 y3 y4 => cond (decide (y4 < y3)) (cond (inB y4 (List.length y2)) ((spec_l2Name n (List.getD y2 (Int.toNat y4) default).1).bind fun r7 => cond (!r7) (K (.p26 y1 y2 y3 y4 true)) ((spec_GoodMatchers n (List.getD y2 (Int.toNat y4) default).2.1).bind fun r8 => cond (!r8) (K (.p26 y1 y2 y3 y4 true)) (cond (decide (((List.length (List.getD y2 (Int.toNat y4) default).2.1) : Int) = (0 : Int))) (K (.p26 y1 y2 y3 y4 true)) ((spec_l3Time n (List.getD y2 (Int.toNat y4) default).2.2.1).bind fun r9 => cond (!r9) (K (.p26 y1 y2 y3 y4 true)) ((spec_l3Time n (List.getD y2 (Int.toNat y4) default).2.2.2.1).bind fun r10 => cond (!r10) (K (.p26 y1 y2 y3 y4 true)) (cond (decide ((List.getD y2 (Int.toNat y4) default).2.2.2.1 < (List.getD y2 (Int.toNat y4) default).2.2.1)) (K (.p26 y1 y2 y3 y4 true)) (cond (decide ((0 : Int) < y4)) (cond (inB (IntKind.wrap .i64 (y4 - (1 : Int))) (List.length y1)) ((spec_l2CmpText n (List.getD y1 (Int.toNat (IntKind.wrap .i64 (y4 - (1 : Int)))) default).1 (List.getD y2 (Int.toNat y4) default).1).bind fun (r11 : Int) => K (.p26 y1 y2 y3 y4 (decide ((0 : Int) ≤ r11)))) (none)) (K (.p26 y1 y2 y3 y4 false))))))))) (none)) (some true)
  | .p26 y1 y2 y3 y4 y5 => cond y5 (some false) (K (.p15 y1 y2 y3 (IntKind.wrap .i64 (y4 + (1 : Int)))))
def spec_GoodSilences (n : Nat) (a0 : List ((ByteArray) × ((List ((ByteArray) × ((Int) × ((ByteArray) × (Unit))))) × ((Int) × ((Int) × (Unit)))))) : Option (Tup [.bool]) := goRec spec_GoodSilences.step n (.p0 a0)
def spec_GoodSilences.spec : Ctr := ⟨46, [.v (.sl false (.pair .str (.pair (.sl false (.pair .str (.pair (.int .i64) (.pair .str .unit)))) (.pair (.int .i64) (.pair (.int .i64) .unit)))))], [.bool], [], fun n x => spec_GoodSilences n x.1⟩
theorem spec_GoodSilences.seg_eq (n : Nat) (goto : Nat → St → Option (Tup [.bool])) (y : spec_GoodSilences.Pt) : seg ⟨ty, gl, spec_GoodSilences.md, calOf spec_GoodSilences.T n⟩ spec_GoodSilences.F.np spec_GoodSilences.F.ks goto (spec_GoodSilences.F.fin ⟨ty, gl, spec_GoodSilences.md, calOf spec_GoodSilences.T 0⟩ [.bool]) spec_GoodSilences.F.c (spec_GoodSilences.lb y) (spec_GoodSilences.st y) = spec_GoodSilences.step n (fun z => goto (spec_GoodSilences.lb z) (spec_GoodSilences.st z)) y := by
  cases y <;> kernel_rfl
theorem spec_GoodSilences.text : Text Go.Proofs.Try.prog spec_GoodSilences.F spec_GoodSilences.spec := ⟨⟨Go.Proofs.Try.f46, by kernel_rfl, by kernel_rfl, by decide +kernel, by kernel_rfl, by kernel_rfl, of_decide_eq_true (by kernel_rfl)⟩, fun _ => rfl, fun _ => rfl, rfl⟩
theorem spec_GoodSilences.ok : CtrOK Go.Proofs.Try.prog gl spec_GoodSilences.spec :=
  ctr_ok (T := spec_GoodSilences.T) (F := spec_GoodSilences.F) (lb := spec_GoodSilences.lb) (st := spec_GoodSilences.st) (step := spec_GoodSilences.step) (md := spec_GoodSilences.md) tabs spec_GoodSilences.text spec_GoodSilences.seg_eq (fun n x => ⟨.p0 x.1, rfl, rfl, rfl⟩) (consC spec_l2Name.ok (consC spec_GoodMatchers.ok (consC spec_l3Time.ok (consC spec_l2CmpText.ok (nilC)))))

/-! loop.example/g00039/spec.l2Value -/
def spec_l2Value.T : List Ctr := [spec_l2Printed.spec]
def spec_l2Value.md : List (Nat × List Md) := []
noncomputable def spec_l2Value.F : Fun := ⟨(Go.Proofs.Try.f99.body).getD .skip, [.v .str], [(.tmp 2, .bool)], [], 0, []⟩
inductive spec_l2Value.Pt where
  | p0 (a0 : ByteArray)
def spec_l2Value.lb : spec_l2Value.Pt → Nat
  | .p0 _ => 0
def spec_l2Value.st : spec_l2Value.Pt → St
  | .p0 a0 => enter [.v .str a0] 0
def spec_l2Value.step (n : Nat) (K : spec_l2Value.Pt → Option (Tup [.bool])) : spec_l2Value.Pt → Option (Tup [.bool])
  | .p0 a0 => cond (decide ((1 : Int) ≤ ((ByteArray.size a0) : Int))) (cond (decide (((ByteArray.size a0) : Int) ≤ (100 : Int))) ((spec_l2Printed n a0).bind fun r4 => some r4) (some false)) (some false)
def spec_l2Value (n : Nat) (a0 : ByteArray) : Option (Tup [.bool]) := goRec spec_l2Value.step n (.p0 a0)
def spec_l2Value.spec : Ctr := ⟨99, [.v .str], [.bool], [], fun n x => spec_l2Value n x.1⟩
theorem spec_l2Value.seg_eq (n : Nat) (goto : Nat → St → Option (Tup [.bool])) (y : spec_l2Value.Pt) : seg ⟨ty, gl, spec_l2Value.md, calOf spec_l2Value.T n⟩ spec_l2Value.F.np spec_l2Value.F.ks goto (spec_l2Value.F.fin ⟨ty, gl, spec_l2Value.md, calOf spec_l2Value.T 0⟩ [.bool]) spec_l2Value.F.c (spec_l2Value.lb y) (spec_l2Value.st y) = spec_l2Value.step n (fun z => goto (spec_l2Value.lb z) (spec_l2Value.st z)) y := by
  cases y <;> kernel_rfl
theorem spec_l2Value.text : Text Go.Proofs.Try.prog spec_l2Value.F spec_l2Value.spec := ⟨⟨Go.Proofs.Try.f99, by kernel_rfl, by kernel_rfl, by decide +kernel, by kernel_rfl, by kernel_rfl, of_decide_eq_true (by kernel_rfl)⟩, fun _ => rfl, fun _ => rfl, rfl⟩
theorem spec_l2Value.ok : CtrOK Go.Proofs.Try.prog gl spec_l2Value.spec :=
  ctr_ok (T := spec_l2Value.T) (F := spec_l2Value.F) (lb := spec_l2Value.lb) (st := spec_l2Value.st) (step := spec_l2Value.step) (md := spec_l2Value.md) tabs spec_l2Value.text spec_l2Value.seg_eq (fun n x => ⟨.p0 x.1, rfl, rfl, rfl⟩) (consC spec_l2Printed.ok (nilC))

/-! loop.example/g00039/spec.GoodLabels -/
def spec_GoodLabels.T : List Ctr := [spec_l2Name.spec, spec_l2CmpText.spec, spec_l2Value.spec]
def spec_GoodLabels.md : List (Nat × List Md) := []
noncomputable def spec_GoodLabels.F : Fun := ⟨(Go.Proofs.Try.f47.body).getD .skip, [.v (.sl false (.pair .str (.pair .str .unit)))], [(.tmp 2, .bool)], [], 0, [(15, ⟨[0, 8, 9, 10], [(8, (.pair .str (.pair .str .unit)))], []⟩), (26, ⟨[0, 8, 9, 10, 40], [(8, (.pair .str (.pair .str .unit)))], []⟩)]⟩
inductive spec_GoodLabels.Pt where
  | p0 (a0 : List ((ByteArray) × ((ByteArray) × (Unit))))
  | p15 (y1 : List ((ByteArray) × ((ByteArray) × (Unit)))) (y2 : List ((ByteArray) × ((ByteArray) × (Unit)))) (y3 : Int) (y4 : Int)
  | p26 (y1 : List ((ByteArray) × ((ByteArray) × (Unit)))) (y2 : List ((ByteArray) × ((ByteArray) × (Unit)))) (y3 : Int) (y4 : Int) (y5 : Bool)
def spec_GoodLabels.lb : spec_GoodLabels.Pt → Nat
  | .p0 _ => 0
  | .p15 _ _ _ _ => 15
  | .p26 _ _ _ _ _ => 26
def spec_GoodLabels.st : spec_GoodLabels.Pt → St
  | .p0 a0 => enter [.v (.sl false (.pair .str (.pair .str .unit))) a0] 0
  | .p15 y1 y2 y3 y4 => ⟨[(0, .im (.sl false (.pair .str (.pair .str .unit))) y1), (8, .im (.sl false (.pair .str (.pair .str .unit))) y2), (9, .im (.int .i64) y3), (10, .im (.int .i64) y4)], [], 0⟩
  | .p26 y1 y2 y3 y4 y5 => ⟨[(0, .im (.sl false (.pair .str (.pair .str .unit))) y1), (8, .im (.sl false (.pair .str (.pair .str .unit))) y2), (9, .im (.int .i64) y3), (10, .im (.int .i64) y4), (40, .im .bool y5)], [], 0⟩
def spec_GoodLabels.step (n : Nat) (K : spec_GoodLabels.Pt → Option (Tup [.bool])) : spec_GoodLabels.Pt → Option (Tup [.bool])
  | .p0 a0 => cond (decide ((20 : Int) < ((List.length a0) : Int))) (some false) (K (.p15 a0 a0 ((List.length a0) : Int) (0 : Int)))
  | .p15 y1 y2 y3 y4 => cond (decide (y4 < y3)) (cond (inB y4 (List.length y2)) ((spec_l2Name n (List.getD y2 (Int.toNat y4) default).1).bind fun r7 => cond (!r7) (K (.p26 y1 y2 y3 y4 true)) ((spec_l2Value n (List.getD y2 (Int.toNat y4) default).2.1).bind fun r8 => cond (!r8) (K (.p26 y1 y2 y3 y4 true)) (cond (decide ((0 : Int) < y4)) (cond (inB (IntKind.wrap .i64 (y4 - (1 : Int))) (List.length y1)) ((spec_l2CmpText n (List.getD y1 (Int.toNat (IntKind.wrap .i64 (y4 - (1 : Int)))) default).1 (List.getD y2 (Int.toNat y4) default).1).bind fun (r9 : Int) => K (.p26 y1 y2 y3 y4 (decide ((0 : Int) ≤ r9)))) (none)) (K (.p26 y1 y2 y3 y4 false))))) (none)) (some true)
  | .p26 y1 y2 y3 y4 y5 => cond y5 (some false) (K (.p15 y1 y2 y3 (IntKind.wrap .i64 (y4 + (1 : Int)))))
def spec_GoodLabels (n : Nat) (a0 : List ((ByteArray) × ((ByteArray) × (Unit)))) : Option (Tup [.bool]) := goRec spec_GoodLabels.step n (.p0 a0)
def spec_GoodLabels.spec : Ctr := ⟨47, [.v (.sl false (.pair .str (.pair .str .unit)))], [.bool], [], fun n x => spec_GoodLabels n x.1⟩
theorem spec_GoodLabels.seg_eq (n : Nat) (goto : Nat → St → Option (Tup [.bool])) (y : spec_GoodLabels.Pt) : seg ⟨ty, gl, spec_GoodLabels.md, calOf spec_GoodLabels.T n⟩ spec_GoodLabels.F.np spec_GoodLabels.F.ks goto (spec_GoodLabels.F.fin ⟨ty, gl, spec_GoodLabels.md, calOf spec_GoodLabels.T 0⟩ [.bool]) spec_GoodLabels.F.c (spec_GoodLabels.lb y) (spec_GoodLabels.st y) = spec_GoodLabels.step n (fun z => goto (spec_GoodLabels.lb z) (spec_GoodLabels.st z)) y := by
  cases y <;> kernel_rfl
theorem spec_GoodLabels.text : Text Go.Proofs.Try.prog spec_GoodLabels.F spec_GoodLabels.spec := ⟨⟨Go.Proofs.Try.f47, by kernel_rfl, by kernel_rfl, by decide +kernel, by kernel_rfl, by kernel_rfl, of_decide_eq_true (by kernel_rfl)⟩, fun _ => rfl, fun _ => rfl, rfl⟩
theorem spec_GoodLabels.ok : CtrOK Go.Proofs.Try.prog gl spec_GoodLabels.spec :=
  ctr_ok (T := spec_GoodLabels.T) (F := spec_GoodLabels.F) (lb := spec_GoodLabels.lb) (st := spec_GoodLabels.st) (step := spec_GoodLabels.step) (md := spec_GoodLabels.md) tabs spec_GoodLabels.text spec_GoodLabels.seg_eq (fun n x => ⟨.p0 x.1, rfl, rfl, rfl⟩) (consC spec_l2Name.ok (consC spec_l2CmpText.ok (consC spec_l2Value.ok (nilC))))

/-! loop.example/g00039/spec.l2Of -/
def spec_l2Of.T : List Ctr := []
def spec_l2Of.md : List (Nat × List Md) := []
noncomputable def spec_l2Of.F : Fun := ⟨(Go.Proofs.Try.f109.body).getD .skip, [.v (.sl false (.pair .str (.pair .str .unit))), .v .str], [(.tmp 4, .str)], [], 0, [(7, ⟨[1, 7, 8, 9], [(7, (.pair .str (.pair .str .unit)))], []⟩)]⟩
inductive spec_l2Of.Pt where
  | p0 (a0 : List ((ByteArray) × ((ByteArray) × (Unit)))) (a1 : ByteArray)
  | p7 (y1 : ByteArray) (y2 : List ((ByteArray) × ((ByteArray) × (Unit)))) (y3 : Int) (y4 : Int)
def spec_l2Of.lb : spec_l2Of.Pt → Nat
  | .p0 _ _ => 0
  | .p7 _ _ _ _ => 7
def spec_l2Of.st : spec_l2Of.Pt → St
  | .p0 a0 a1 => enter [.v (.sl false (.pair .str (.pair .str .unit))) a0, .v .str a1] 0
  | .p7 y1 y2 y3 y4 => ⟨[(1, .im .str y1), (7, .im (.sl false (.pair .str (.pair .str .unit))) y2), (8, .im (.int .i64) y3), (9, .im (.int .i64) y4)], [], 0⟩
def spec_l2Of.step (n : Nat) (K : spec_l2Of.Pt → Option (Tup [.str])) : spec_l2Of.Pt → Option (Tup [.str])
  | .p0 a0 a1 => K (.p7 a1 a0 ((List.length a0) : Int) (0 : Int))
  | .p7 y1 y2 y3 y4 => cond (decide (y4 < y3)) (cond (inB y4 (List.length y2)) (cond (seq (List.getD y2 (Int.toNat y4) default).1 y1) (some (List.getD y2 (Int.toNat y4) default).2.1) (K (.p7 y1 y2 y3 (IntKind.wrap .i64 (y4 + (1 : Int)))))) (none)) (some (⟨#[]⟩ : ByteArray))
def spec_l2Of (n : Nat) (a0 : List ((ByteArray) × ((ByteArray) × (Unit)))) (a1 : ByteArray) : Option (Tup [.str]) := goRec spec_l2Of.step n (.p0 a0 a1)
def spec_l2Of.spec : Ctr := ⟨109, [.v (.sl false (.pair .str (.pair .str .unit))), .v .str], [.str], [], fun n x => spec_l2Of n x.1 x.2.1⟩
theorem spec_l2Of.seg_eq (n : Nat) (goto : Nat → St → Option (Tup [.str])) (y : spec_l2Of.Pt) : seg ⟨ty, gl, spec_l2Of.md, calOf spec_l2Of.T n⟩ spec_l2Of.F.np spec_l2Of.F.ks goto (spec_l2Of.F.fin ⟨ty, gl, spec_l2Of.md, calOf spec_l2Of.T 0⟩ [.str]) spec_l2Of.F.c (spec_l2Of.lb y) (spec_l2Of.st y) = spec_l2Of.step n (fun z => goto (spec_l2Of.lb z) (spec_l2Of.st z)) y := by
  cases y <;> kernel_rfl
theorem spec_l2Of.text : Text Go.Proofs.Try.prog spec_l2Of.F spec_l2Of.spec := ⟨⟨Go.Proofs.Try.f109, by kernel_rfl, by kernel_rfl, by decide +kernel, by kernel_rfl, by kernel_rfl, of_decide_eq_true (by kernel_rfl)⟩, fun _ => rfl, fun _ => rfl, rfl⟩
theorem spec_l2Of.ok : CtrOK Go.Proofs.Try.prog gl spec_l2Of.spec :=
  ctr_ok (T := spec_l2Of.T) (F := spec_l2Of.F) (lb := spec_l2Of.lb) (st := spec_l2Of.st) (step := spec_l2Of.step) (md := spec_l2Of.md) tabs spec_l2Of.text spec_l2Of.seg_eq (fun n x => ⟨.p0 x.1 x.2.1, rfl, rfl, rfl⟩) (nilC)

/-! loop.example/g00039/spec.l2Rest -/
def spec_l2Rest.T : List Ctr := []
def spec_l2Rest.md : List (Nat × List Md) := []
noncomputable def spec_l2Rest.F : Fun := ⟨(Go.Proofs.Try.f206.body).getD .skip, [.v (.sl false (.int .i64)), .v .str], [(.tmp 4, (.sl false .bool))], [], 0, [(11, ⟨[0, 1, 5, 6], [(5, .bool)], []⟩), (26, ⟨[0, 1, 5, 6, 7, 8], [(5, .bool), (7, .bool)], []⟩)]⟩
inductive spec_l2Rest.Pt where
  | p0 (a0 : List (Int)) (a1 : ByteArray)
  | p11 (y1 : List (Int)) (y2 : ByteArray) (y3 : Int) (y4 : List (Bool))
  | p26 (y1 : List (Int)) (y2 : ByteArray) (y3 : Int) (y4 : Int) (y5 : List (Bool)) (y6 : List (Bool))
def spec_l2Rest.lb : spec_l2Rest.Pt → Nat
  | .p0 _ _ => 0
  | .p11 _ _ _ _ => 11
  | .p26 _ _ _ _ _ _ => 26
def spec_l2Rest.st : spec_l2Rest.Pt → St
  | .p0 a0 a1 => enter [.v (.sl false (.int .i64)) a0, .v .str a1] 0
  | .p11 y1 y2 y3 y4 => ⟨[(0, .im (.sl false (.int .i64)) y1), (1, .im .str y2), (5, .hs 0 [] none 0), (6, .im (.int .i64) y3)], [(0, .arr false .bool y4 0)], 1⟩
  | .p26 y1 y2 y3 y4 y5 y6 => ⟨[(0, .im (.sl false (.int .i64)) y1), (1, .im .str y2), (5, .hs 0 [] none 0), (6, .im (.int .i64) y3), (7, .hs 1 [] none 0), (8, .im (.int .i64) y4)], [(0, .arr false .bool y5 0), (1, .arr false .bool y6 0)], 2⟩
def spec_l2Rest.step (n : Nat) (K : spec_l2Rest.Pt → Option (Tup [(.sl false .bool)])) : spec_l2Rest.Pt → Option (Tup [(.sl false .bool)])
  | .p0 a0 a1 => cond (inC (IntKind.wrap .i64 (((ByteArray.size a1) : Int) + (1 : Int))) (IntKind.wrap .i64 (((ByteArray.size a1) : Int) + (1 : Int))) 1000000000) (cond (inB ((ByteArray.size a1) : Int) (List.length (List.replicate (Int.toNat (IntKind.wrap .i64 (((ByteArray.size a1) : Int) + (1 : Int)))) (default : Bool)))) (K (.p11 a0 a1 (IntKind.wrap .i64 (((List.length a0) : Int) - (1 : Int))) (List.set (List.replicate (Int.toNat (IntKind.wrap .i64 (((ByteArray.size a1) : Int) + (1 : Int)))) (default : Bool)) (0 + (Int.toNat ((ByteArray.size a1) : Int))) true))) (none)) (none)
  | .p11 y1 y2 y3 y4 => cond (decide ((0 : Int) ≤ y3)) (cond (inC (IntKind.wrap .i64 (((ByteArray.size y2) : Int) + (1 : Int))) (IntKind.wrap .i64 (((ByteArray.size y2) : Int) + (1 : Int))) 1000000000) (K (.p26 y1 y2 y3 ((ByteArray.size y2) : Int) y4 (List.replicate (Int.toNat (IntKind.wrap .i64 (((ByteArray.size y2) : Int) + (1 : Int)))) (default : Bool)))) (none)) (some y4)
  | .p26 y1 y2 y3 y4 y5 y6 => cond (decide ((0 : Int) ≤ y4)) (cond (inB y3 (List.length y1)) (cond (decide ((List.getD y1 (Int.toNat y3) default) = (-(1 : Int)))) (cond (inB y4 (List.length y5)) (cond (List.getD y5 (0 + (Int.toNat y4)) default) (cond (inB y4 (List.length y6)) (K (.p26 y1 y2 y3 (IntKind.wrap .i64 (y4 - (1 : Int))) y5 (List.set y6 (0 + (Int.toNat y4)) true))) (none)) (cond (decide (y4 < ((ByteArray.size y2) : Int))) (cond (inB (IntKind.wrap .i64 (y4 + (1 : Int))) (List.length y6)) (cond (inB y4 (List.length y6)) (K (.p26 y1 y2 y3 (IntKind.wrap .i64 (y4 - (1 : Int))) y5 (List.set y6 (0 + (Int.toNat y4)) (List.getD y6 (0 + (Int.toNat (IntKind.wrap .i64 (y4 + (1 : Int))))) default)))) (none)) (none)) (cond (inB y4 (List.length y6)) (K (.p26 y1 y2 y3 (IntKind.wrap .i64 (y4 - (1 : Int))) y5 (List.set y6 (0 + (Int.toNat y4)) false))) (none)))) (none)) (cond (decide (y4 < ((ByteArray.size y2) : Int))) (cond (inB (IntKind.wrap .i64 (y4 + (1 : Int))) (List.length y5)) (cond (List.getD y5 (0 + (Int.toNat (IntKind.wrap .i64 (y4 + (1 : Int))))) default) (cond (inB y3 (List.length y1)) (cond (decide ((List.getD y1 (Int.toNat y3) default) = (-(2 : Int)))) (cond (inB y4 (List.length y6)) (K (.p26 y1 y2 y3 (IntKind.wrap .i64 (y4 - (1 : Int))) y5 (List.set y6 (0 + (Int.toNat y4)) true))) (none)) (cond (inB y3 (List.length y1)) (cond (inB y4 (ByteArray.size y2)) (cond (inB y4 (List.length y6)) (K (.p26 y1 y2 y3 (IntKind.wrap .i64 (y4 - (1 : Int))) y5 (List.set y6 (0 + (Int.toNat y4)) (decide ((List.getD y1 (Int.toNat y3) default) = (IntKind.wrap .i64 (bt y2 y4))))))) (none)) (none)) (none))) (none)) (cond (inB y4 (List.length y6)) (K (.p26 y1 y2 y3 (IntKind.wrap .i64 (y4 - (1 : Int))) y5 (List.set y6 (0 + (Int.toNat y4)) false))) (none))) (none)) (cond (inB y4 (List.length y6)) (K (.p26 y1 y2 y3 (IntKind.wrap .i64 (y4 - (1 : Int))) y5 (List.set y6 (0 + (Int.toNat y4)) false))) (none)))) (none)) (K (.p11 y1 y2 (IntKind.wrap .i64 (y3 - (1 : Int))) y6))
def spec_l2Rest (n : Nat) (a0 : List (Int)) (a1 : ByteArray) : Option (Tup [(.sl false .bool)]) := goRec spec_l2Rest.step n (.p0 a0 a1)
def spec_l2Rest.spec : Ctr := ⟨206, [.v (.sl false (.int .i64)), .v .str], [(.sl false .bool)], [], fun n x => spec_l2Rest n x.1 x.2.1⟩
theorem spec_l2Rest.seg_eq (n : Nat) (goto : Nat → St → Option (Tup [(.sl false .bool)])) (y : spec_l2Rest.Pt) : seg ⟨ty, gl, spec_l2Rest.md, calOf spec_l2Rest.T n⟩ spec_l2Rest.F.np spec_l2Rest.F.ks goto (spec_l2Rest.F.fin ⟨ty, gl, spec_l2Rest.md, calOf spec_l2Rest.T 0⟩ [(.sl false .bool)]) spec_l2Rest.F.c (spec_l2Rest.lb y) (spec_l2Rest.st y) = spec_l2Rest.step n (fun z => goto (spec_l2Rest.lb z) (spec_l2Rest.st z)) y := by
  cases y <;> kernel_rfl
theorem spec_l2Rest.text : Text Go.Proofs.Try.prog spec_l2Rest.F spec_l2Rest.spec := ⟨⟨Go.Proofs.Try.f206, by kernel_rfl, by kernel_rfl, by decide +kernel, by kernel_rfl, by kernel_rfl, of_decide_eq_true (by kernel_rfl)⟩, fun _ => rfl, fun _ => rfl, rfl⟩
theorem spec_l2Rest.ok : CtrOK Go.Proofs.Try.prog gl spec_l2Rest.spec :=
  ctr_ok (T := spec_l2Rest.T) (F := spec_l2Rest.F) (lb := spec_l2Rest.lb) (st := spec_l2Rest.st) (step := spec_l2Rest.step) (md := spec_l2Rest.md) tabs spec_l2Rest.text spec_l2Rest.seg_eq (fun n x => ⟨.p0 x.1 x.2.1, rfl, rfl, rfl⟩) (nilC)

/-! loop.example/g00039/spec.l2Fits -/
def spec_l2Fits.T : List Ctr := [spec_l2Alternatives.spec, spec_l2Rest.spec]
def spec_l2Fits.md : List (Nat × List Md) := []
noncomputable def spec_l2Fits.F : Fun := ⟨(Go.Proofs.Try.f195.body).getD .skip, [.v .str, .v .str], [(.tmp 4, .bool)], [], 0, [(9, ⟨[1, 14, 15, 16], [(14, (.sl false (.int .i64)))], []⟩)]⟩
inductive spec_l2Fits.Pt where
  | p0 (a0 : ByteArray) (a1 : ByteArray)
  | p9 (y1 : ByteArray) (y2 : Int) (y3 : Int) (y4 : List (List (Int)))
def spec_l2Fits.lb : spec_l2Fits.Pt → Nat
  | .p0 _ _ => 0
  | .p9 _ _ _ _ => 9
def spec_l2Fits.st : spec_l2Fits.Pt → St
  | .p0 a0 a1 => enter [.v .str a0, .v .str a1] 0
  | .p9 y1 y2 y3 y4 => ⟨[(1, .im .str y1), (14, .hs 0 [] none 0), (15, .im (.int .i64) y2), (16, .im (.int .i64) y3)], [(0, .arr false (.sl false (.int .i64)) y4 0)], 1⟩
def spec_l2Fits.step (n : Nat) (K : spec_l2Fits.Pt → Option (Tup [.bool])) : spec_l2Fits.Pt → Option (Tup [.bool])
  | .p0 a0 a1 => (spec_l2Alternatives n a0).bind fun r5 => K (.p9 a1 ((List.length r5.1) : Int) (0 : Int) r5.1)
  | .p9 y1 y2 y3 y4 => cond (decide (y3 < y2)) (cond (inB y3 (List.length y4)) ((spec_l2Rest n (List.getD y4 (0 + (Int.toNat y3)) default) y1).bind fun r7 => cond (inB (0 : Int) (List.length r7)) (cond (List.getD r7 (0 + (Int.toNat (0 : Int))) default) (some true) (K (.p9 y1 y2 (IntKind.wrap .i64 (y3 + (1 : Int))) y4))) (none)) (none)) (some false)
def spec_l2Fits (n : Nat) (a0 : ByteArray) (a1 : ByteArray) : Option (Tup [.bool]) := goRec spec_l2Fits.step n (.p0 a0 a1)
def spec_l2Fits.spec : Ctr := ⟨195, [.v .str, .v .str], [.bool], [], fun n x => spec_l2Fits n x.1 x.2.1⟩
theorem spec_l2Fits.seg_eq (n : Nat) (goto : Nat → St → Option (Tup [.bool])) (y : spec_l2Fits.Pt) : seg ⟨ty, gl, spec_l2Fits.md, calOf spec_l2Fits.T n⟩ spec_l2Fits.F.np spec_l2Fits.F.ks goto (spec_l2Fits.F.fin ⟨ty, gl, spec_l2Fits.md, calOf spec_l2Fits.T 0⟩ [.bool]) spec_l2Fits.F.c (spec_l2Fits.lb y) (spec_l2Fits.st y) = spec_l2Fits.step n (fun z => goto (spec_l2Fits.lb z) (spec_l2Fits.st z)) y := by
  cases y <;> kernel_rfl
theorem spec_l2Fits.text : Text Go.Proofs.Try.prog spec_l2Fits.F spec_l2Fits.spec := ⟨⟨Go.Proofs.Try.f195, by kernel_rfl, by kernel_rfl, by decide +kernel, by kernel_rfl, by kernel_rfl, of_decide_eq_true (by kernel_rfl)⟩, fun _ => rfl, fun _ => rfl, rfl⟩
theorem spec_l2Fits.ok : CtrOK Go.Proofs.Try.prog gl spec_l2Fits.spec :=
  ctr_ok (T := spec_l2Fits.T) (F := spec_l2Fits.F) (lb := spec_l2Fits.lb) (st := spec_l2Fits.st) (step := spec_l2Fits.step) (md := spec_l2Fits.md) tabs spec_l2Fits.text spec_l2Fits.seg_eq (fun n x => ⟨.p0 x.1 x.2.1, rfl, rfl, rfl⟩) (consC spec_l2Alternatives.ok (consC spec_l2Rest.ok (nilC)))

/-! loop.example/g00039/spec.l2Match -/
def spec_l2Match.T : List Ctr := [spec_l2Fits.spec]
def spec_l2Match.md : List (Nat × List Md) := []
noncomputable def spec_l2Match.F : Fun := ⟨(Go.Proofs.Try.f159.body).getD .skip, [.v (.pair .str (.pair (.int .i64) (.pair .str .unit))), .v .str], [(.tmp 4, .bool)], [], 0, []⟩
inductive spec_l2Match.Pt where
  | p0 (a0 : (ByteArray) × ((Int) × ((ByteArray) × (Unit)))) (a1 : ByteArray)
def spec_l2Match.lb : spec_l2Match.Pt → Nat
  | .p0 _ _ => 0
def spec_l2Match.st : spec_l2Match.Pt → St
  | .p0 a0 a1 => enter [.v (.pair .str (.pair (.int .i64) (.pair .str .unit))) a0, .v .str a1] 0
def spec_l2Match.step (n : Nat) (K : spec_l2Match.Pt → Option (Tup [.bool])) : spec_l2Match.Pt → Option (Tup [.bool])
  | .p0 a0 a1 => cond (decide (a0.2.1 = (1 : Int))) (some (seq a1 a0.2.2.1)) (cond (decide (a0.2.1 = (2 : Int))) (some (!(seq a1 a0.2.2.1))) (cond (decide (a0.2.1 = (3 : Int))) ((spec_l2Fits n a0.2.2.1 a1).bind fun r5 => some r5) ((spec_l2Fits n a0.2.2.1 a1).bind fun r5 => some (!r5))))
def spec_l2Match (n : Nat) (a0 : (ByteArray) × ((Int) × ((ByteArray) × (Unit)))) (a1 : ByteArray) : Option (Tup [.bool]) := goRec spec_l2Match.step n (.p0 a0 a1)
def spec_l2Match.spec : Ctr := ⟨159, [.v (.pair .str (.pair (.int .i64) (.pair .str .unit))), .v .str], [.bool], [], fun n x => spec_l2Match n x.1 x.2.1⟩
theorem spec_l2Match.seg_eq (n : Nat) (goto : Nat → St → Option (Tup [.bool])) (y : spec_l2Match.Pt) : seg ⟨ty, gl, spec_l2Match.md, calOf spec_l2Match.T n⟩ spec_l2Match.F.np spec_l2Match.F.ks goto (spec_l2Match.F.fin ⟨ty, gl, spec_l2Match.md, calOf spec_l2Match.T 0⟩ [.bool]) spec_l2Match.F.c (spec_l2Match.lb y) (spec_l2Match.st y) = spec_l2Match.step n (fun z => goto (spec_l2Match.lb z) (spec_l2Match.st z)) y := by
  cases y <;> kernel_rfl
theorem spec_l2Match.text : Text Go.Proofs.Try.prog spec_l2Match.F spec_l2Match.spec := ⟨⟨Go.Proofs.Try.f159, by kernel_rfl, by kernel_rfl, by decide +kernel, by kernel_rfl, by kernel_rfl, of_decide_eq_true (by kernel_rfl)⟩, fun _ => rfl, fun _ => rfl, rfl⟩
theorem spec_l2Match.ok : CtrOK Go.Proofs.Try.prog gl spec_l2Match.spec :=
  ctr_ok (T := spec_l2Match.T) (F := spec_l2Match.F) (lb := spec_l2Match.lb) (st := spec_l2Match.st) (step := spec_l2Match.step) (md := spec_l2Match.md) tabs spec_l2Match.text spec_l2Match.seg_eq (fun n x => ⟨.p0 x.1 x.2.1, rfl, rfl, rfl⟩) (consC spec_l2Fits.ok (nilC))

/-! loop.example/g00039/spec.l2All -/
def spec_l2All.T : List Ctr := [spec_l2Of.spec, spec_l2Match.spec]
def spec_l2All.md : List (Nat × List Md) := []
noncomputable def spec_l2All.F : Fun := ⟨(Go.Proofs.Try.f100.body).getD .skip, [.v (.sl false (.pair .str (.pair (.int .i64) (.pair .str .unit)))), .v (.sl false (.pair .str (.pair .str .unit)))], [(.tmp 4, .bool)], [], 0, [(7, ⟨[1, 7, 8, 9], [(7, (.pair .str (.pair (.int .i64) (.pair .str .unit))))], []⟩)]⟩
inductive spec_l2All.Pt where
  | p0 (a0 : List ((ByteArray) × ((Int) × ((ByteArray) × (Unit))))) (a1 : List ((ByteArray) × ((ByteArray) × (Unit))))
  | p7 (y1 : List ((ByteArray) × ((ByteArray) × (Unit)))) (y2 : List ((ByteArray) × ((Int) × ((ByteArray) × (Unit))))) (y3 : Int) (y4 : Int)
def spec_l2All.lb : spec_l2All.Pt → Nat
  | .p0 _ _ => 0
  | .p7 _ _ _ _ => 7
def spec_l2All.st : spec_l2All.Pt → St
  | .p0 a0 a1 => enter [.v (.sl false (.pair .str (.pair (.int .i64) (.pair .str .unit)))) a0, .v (.sl false (.pair .str (.pair .str .unit))) a1] 0
  | .p7 y1 y2 y3 y4 => ⟨[(1, .im (.sl false (.pair .str (.pair .str .unit))) y1), (7, .im (.sl false (.pair .str (.pair (.int .i64) (.pair .str .unit)))) y2), (8, .im (.int .i64) y3), (9, .im (.int .i64) y4)], [], 0⟩
def spec_l2All.step (n : Nat) (K : spec_l2All.Pt → Option (Tup [.bool])) : spec_l2All.Pt → Option (Tup [.bool])
  | .p0 a0 a1 => K (.p7 a1 a0 ((List.length a0) : Int) (0 : Int))
  | .p7 y1 y2 y3 y4 => cond (decide (y4 < y3)) (cond (inB y4 (List.length y2)) ((spec_l2Of n y1 (List.getD y2 (Int.toNat y4) default).1).bind fun r7 => (spec_l2Match n (List.getD y2 (Int.toNat y4) default) r7).bind fun r8 => cond (!r8) (some false) (K (.p7 y1 y2 y3 (IntKind.wrap .i64 (y4 + (1 : Int)))))) (none)) (some true)
def spec_l2All (n : Nat) (a0 : List ((ByteArray) × ((Int) × ((ByteArray) × (Unit))))) (a1 : List ((ByteArray) × ((ByteArray) × (Unit)))) : Option (Tup [.bool]) := goRec spec_l2All.step n (.p0 a0 a1)
def spec_l2All.spec : Ctr := ⟨100, [.v (.sl false (.pair .str (.pair (.int .i64) (.pair .str .unit)))), .v (.sl false (.pair .str (.pair .str .unit)))], [.bool], [], fun n x => spec_l2All n x.1 x.2.1⟩
theorem spec_l2All.seg_eq (n : Nat) (goto : Nat → St → Option (Tup [.bool])) (y : spec_l2All.Pt) : seg ⟨ty, gl, spec_l2All.md, calOf spec_l2All.T n⟩ spec_l2All.F.np spec_l2All.F.ks goto (spec_l2All.F.fin ⟨ty, gl, spec_l2All.md, calOf spec_l2All.T 0⟩ [.bool]) spec_l2All.F.c (spec_l2All.lb y) (spec_l2All.st y) = spec_l2All.step n (fun z => goto (spec_l2All.lb z) (spec_l2All.st z)) y := by
  cases y <;> kernel_rfl
theorem spec_l2All.text : Text Go.Proofs.Try.prog spec_l2All.F spec_l2All.spec := ⟨⟨Go.Proofs.Try.f100, by kernel_rfl, by kernel_rfl, by decide +kernel, by kernel_rfl, by kernel_rfl, of_decide_eq_true (by kernel_rfl)⟩, fun _ => rfl, fun _ => rfl, rfl⟩
theorem spec_l2All.ok : CtrOK Go.Proofs.Try.prog gl spec_l2All.spec :=
  ctr_ok (T := spec_l2All.T) (F := spec_l2All.F) (lb := spec_l2All.lb) (st := spec_l2All.st) (step := spec_l2All.step) (md := spec_l2All.md) tabs spec_l2All.text spec_l2All.seg_eq (fun n x => ⟨.p0 x.1 x.2.1, rfl, rfl, rfl⟩) (consC spec_l2Of.ok (consC spec_l2Match.ok (nilC)))

/-! loop.example/g00039/spec.l19Silenced -/
def spec_l19Silenced.T : List Ctr := [spec_l2All.spec]
def spec_l19Silenced.md : List (Nat × List Md) := []
noncomputable def spec_l19Silenced.F : Fun := ⟨(Go.Proofs.Try.f49.body).getD .skip, [.v (.sl false (.pair .str (.pair (.sl false (.pair .str (.pair (.int .i64) (.pair .str .unit)))) (.pair (.int .i64) (.pair (.int .i64) .unit))))), .v (.sl false (.pair .str (.pair .str .unit))), .v (.int .i64)], [(.tmp 6, (.sl false .str))], [], 0, [(9, ⟨[1, 2, 7, 10, 11, 12], [(7, .str), (10, (.pair .str (.pair (.sl false (.pair .str (.pair (.int .i64) (.pair .str .unit)))) (.pair (.int .i64) (.pair (.int .i64) .unit)))))], []⟩), (20, ⟨[1, 2, 7, 9, 10, 11, 12, 31], [(7, .str), (10, (.pair .str (.pair (.sl false (.pair .str (.pair (.int .i64) (.pair .str .unit)))) (.pair (.int .i64) (.pair (.int .i64) .unit)))))], [(9, 1, (.pair .str (.pair (.int .i64) (.pair .str .unit))))]⟩)]⟩
inductive spec_l19Silenced.Pt where
  | p0 (a0 : List ((ByteArray) × ((List ((ByteArray) × ((Int) × ((ByteArray) × (Unit))))) × ((Int) × ((Int) × (Unit)))))) (a1 : List ((ByteArray) × ((ByteArray) × (Unit)))) (a2 : Int)
  | p9 (y1 : List ((ByteArray) × ((ByteArray) × (Unit)))) (y2 : Int) (y3 : List ((ByteArray) × ((List ((ByteArray) × ((Int) × ((ByteArray) × (Unit))))) × ((Int) × ((Int) × (Unit)))))) (y4 : Int) (y5 : Int) (y6 : List (ByteArray))
  | p20 (y1 : List ((ByteArray) × ((ByteArray) × (Unit)))) (y2 : Int) (y3 : List ((ByteArray) × ((List ((ByteArray) × ((Int) × ((ByteArray) × (Unit))))) × ((Int) × ((Int) × (Unit)))))) (y4 : Int) (y5 : Int) (y6 : Bool) (y7 : List (ByteArray)) (y8 : ByteArray) (y9 : List ((ByteArray) × ((Int) × ((ByteArray) × (Unit))))) (y10 : Int) (y11 : Int)
def spec_l19Silenced.lb : spec_l19Silenced.Pt → Nat
  | .p0 _ _ _ => 0
  | .p9 _ _ _ _ _ _ => 9
  | .p20 _ _ _ _ _ _ _ _ _ _ _ => 20
def spec_l19Silenced.st : spec_l19Silenced.Pt → St
  | .p0 a0 a1 a2 => enter [.v (.sl false (.pair .str (.pair (.sl false (.pair .str (.pair (.int .i64) (.pair .str .unit)))) (.pair (.int .i64) (.pair (.int .i64) .unit))))) a0, .v (.sl false (.pair .str (.pair .str .unit))) a1, .v (.int .i64) a2] 0
  | .p9 y1 y2 y3 y4 y5 y6 => ⟨[(1, .im (.sl false (.pair .str (.pair .str .unit))) y1), (2, .im (.int .i64) y2), (7, .hs 0 [] none 0), (10, .im (.sl false (.pair .str (.pair (.sl false (.pair .str (.pair (.int .i64) (.pair .str .unit)))) (.pair (.int .i64) (.pair (.int .i64) .unit))))) y3), (11, .im (.int .i64) y4), (12, .im (.int .i64) y5)], [(0, .arr true .str y6 0)], 1⟩
  | .p20 y1 y2 y3 y4 y5 y6 y7 y8 y9 y10 y11 => ⟨[(1, .im (.sl false (.pair .str (.pair .str .unit))) y1), (2, .im (.int .i64) y2), (7, .hs 0 [] none 0), (9, .po 1 0), (10, .im (.sl false (.pair .str (.pair (.sl false (.pair .str (.pair (.int .i64) (.pair .str .unit)))) (.pair (.int .i64) (.pair (.int .i64) .unit))))) y3), (11, .im (.int .i64) y4), (12, .im (.int .i64) y5), (31, .im .bool y6)], [(0, .arr true .str y7 0), (1, .obj [.im .str y8, .im (.sl false (.pair .str (.pair (.int .i64) (.pair .str .unit)))) y9, .im (.int .i64) y10, .im (.int .i64) y11])], 2⟩
def spec_l19Silenced.step (n : Nat) (K : spec_l19Silenced.Pt → Option (Tup [(.sl false .str)])) : spec_l19Silenced.Pt → Option (Tup [(.sl false .str)])
  | .p0 a0 a1 a2 => K (.p9 a1 a2 a0 ((List.length a0) : Int) (0 : Int) ([] : List (ByteArray)))
  | .p9 y1 y2 y3 y4 y5 y6 => cond (decide (y5 < y4)) (cond (inB y5 (List.length y3)) ((spec_l2All n (List.getD y3 (Int.toNat y5) default).2.1 y1).bind fun r9 => cond r9 (cond (decide ((List.getD y3 (Int.toNat y5) default).2.2.1 ≤ y2)) (K (.p20 y1 y2 y3 y4 y5 (decide (y2 ≤ (List.getD y3 (Int.toNat y5) default).2.2.2.1)) y6 (List.getD y3 (Int.toNat y5) default).1 (List.getD y3 (Int.toNat y5) default).2.1 (List.getD y3 (Int.toNat y5) default).2.2.1 (List.getD y3 (Int.toNat y5) default).2.2.2.1)) (K (.p20 y1 y2 y3 y4 y5 false y6 (List.getD y3 (Int.toNat y5) default).1 (List.getD y3 (Int.toNat y5) default).2.1 (List.getD y3 (Int.toNat y5) default).2.2.1 (List.getD y3 (Int.toNat y5) default).2.2.2.1))) (K (.p20 y1 y2 y3 y4 y5 false y6 (List.getD y3 (Int.toNat y5) default).1 (List.getD y3 (Int.toNat y5) default).2.1 (List.getD y3 (Int.toNat y5) default).2.2.1 (List.getD y3 (Int.toNat y5) default).2.2.2.1))) (none)) (some y6)
  | .p20 y1 y2 y3 y4 y5 y6 y7 y8 y9 y10 y11 => cond y6 (cond (room ((List.length y7) + (List.length [y8]))) (K (.p9 y1 y2 y3 y4 (IntKind.wrap .i64 (y5 + (1 : Int))) (y7 ++ [y8]))) (none)) (K (.p9 y1 y2 y3 y4 (IntKind.wrap .i64 (y5 + (1 : Int))) y7))
def spec_l19Silenced (n : Nat) (a0 : List ((ByteArray) × ((List ((ByteArray) × ((Int) × ((ByteArray) × (Unit))))) × ((Int) × ((Int) × (Unit)))))) (a1 : List ((ByteArray) × ((ByteArray) × (Unit)))) (a2 : Int) : Option (Tup [(.sl false .str)]) := goRec spec_l19Silenced.step n (.p0 a0 a1 a2)
def spec_l19Silenced.spec : Ctr := ⟨49, [.v (.sl false (.pair .str (.pair (.sl false (.pair .str (.pair (.int .i64) (.pair .str .unit)))) (.pair (.int .i64) (.pair (.int .i64) .unit))))), .v (.sl false (.pair .str (.pair .str .unit))), .v (.int .i64)], [(.sl false .str)], [], fun n x => spec_l19Silenced n x.1 x.2.1 x.2.2.1⟩
theorem spec_l19Silenced.seg_eq (n : Nat) (goto : Nat → St → Option (Tup [(.sl false .str)])) (y : spec_l19Silenced.Pt) : seg ⟨ty, gl, spec_l19Silenced.md, calOf spec_l19Silenced.T n⟩ spec_l19Silenced.F.np spec_l19Silenced.F.ks goto (spec_l19Silenced.F.fin ⟨ty, gl, spec_l19Silenced.md, calOf spec_l19Silenced.T 0⟩ [(.sl false .str)]) spec_l19Silenced.F.c (spec_l19Silenced.lb y) (spec_l19Silenced.st y) = spec_l19Silenced.step n (fun z => goto (spec_l19Silenced.lb z) (spec_l19Silenced.st z)) y := by
  cases y <;> kernel_rfl
theorem spec_l19Silenced.text : Text Go.Proofs.Try.prog spec_l19Silenced.F spec_l19Silenced.spec := ⟨⟨Go.Proofs.Try.f49, by kernel_rfl, by kernel_rfl, by decide +kernel, by kernel_rfl, by kernel_rfl, of_decide_eq_true (by kernel_rfl)⟩, fun _ => rfl, fun _ => rfl, rfl⟩
theorem spec_l19Silenced.ok : CtrOK Go.Proofs.Try.prog gl spec_l19Silenced.spec :=
  ctr_ok (T := spec_l19Silenced.T) (F := spec_l19Silenced.F) (lb := spec_l19Silenced.lb) (st := spec_l19Silenced.st) (step := spec_l19Silenced.step) (md := spec_l19Silenced.md) tabs spec_l19Silenced.text spec_l19Silenced.seg_eq (fun n x => ⟨.p0 x.1 x.2.1 x.2.2.1, rfl, rfl, rfl⟩) (consC spec_l2All.ok (nilC))

/-! loop.example/g00039/spec.Silenced -/
def spec_Silenced.T : List Ctr := [spec_l3Time.spec, spec_GoodSilences.spec, spec_GoodLabels.spec, spec_l19Silenced.spec]
def spec_Silenced.md : List (Nat × List Md) := []
noncomputable def spec_Silenced.F : Fun := ⟨(Go.Proofs.Try.f9.body).getD .skip, [.v (.sl false (.pair .str (.pair (.sl false (.pair .str (.pair (.int .i64) (.pair .str .unit)))) (.pair (.int .i64) (.pair (.int .i64) .unit))))), .v (.sl false (.pair .str (.pair .str .unit))), .v (.int .i64)], [(.tmp 6, (.sl false .str))], [], 0, [(4, ⟨[0, 1, 2, 19], [], []⟩)]⟩
inductive spec_Silenced.Pt where
  | p0 (a0 : List ((ByteArray) × ((List ((ByteArray) × ((Int) × ((ByteArray) × (Unit))))) × ((Int) × ((Int) × (Unit)))))) (a1 : List ((ByteArray) × ((ByteArray) × (Unit)))) (a2 : Int)
  | p4 (y1 : List ((ByteArray) × ((List ((ByteArray) × ((Int) × ((ByteArray) × (Unit))))) × ((Int) × ((Int) × (Unit)))))) (y2 : List ((ByteArray) × ((ByteArray) × (Unit)))) (y3 : Int) (y4 : Bool)
def spec_Silenced.lb : spec_Silenced.Pt → Nat
  | .p0 _ _ _ => 0
  | .p4 _ _ _ _ => 4
def spec_Silenced.st : spec_Silenced.Pt → St
  | .p0 a0 a1 a2 => enter [.v (.sl false (.pair .str (.pair (.sl false (.pair .str (.pair (.int .i64) (.pair .str .unit)))) (.pair (.int .i64) (.pair (.int .i64) .unit))))) a0, .v (.sl false (.pair .str (.pair .str .unit))) a1, .v (.int .i64) a2] 0
  | .p4 y1 y2 y3 y4 => ⟨[(0, .im (.sl false (.pair .str (.pair (.sl false (.pair .str (.pair (.int .i64) (.pair .str .unit)))) (.pair (.int .i64) (.pair (.int .i64) .unit))))) y1), (1, .im (.sl false (.pair .str (.pair .str .unit))) y2), (2, .im (.int .i64) y3), (19, .im .bool y4)], [], 0⟩
def spec_Silenced.step (n : Nat) (K : spec_Silenced.Pt → Option (Tup [(.sl false .str)])) : spec_Silenced.Pt → Option (Tup [(.sl false .str)])
  | .p0 a0 a1 a2 => (spec_GoodSilences n a0).bind fun r6 => cond (!r6) (K (.p4 a0 a1 a2 true)) ((spec_GoodLabels n a1).bind fun r7 => cond (!r7) (K (.p4 a0 a1 a2 true)) ((spec_l3Time n a2).bind fun r8 => K (.p4 a0 a1 a2 (!r8))))
  | .p4 y1 y2 y3 y4 => cond y4 (some ([] : List (ByteArray))) ((spec_l19Silenced n y1 y2 y3).bind fun r7 => some r7)
def spec_Silenced (n : Nat) (a0 : List ((ByteArray) × ((List ((ByteArray) × ((Int) × ((ByteArray) × (Unit))))) × ((Int) × ((Int) × (Unit)))))) (a1 : List ((ByteArray) × ((ByteArray) × (Unit)))) (a2 : Int) : Option (Tup [(.sl false .str)]) := goRec spec_Silenced.step n (.p0 a0 a1 a2)
def spec_Silenced.spec : Ctr := ⟨9, [.v (.sl false (.pair .str (.pair (.sl false (.pair .str (.pair (.int .i64) (.pair .str .unit)))) (.pair (.int .i64) (.pair (.int .i64) .unit))))), .v (.sl false (.pair .str (.pair .str .unit))), .v (.int .i64)], [(.sl false .str)], [], fun n x => spec_Silenced n x.1 x.2.1 x.2.2.1⟩
theorem spec_Silenced.seg_eq (n : Nat) (goto : Nat → St → Option (Tup [(.sl false .str)])) (y : spec_Silenced.Pt) : seg ⟨ty, gl, spec_Silenced.md, calOf spec_Silenced.T n⟩ spec_Silenced.F.np spec_Silenced.F.ks goto (spec_Silenced.F.fin ⟨ty, gl, spec_Silenced.md, calOf spec_Silenced.T 0⟩ [(.sl false .str)]) spec_Silenced.F.c (spec_Silenced.lb y) (spec_Silenced.st y) = spec_Silenced.step n (fun z => goto (spec_Silenced.lb z) (spec_Silenced.st z)) y := by
  cases y <;> kernel_rfl
theorem spec_Silenced.text : Text Go.Proofs.Try.prog spec_Silenced.F spec_Silenced.spec := ⟨⟨Go.Proofs.Try.f9, by kernel_rfl, by kernel_rfl, by decide +kernel, by kernel_rfl, by kernel_rfl, of_decide_eq_true (by kernel_rfl)⟩, fun _ => rfl, fun _ => rfl, rfl⟩
theorem spec_Silenced.ok : CtrOK Go.Proofs.Try.prog gl spec_Silenced.spec :=
  ctr_ok (T := spec_Silenced.T) (F := spec_Silenced.F) (lb := spec_Silenced.lb) (st := spec_Silenced.st) (step := spec_Silenced.step) (md := spec_Silenced.md) tabs spec_Silenced.text spec_Silenced.seg_eq (fun n x => ⟨.p0 x.1 x.2.1 x.2.2.1, rfl, rfl, rfl⟩) (consC spec_l3Time.ok (consC spec_GoodSilences.ok (consC spec_GoodLabels.ok (consC spec_l19Silenced.ok (nilC)))))

/-! loop.example/g00039/impl.digitByte -/
def impl_digitByte.T : List Ctr := []
def impl_digitByte.md : List (Nat × List Md) := []
noncomputable def impl_digitByte.F : Fun := ⟨(Go.Proofs.Try.f161.body).getD .skip, [.v (.int .u8)], [(.tmp 2, .bool)], [], 0, []⟩
inductive impl_digitByte.Pt where
  | p0 (a0 : Int)
def impl_digitByte.lb : impl_digitByte.Pt → Nat
  | .p0 _ => 0
def impl_digitByte.st : impl_digitByte.Pt → St
  | .p0 a0 => enter [.v (.int .u8) a0] 0
def impl_digitByte.step (n : Nat) (K : impl_digitByte.Pt → Option (Tup [.bool])) : impl_digitByte.Pt → Option (Tup [.bool])
  | .p0 a0 => cond (decide ((48 : Int) ≤ a0)) (some (decide (a0 ≤ (57 : Int)))) (some false)
def impl_digitByte (n : Nat) (a0 : Int) : Option (Tup [.bool]) := goRec impl_digitByte.step n (.p0 a0)
def impl_digitByte.spec : Ctr := ⟨161, [.v (.int .u8)], [.bool], [], fun n x => impl_digitByte n x.1⟩
theorem impl_digitByte.seg_eq (n : Nat) (goto : Nat → St → Option (Tup [.bool])) (y : impl_digitByte.Pt) : seg ⟨ty, gl, impl_digitByte.md, calOf impl_digitByte.T n⟩ impl_digitByte.F.np impl_digitByte.F.ks goto (impl_digitByte.F.fin ⟨ty, gl, impl_digitByte.md, calOf impl_digitByte.T 0⟩ [.bool]) impl_digitByte.F.c (impl_digitByte.lb y) (impl_digitByte.st y) = impl_digitByte.step n (fun z => goto (impl_digitByte.lb z) (impl_digitByte.st z)) y := by
  cases y <;> kernel_rfl
theorem impl_digitByte.text : Text Go.Proofs.Try.prog impl_digitByte.F impl_digitByte.spec := ⟨⟨Go.Proofs.Try.f161, by kernel_rfl, by kernel_rfl, by decide +kernel, by kernel_rfl, by kernel_rfl, of_decide_eq_true (by kernel_rfl)⟩, fun _ => rfl, fun _ => rfl, rfl⟩
theorem impl_digitByte.ok : CtrOK Go.Proofs.Try.prog gl impl_digitByte.spec :=
  ctr_ok (T := impl_digitByte.T) (F := impl_digitByte.F) (lb := impl_digitByte.lb) (st := impl_digitByte.st) (step := impl_digitByte.step) (md := impl_digitByte.md) tabs impl_digitByte.text impl_digitByte.seg_eq (fun n x => ⟨.p0 x.1, rfl, rfl, rfl⟩) (nilC)

/-! loop.example/g00039/impl.letterByte -/
def impl_letterByte.T : List Ctr := []
def impl_letterByte.md : List (Nat × List Md) := []
noncomputable def impl_letterByte.F : Fun := ⟨(Go.Proofs.Try.f196.body).getD .skip, [.v (.int .u8)], [(.tmp 2, .bool)], [], 0, []⟩
inductive impl_letterByte.Pt where
  | p0 (a0 : Int)
def impl_letterByte.lb : impl_letterByte.Pt → Nat
  | .p0 _ => 0
def impl_letterByte.st : impl_letterByte.Pt → St
  | .p0 a0 => enter [.v (.int .u8) a0] 0
def impl_letterByte.step (n : Nat) (K : impl_letterByte.Pt → Option (Tup [.bool])) : impl_letterByte.Pt → Option (Tup [.bool])
  | .p0 a0 => cond (decide ((97 : Int) ≤ a0)) (cond (decide (a0 ≤ (122 : Int))) (some true) (cond (decide ((65 : Int) ≤ a0)) (some (decide (a0 ≤ (90 : Int)))) (some false))) (cond (decide ((65 : Int) ≤ a0)) (some (decide (a0 ≤ (90 : Int)))) (some false))
def impl_letterByte (n : Nat) (a0 : Int) : Option (Tup [.bool]) := goRec impl_letterByte.step n (.p0 a0)
def impl_letterByte.spec : Ctr := ⟨196, [.v (.int .u8)], [.bool], [], fun n x => impl_letterByte n x.1⟩
theorem impl_letterByte.seg_eq (n : Nat) (goto : Nat → St → Option (Tup [.bool])) (y : impl_letterByte.Pt) : seg ⟨ty, gl, impl_letterByte.md, calOf impl_letterByte.T n⟩ impl_letterByte.F.np impl_letterByte.F.ks goto (impl_letterByte.F.fin ⟨ty, gl, impl_letterByte.md, calOf impl_letterByte.T 0⟩ [.bool]) impl_letterByte.F.c (impl_letterByte.lb y) (impl_letterByte.st y) = impl_letterByte.step n (fun z => goto (impl_letterByte.lb z) (impl_letterByte.st z)) y := by
  cases y <;> kernel_rfl
theorem impl_letterByte.text : Text Go.Proofs.Try.prog impl_letterByte.F impl_letterByte.spec := ⟨⟨Go.Proofs.Try.f196, by kernel_rfl, by kernel_rfl, by decide +kernel, by kernel_rfl, by kernel_rfl, of_decide_eq_true (by kernel_rfl)⟩, fun _ => rfl, fun _ => rfl, rfl⟩
theorem impl_letterByte.ok : CtrOK Go.Proofs.Try.prog gl impl_letterByte.spec :=
  ctr_ok (T := impl_letterByte.T) (F := impl_letterByte.F) (lb := impl_letterByte.lb) (st := impl_letterByte.st) (step := impl_letterByte.step) (md := impl_letterByte.md) tabs impl_letterByte.text impl_letterByte.seg_eq (fun n x => ⟨.p0 x.1, rfl, rfl, rfl⟩) (nilC)

/-! loop.example/g00039/impl.wordByte -/
def impl_wordByte.T : List Ctr := [impl_digitByte.spec, impl_letterByte.spec]
def impl_wordByte.md : List (Nat × List Md) := []
noncomputable def impl_wordByte.F : Fun := ⟨(Go.Proofs.Try.f162.body).getD .skip, [.v (.int .u8)], [(.tmp 2, .bool)], [], 0, []⟩
inductive impl_wordByte.Pt where
  | p0 (a0 : Int)
def impl_wordByte.lb : impl_wordByte.Pt → Nat
  | .p0 _ => 0
def impl_wordByte.st : impl_wordByte.Pt → St
  | .p0 a0 => enter [.v (.int .u8) a0] 0
def impl_wordByte.step (n : Nat) (K : impl_wordByte.Pt → Option (Tup [.bool])) : impl_wordByte.Pt → Option (Tup [.bool])
  | .p0 a0 => (impl_letterByte n a0).bind fun r4 => cond r4 (some true) ((impl_digitByte n a0).bind fun r5 => cond r5 (some true) (some (decide (a0 = (95 : Int)))))
def impl_wordByte (n : Nat) (a0 : Int) : Option (Tup [.bool]) := goRec impl_wordByte.step n (.p0 a0)
def impl_wordByte.spec : Ctr := ⟨162, [.v (.int .u8)], [.bool], [], fun n x => impl_wordByte n x.1⟩
theorem impl_wordByte.seg_eq (n : Nat) (goto : Nat → St → Option (Tup [.bool])) (y : impl_wordByte.Pt) : seg ⟨ty, gl, impl_wordByte.md, calOf impl_wordByte.T n⟩ impl_wordByte.F.np impl_wordByte.F.ks goto (impl_wordByte.F.fin ⟨ty, gl, impl_wordByte.md, calOf impl_wordByte.T 0⟩ [.bool]) impl_wordByte.F.c (impl_wordByte.lb y) (impl_wordByte.st y) = impl_wordByte.step n (fun z => goto (impl_wordByte.lb z) (impl_wordByte.st z)) y := by
  cases y <;> kernel_rfl
theorem impl_wordByte.text : Text Go.Proofs.Try.prog impl_wordByte.F impl_wordByte.spec := ⟨⟨Go.Proofs.Try.f162, by kernel_rfl, by kernel_rfl, by decide +kernel, by kernel_rfl, by kernel_rfl, of_decide_eq_true (by kernel_rfl)⟩, fun _ => rfl, fun _ => rfl, rfl⟩
theorem impl_wordByte.ok : CtrOK Go.Proofs.Try.prog gl impl_wordByte.spec :=
  ctr_ok (T := impl_wordByte.T) (F := impl_wordByte.F) (lb := impl_wordByte.lb) (st := impl_wordByte.st) (step := impl_wordByte.step) (md := impl_wordByte.md) tabs impl_wordByte.text impl_wordByte.seg_eq (fun n x => ⟨.p0 x.1, rfl, rfl, rfl⟩) (consC impl_digitByte.ok (consC impl_letterByte.ok (nilC)))

/-! loop.example/g00039/impl.isName -/
def impl_isName.T : List Ctr := [impl_digitByte.spec, impl_wordByte.spec]
def impl_isName.md : List (Nat × List Md) := []
noncomputable def impl_isName.F : Fun := ⟨(Go.Proofs.Try.f102.body).getD .skip, [.v .str], [(.tmp 2, .bool)], [], 0, [(4, ⟨[0, 15], [], []⟩), (15, ⟨[0, 17, 18], [], []⟩)]⟩
inductive impl_isName.Pt where
  | p0 (a0 : ByteArray)
  | p4 (y1 : ByteArray) (y2 : Bool)
  | p15 (y1 : ByteArray) (y2 : Int) (y3 : Int)
def impl_isName.lb : impl_isName.Pt → Nat
  | .p0 _ => 0
  | .p4 _ _ => 4
  | .p15 _ _ _ => 15
def impl_isName.st : impl_isName.Pt → St
  | .p0 a0 => enter [.v .str a0] 0
  | .p4 y1 y2 => ⟨[(0, .im .str y1), (15, .im .bool y2)], [], 0⟩
  | .p15 y1 y2 y3 => ⟨[(0, .im .str y1), (17, .im (.int .i64) y2), (18, .im (.int .i64) y3)], [], 0⟩
def impl_isName.step (n : Nat) (K : impl_isName.Pt → Option (Tup [.bool])) : impl_isName.Pt → Option (Tup [.bool])
  | .p0 a0 => cond (seq a0 (⟨#[]⟩ : ByteArray)) (K (.p4 a0 true)) (cond (decide ((40 : Int) < ((ByteArray.size a0) : Int))) (K (.p4 a0 true)) (cond (inB (0 : Int) (ByteArray.size a0)) ((impl_digitByte n (bt a0 (0 : Int))).bind fun r4 => K (.p4 a0 r4)) (none)))
  | .p4 y1 y2 => cond y2 (some false) (K (.p15 y1 ((ByteArray.size y1) : Int) (0 : Int)))
  | .p15 y1 y2 y3 => cond (decide (y3 < y2)) (cond (inB y3 (ByteArray.size y1)) ((impl_wordByte n (bt y1 y3)).bind fun r6 => cond (!r6) (some false) (K (.p15 y1 y2 (IntKind.wrap .i64 (y3 + (1 : Int)))))) (none)) (some true)
def impl_isName (n : Nat) (a0 : ByteArray) : Option (Tup [.bool]) := goRec impl_isName.step n (.p0 a0)
def impl_isName.spec : Ctr := ⟨102, [.v .str], [.bool], [], fun n x => impl_isName n x.1⟩
theorem impl_isName.seg_eq (n : Nat) (goto : Nat → St → Option (Tup [.bool])) (y : impl_isName.Pt) : seg ⟨ty, gl, impl_isName.md, calOf impl_isName.T n⟩ impl_isName.F.np impl_isName.F.ks goto (impl_isName.F.fin ⟨ty, gl, impl_isName.md, calOf impl_isName.T 0⟩ [.bool]) impl_isName.F.c (impl_isName.lb y) (impl_isName.st y) = impl_isName.step n (fun z => goto (impl_isName.lb z) (impl_isName.st z)) y := by
  cases y <;> kernel_rfl
theorem impl_isName.text : Text Go.Proofs.Try.prog impl_isName.F impl_isName.spec := ⟨⟨Go.Proofs.Try.f102, by kernel_rfl, by kernel_rfl, by decide +kernel, by kernel_rfl, by kernel_rfl, of_decide_eq_true (by kernel_rfl)⟩, fun _ => rfl, fun _ => rfl, rfl⟩
theorem impl_isName.ok : CtrOK Go.Proofs.Try.prog gl impl_isName.spec :=
  ctr_ok (T := impl_isName.T) (F := impl_isName.F) (lb := impl_isName.lb) (st := impl_isName.st) (step := impl_isName.step) (md := impl_isName.md) tabs impl_isName.text impl_isName.seg_eq (fun n x => ⟨.p0 x.1, rfl, rfl, rfl⟩) (consC impl_digitByte.ok (consC impl_wordByte.ok (nilC)))

/-! loop.example/g00039/impl.printed -/
def impl_printed.T : List Ctr := []
def impl_printed.md : List (Nat × List Md) := []
noncomputable def impl_printed.F : Fun := ⟨(Go.Proofs.Try.f166.body).getD .skip, [.v .str, .v (.int .i64)], [(.tmp 4, .bool)], [], 0, [(15, ⟨[0, 11, 12], [], []⟩)]⟩
inductive impl_printed.Pt where
  | p0 (a0 : ByteArray) (a1 : Int)
  | p15 (y1 : ByteArray) (y2 : Int) (y3 : Int)
def impl_printed.lb : impl_printed.Pt → Nat
  | .p0 _ _ => 0
  | .p15 _ _ _ => 15
def impl_printed.st : impl_printed.Pt → St
  | .p0 a0 a1 => enter [.v .str a0, .v (.int .i64) a1] 0
  | .p15 y1 y2 y3 => ⟨[(0, .im .str y1), (11, .im (.int .i64) y2), (12, .im (.int .i64) y3)], [], 0⟩
def impl_printed.step (n : Nat) (K : impl_printed.Pt → Option (Tup [.bool])) : impl_printed.Pt → Option (Tup [.bool])
  | .p0 a0 a1 => cond (decide (a1 < ((ByteArray.size a0) : Int))) (some false) (K (.p15 a0 ((ByteArray.size a0) : Int) (0 : Int)))
  | .p15 y1 y2 y3 => cond (decide (y3 < y2)) (cond (inB y3 (ByteArray.size y1)) (cond (decide ((bt y1 y3) < (32 : Int))) (some false) (cond (inB y3 (ByteArray.size y1)) (cond (decide ((126 : Int) < (bt y1 y3))) (some false) (K (.p15 y1 y2 (IntKind.wrap .i64 (y3 + (1 : Int)))))) (none))) (none)) (some true)
def impl_printed (n : Nat) (a0 : ByteArray) (a1 : Int) : Option (Tup [.bool]) := goRec impl_printed.step n (.p0 a0 a1)
def impl_printed.spec : Ctr := ⟨166, [.v .str, .v (.int .i64)], [.bool], [], fun n x => impl_printed n x.1 x.2.1⟩
theorem impl_printed.seg_eq (n : Nat) (goto : Nat → St → Option (Tup [.bool])) (y : impl_printed.Pt) : seg ⟨ty, gl, impl_printed.md, calOf impl_printed.T n⟩ impl_printed.F.np impl_printed.F.ks goto (impl_printed.F.fin ⟨ty, gl, impl_printed.md, calOf impl_printed.T 0⟩ [.bool]) impl_printed.F.c (impl_printed.lb y) (impl_printed.st y) = impl_printed.step n (fun z => goto (impl_printed.lb z) (impl_printed.st z)) y := by
  cases y <;> kernel_rfl
theorem impl_printed.text : Text Go.Proofs.Try.prog impl_printed.F impl_printed.spec := ⟨⟨Go.Proofs.Try.f166, by kernel_rfl, by kernel_rfl, by decide +kernel, by kernel_rfl, by kernel_rfl, of_decide_eq_true (by kernel_rfl)⟩, fun _ => rfl, fun _ => rfl, rfl⟩
theorem impl_printed.ok : CtrOK Go.Proofs.Try.prog gl impl_printed.spec :=
  ctr_ok (T := impl_printed.T) (F := impl_printed.F) (lb := impl_printed.lb) (st := impl_printed.st) (step := impl_printed.step) (md := impl_printed.md) tabs impl_printed.text impl_printed.seg_eq (fun n x => ⟨.p0 x.1 x.2.1, rfl, rfl, rfl⟩) (nilC)

/-! strings.IndexByte -/
def strings_IndexByte (n : Nat) (a0 : ByteArray) (a1 : Int) : Option Int := hold n (some (Lib.indexByte a0.data.toList a1.toNat.toUInt8))
def strings_IndexByte.spec : Ctr := ⟨213, [.v .str, .v (.int .u8)], [.int .i64], [], fun n x => strings_IndexByte n x.1 x.2.1⟩
section
open Go.Proofs
def layIndexByte_ren : Go.Shelf.Ren := ⟨fun | 137 => 213 | 217 => 215 | 266 => 216 | n => n, fun | 9 => 9 | 5 => 5 | 3 => 3 | n => n, fun | n => n⟩
theorem layIndexByte : Go.Proofs.Lays.n137 Try.prog layIndexByte_ren where
  mixed := by kernel_rfl
  f137 := Try.func213.trans (congrArg some (by kernel_rfl))
  f217 := Try.func215.trans (congrArg some (by kernel_rfl))
  f266 := Try.func216.trans (congrArg some (by kernel_rfl))
  t3 := Try.underlying3
  a3 := Try.isAgg3
  z3 := Try.sizeOf3
  v3 := Try.zeroValue3
  t5 := Try.underlying5
  a5 := Try.isAgg5
  z5 := Try.sizeOf5
  v5 := Try.zeroValue5
  t9 := Try.underlying9
  a9 := Try.isAgg9
  z9 := Try.sizeOf9
  v9 := Try.zeroValue9

end
theorem strings_IndexByte.ok : CtrOK Go.Proofs.Try.prog gl strings_IndexByte.spec := by
  refine fun n => ⟨⟨Go.Proofs.Try.f213, by kernel_rfl, by kernel_rfl, by decide +kernel⟩, ?_⟩
  rintro ⟨a0, a1, ⟨⟩⟩ y hy
  obtain rfl := Option.some.inj (hold_some hy)
  intro w vs S L harg hL hSL hG
  change ArgsRep w [Arg.v .str a0, Arg.v (.int .u8) a1] vs S L at harg
  unfold ArgsRep at harg
  obtain ⟨v0, vr, S1, S2, L1, L2, rfl, rfl, rfl, h1, harg⟩ := harg
  unfold ArgsRep at harg
  obtain ⟨v1, vr, S3, S4, L3, L4, rfl, rfl, rfl, h2, harg⟩ := harg
  unfold ArgsRep at harg
  obtain ⟨rfl, rfl, rfl⟩ := harg
  unfold ArgRep at h1 h2
  obtain ⟨_, ⟨cs, rfl, rfl, rfl⟩, rfl⟩ := h1
  obtain ⟨_, ⟨cs, rfl, rfl, rfl⟩, rfl⟩ := h2
  refine (Go.Proofs.Any.strings_IndexByte layIndexByte a0 a1 w).mono ?_
  rintro e w' ⟨rfl, rfl⟩
  refine ⟨[.int .i64 (Lib.indexByte a0.data.toList a1.toNat.toUInt8)], [], [], rfl, ⟨_, [], [], [], rfl, rfl, rfl, ⟨rfl, rfl⟩, rfl, rfl⟩, ?_, by simp, by simp, rfl, rfl, rfl, Nat.le_refl _, fun _ _ _ => rfl⟩
  change OutsRep w' [Arg.v .str a0, Arg.v (.int .u8) a1] _ _ _
  simp only [OutsRep, OutRep]
  exact ⟨_, _, [], [], [], [], rfl, rfl, rfl, ⟨rfl, rfl⟩, _, _, [], [], [], [], rfl, rfl, rfl, ⟨rfl, rfl⟩, rfl, rfl⟩


/-! loop.example/g00039/impl.alternatives$1 -/
abbrev PC : U := .pair (.int .u8) (.pair .bool (.pair .bool .unit))
def impl_alternatives_1 (n : Nat) (a0 : PC.El) (a1 : List (List PC.El)) : Option (List (List PC.El)) :=
  hold n (cond (decide (a1 ≠ [] ∧ a1.length ≤ 1000000 ∧ (a1.getD (a1.length - 1) []).length ≤ 1000000)) (some (a1.set (a1.length - 1) (a1.getD (a1.length - 1) [] ++ [a0]))) none)
def impl_alternatives_1.spec : Ctr := ⟨212, [.v PC, .p (.sl false (.sl false PC))], [], [.sl false (.sl false PC)], fun n x => impl_alternatives_1 n x.1 x.2.1⟩
section
open Go.RowKit Go.Proofs
set_option maxHeartbeats 8000000 in
set_option maxRecDepth 100000 in
theorem put_calls (ht : TyOK Try.prog 223 (.sl false PC)) (c : Int) (x y : Bool) (b g q cap : Nat) (cur : Array Value) (v : Value) (l : List PC.El) (T1 T2 : TypeId) (fz : Nat × Nat) (F2 : List Nat) (W : World)
    (hb : W.heap[b]? = some (.cells #[.slice (some ⟨g, 0, none⟩) (q + 1) cap] T1 (0, 0))) (hg : W.heap[g]? = some (.cells cur T2 fz)) (hfz : ∀ j, j < cur.size → ¬ (fz.1 ≤ j ∧ j < fz.2))
    (hn2 : q ≤ 1000000) (hv : cur[q]? = some v) (hs : SlRep W true false 3 (Rep W true PC) l v F2) (hF2 : F2.Nodup) (hbF : b ∉ F2) (hgF : g ∉ F2) (hbg : b ≠ g) (hl : l.length ≤ 1000000) :
    Calls Try.prog 212 #[.agg #[.int .u8 c, .bool x, .bool y], .pointer (some ⟨b, 0, none⟩)] W fun e w' => e = .returned (.tuple #[]) ∧ ∃ v1 F3,
      SlRep w' true false 3 (Rep w' true PC) (l ++ [(c, x, y, ())]) v1 F3 ∧ F3.Nodup ∧ w'.heap[g]? = some (.cells (cur.setIfInBounds q v1) T2 fz) ∧ w'.os = W.os ∧ w'.tape = W.tape ∧ w'.output = W.output ∧ W.heap.size ≤ w'.heap.size ∧
      (∀ k, k < W.heap.size → k ≠ g → k ∉ F2 → w'.heap[k]? = W.heap[k]?) ∧ (∀ k ∈ F3, k < w'.heap.size ∧ (k < W.heap.size → k ∈ F2)) := by
  have e1 : wrap64 (((q + 1 : Nat) : Int) - 1) = (q : Int) := by unfold wrap64; omega
  have e2 : wrap64 (q : Int) = (q : Int) := by unfold wrap64; omega
  have hlt := lt_of_heap hb
  have hltg := lt_of_heap hg
  have hqs : q < cur.size := by
    rcases Nat.lt_or_ge q cur.size with h | h
    · exact h
    · rw [Array.getElem?_eq_none h] at hv; cases hv
  go_enter Try.func212, Try.ntmps212
  go_wp2
  have hbx : (W.alloc (.cells #[.int .u8 c, .bool x, .bool y] 222)).drew.heap[W.heap.size]? = some (.cells #[.int .u8 c, .bool x, .bool y] 222 (0, 0)) := alloc_new W _
  have hold : ∀ k, k < W.heap.size → (W.alloc (.cells #[.int .u8 c, .bool x, .bool y] 222)).drew.heap[k]? = W.heap[k]? := fun k hk => alloc_old W _ hk
  have hb1 := (hold b hlt).trans hb
  have hg1 := (hold g hltg).trans hg
  have hsz1 : (W.alloc (.cells #[.int .u8 c, .bool x, .bool y] 222)).drew.heap.size = W.heap.size + 1 := alloc_sz _ _
  have hFlt : ∀ k ∈ F2, k < W.heap.size := fun k hk => Rep.block_lt (u := .sl false PC) (cs := [v]) ⟨v, rfl, .inl hs⟩ k hk
  have hs1 : SlRep (W.alloc (.cells #[.int .u8 c, .bool x, .bool y] 222)).drew true false 3 (Rep (W.alloc (.cells #[.int .u8 c, .bool x, .bool y] 222)).drew true PC) l v F2 := SlRep.frame (u := PC) (fun k hk => hold k (hFlt k hk)) hs
  have hos1 : (W.alloc (.cells #[.int .u8 c, .bool x, .bool y] 222)).drew.os = W.os ∧ (W.alloc (.cells #[.int .u8 c, .bool x, .bool y] 222)).drew.tape = W.tape ∧ (W.alloc (.cells #[.int .u8 c, .bool x, .bool y] 222)).drew.output = W.output := ⟨rfl, rfl, rfl⟩
  refine start_ (n := 15) (S := fun w' => w'.cell? ⟨b, 0, none⟩ = some (.slice (some ⟨g, 0, none⟩) (q + 1) cap) ∧ w'.cell? ⟨g, q, none⟩ = some v ∧ w'.cell? ⟨W.heap.size, 0, none⟩ = some (.int .u8 c) ∧ w'.cell? ⟨W.heap.size, 1, none⟩ = some (.bool x) ∧ w'.cell? ⟨W.heap.size, 2, none⟩ = some (.bool y)) (ds := [14]) #[false, false, false, false, false, false, false, false, false, false, false, false, false, false, false] (by kernel_rfl) rfl rfl ⟨(cell_row hb1).trans rfl, (cell_row hg1).trans hv, (cell_row hbx).trans rfl, (cell_row hbx).trans rfl, (cell_row hbx).trans rfl⟩ (fun hHeld => ?_)
  generalize (W.alloc (.cells #[.int .u8 c, .bool x, .bool y] 222)).drew = W1 at hold hsz1 hbx hb1 hg1 hs1 hos1 hHeld ⊢
  refine take_ (i := 0) (N := some 3) (v := ?_) (a' := ?_) #[true, false, false, false, false, false, false, false, false, false, false, false, false, false, false] rfl rfl (by kernel_rfl) (fun _ _ _ h => h) (Or.inl ⟨by rfl, ?_⟩) hHeld ?_ ?_
  rotate_left
  · rintro w' ⟨s0, s1, s2, s3, s4⟩
    go_simp
    try with_reducible rfl
  rotate_left
  · simp only [Act.put, List.setIfInBounds_toArray, List.set_cons_zero, List.set_cons_succ, i64_w, i32_w]
    rfl
  refine take_ (i := 1) (N := some 4) (v := ?_) (a' := ?_) #[true, true, false, false, false, false, false, false, false, false, false, false, false, false, false] rfl rfl (by kernel_rfl) (fun _ _ _ h => h) (Or.inl ⟨by rfl, ?_⟩) hHeld ?_ ?_
  rotate_left
  · rintro w' ⟨s0, s1, s2, s3, s4⟩
    go_simp
    try with_reducible rfl
  rotate_left
  · simp only [Act.put, List.setIfInBounds_toArray, List.set_cons_zero, List.set_cons_succ, i64_w, i32_w]
    rfl
  refine pure_ (i := 2) (N := some 5) (v := ?_) (a' := ?_) #[true, true, true, false, false, false, false, false, false, false, false, false, false, false, false] rfl rfl (by kernel_rfl) (fun _ _ _ h => h) (Or.inl ⟨by rfl, ?_⟩) ?_ ?_
  rotate_left
  · intro w'
    go_simp
    try with_reducible rfl
  rotate_left
  · simp only [Act.put, List.setIfInBounds_toArray, List.set_cons_zero, List.set_cons_succ, i64_w, i32_w]
    rfl
  refine pure_ (i := 3) (N := some 6) (v := ?_) (a' := ?_) #[true, true, true, true, false, false, false, false, false, false, false, false, false, false, false] rfl rfl (by kernel_rfl) (fun _ _ _ h => h) (Or.inl ⟨by rfl, ?_⟩) ?_ ?_
  rotate_left
  · intro w'
    go_simp
    try with_reducible rfl
  rotate_left
  · simp only [Act.put, List.setIfInBounds_toArray, List.set_cons_zero, List.set_cons_succ, i64_w, i32_w]
    rfl
  refine take_ (i := 4) (N := some 7) (v := ?_) (a' := ?_) #[true, true, true, true, true, false, false, false, false, false, false, false, false, false, false] rfl rfl (by kernel_rfl) (fun _ _ _ h => h) (Or.inl ⟨by rfl, ?_⟩) hHeld ?_ ?_
  rotate_left
  · rintro w' ⟨s0, s1, s2, s3, s4⟩
    go_simp
    try with_reducible rfl
  rotate_left
  · simp only [Act.put, List.setIfInBounds_toArray, List.set_cons_zero, List.set_cons_succ, i64_w, i32_w]
    rfl
  refine take_ (i := 5) (N := some 8) (v := ?_) (a' := ?_) #[true, true, true, true, true, true, false, false, false, false, false, false, false, false, false] rfl rfl (by kernel_rfl) (fun _ _ _ h => h) (Or.inl ⟨by rfl, ?_⟩) hHeld ?_ ?_
  rotate_left
  · rintro w' ⟨s0, s1, s2, s3, s4⟩
    go_simp
    try with_reducible rfl
  rotate_left
  · simp only [Act.put, List.setIfInBounds_toArray, List.set_cons_zero, List.set_cons_succ, i64_w, i32_w]
    rfl
  refine pure_ (i := 6) (N := some 9) (v := ?_) (a' := ?_) #[true, true, true, true, true, true, true, false, false, false, false, false, false, false, false] rfl rfl (by kernel_rfl) (fun _ _ _ h => h) (Or.inl ⟨by rfl, ?_⟩) ?_ ?_
  rotate_left
  · intro w'
    go_simp
    try with_reducible rfl
  rotate_left
  · simp only [Act.put, List.setIfInBounds_toArray, List.set_cons_zero, List.set_cons_succ, i64_w, i32_w]
    rfl
  refine pure_ (i := 7) (N := some 10) (v := ?_) (a' := ?_) #[true, true, true, true, true, true, true, true, false, false, false, false, false, false, false] rfl rfl (by kernel_rfl) (fun _ _ _ h => h) (Or.inl ⟨by rfl, ?_⟩) ?_ ?_
  rotate_left
  · intro w'
    go_simp
    try with_reducible rfl
  rotate_left
  · simp only [Act.put, List.setIfInBounds_toArray, List.set_cons_zero, List.set_cons_succ, i64_w, i32_w]
    rfl
  refine pure_ (i := 8) (N := some 11) (v := ?_) (a' := ?_) #[true, true, true, true, true, true, true, true, true, false, false, false, false, false, false] rfl rfl (by kernel_rfl) (fun _ _ _ h => h) (Or.inl ⟨by rfl, ?_⟩) ?_ ?_
  rotate_left
  · intro w'
    go_simp
    rw [if_pos (by omega)]
  rotate_left
  · simp only [Act.put, List.setIfInBounds_toArray, List.set_cons_zero, List.set_cons_succ, i64_w, i32_w]
    rfl
  refine take_ (i := 9) (N := some 12) (v := ?_) (a' := ?_) #[true, true, true, true, true, true, true, true, true, true, false, false, false, false, false] rfl rfl (by kernel_rfl) (fun _ _ _ h => h) (Or.inl ⟨by rfl, ?_⟩) hHeld ?_ ?_
  rotate_left
  · rintro w' ⟨s0, s1, s2, s3, s4⟩
    go_simp
    try with_reducible rfl
  rotate_left
  · simp only [Act.put, List.setIfInBounds_toArray, List.set_cons_zero, List.set_cons_succ, i64_w, i32_w]
    rfl
  refine take_ (i := 10) (N := some 13) (v := ?_) (a' := ?_) #[true, true, true, true, true, true, true, true, true, true, true, false, false, false, false] rfl rfl (by kernel_rfl) (fun _ _ _ h => h) (Or.inl ⟨by rfl, ?_⟩) hHeld ?_ ?_
  rotate_left
  · rintro w' ⟨s0, s1, s2, s3, s4⟩
    go_simp
    try with_reducible rfl
  rotate_left
  · simp only [Act.put, List.setIfInBounds_toArray, List.set_cons_zero, List.set_cons_succ, i64_w, i32_w]
    rfl
  clear hHeld
  have hW2 : ∀ k, k < W1.heap.size → (W1.alloc (.cells #[.int .u8 c, .bool x, .bool y] 222)).heap[k]? = W1.heap[k]? := fun k hk => alloc_old W1 _ hk
  have hnew : (W1.alloc (.cells #[.int .u8 c, .bool x, .bool y] 222)).heap[W1.heap.size]? = some (.cells #[.int .u8 c, .bool x, .bool y] 222 (0, 0)) := alloc_new W1 _
  have hb2 := (hW2 b (lt_of_heap hb1)).trans hb1
  have hg2 := (hW2 g (lt_of_heap hg1)).trans hg1
  have hbx2 := (hW2 _ (lt_of_heap hbx)).trans hbx
  refine one_ (i := 11) (N := some 14) #[true, true, true, true, true, true, true, true, true, true, true, true, false, false, false] rfl rfl (by kernel_rfl) (by decide) (fun K hK => ?_)
  refine event_step (w1 := W1.alloc (.cells #[.int .u8 c, .bool x, .bool y] 222)) (v := .slice (some ⟨W1.heap.size, 0, none⟩) 1 1) (by rfl) (by first | (go_simp; done) | (go_simp; rfl)) ?_
  refine hK.out _ _ ⟨(cell_row hb2).trans rfl, (cell_row hg2).trans hv, (cell_row hbx2).trans rfl, (cell_row hbx2).trans rfl, (cell_row hbx2).trans rfl⟩ (fun hHeld => ?_)
  clear hK K hHeld
  refine norm_ (a' := ?_) ?_ ?_
  rotate_left
  · show Act.put _ (some 14) _ = _
    simp only [Act.put, List.setIfInBounds_toArray, List.set_cons_zero, List.set_cons_succ, i64_w, i32_w]
    rfl
  have hs2 : SlRep (W1.alloc (.cells #[.int .u8 c, .bool x, .bool y] 222)) true false 3 (Rep (W1.alloc (.cells #[.int .u8 c, .bool x, .bool y] 222)) true PC) l v F2 := SlRep.frame (u := PC) (fun k hk => hW2 k (by have := hFlt k hk; omega)) hs1
  obtain ⟨v1, w2, F3, hrun, hs3, hF3, ho1, ho2, ho3, hsz2, hfr, hF3b⟩ := append_run (P := Try.prog) (ty := 223) (t := 223) (e := false) (u := PC) (l := l) (m := [(c, x, y, ())]) (dd := ⟨W1.heap.size, 0, none⟩) (cs := [.int .u8 c, .bool x, .bool y]) ht rfl hs2 hF2
    ⟨[.int .u8 c, .bool x, .bool y], [], [], [], rfl, rfl, ⟨[.int .u8 c], [.bool x, .bool y], [], [], rfl, rfl, ⟨rfl, rfl⟩, [.bool x], [.bool y], [], [], rfl, rfl, ⟨rfl, rfl⟩, [.bool y], [], [], [], rfl, rfl, ⟨rfl, rfl⟩, rfl, rfl⟩, rfl, rfl⟩
    (cells_at (p := []) (q := []) rfl hnew rfl rfl) (by simp) (by simp; omega) 1
  have hsz3 : (W1.alloc (.cells #[.int .u8 c, .bool x, .bool y] 222)).heap.size = W1.heap.size + 1 := alloc_sz _ _
  refine one_ (i := 12) (N := some 15) #[true, true, true, true, true, true, true, true, true, true, true, true, true, false, false] rfl rfl (by kernel_rfl) (by decide) (fun K hK => ?_)
  refine event_step (w1 := w2) (v := v1) (by rfl) ?_ ?_
  · exact append_op (x := .tmp 12) (y := .tmp 14) (t := 223) rfl hrun
  have hb3 := (hfr b (by omega) hbF).trans hb2
  have hg3 := (hfr g (by omega) hgF).trans hg2
  have hbx3 := (hfr W.heap.size (by omega) (fun h => by have := hFlt _ h; omega)).trans hbx2
  refine hK.out _ _ ⟨(cell_row hb3).trans rfl, (cell_row hg3).trans hv, (cell_row hbx3).trans rfl, (cell_row hbx3).trans rfl, (cell_row hbx3).trans rfl⟩ (fun hHeld => ?_)
  clear hK K hHeld
  refine norm_ (a' := ?_) ?_ ?_
  rotate_left
  · show Act.put _ (some 15) _ = _
    simp only [Act.put, List.setIfInBounds_toArray, List.set_cons_zero, List.set_cons_succ, i64_w, i32_w]
    rfl
  refine pure_ (i := 13) (N := some 16) (v := ?_) (a' := ?_) #[true, true, true, true, true, true, true, true, true, true, true, true, true, true, false] rfl rfl (by kernel_rfl) (fun _ _ _ h => h) (Or.inl ⟨by rfl, ?_⟩) ?_ ?_
  rotate_left
  · intro w'
    go_simp
    rw [if_pos (by omega)]
  rotate_left
  · simp only [Act.put, List.setIfInBounds_toArray, List.set_cons_zero, List.set_cons_succ, i64_w, i32_w]
    rfl
  have hcq : w2.cell? ⟨g, q, none⟩ = some v := (cell_row hg3).trans hv
  have hfq : w2.frozen? ⟨g, q, none⟩ = false := frozen_row hg3 (hfz q hqs)
  obtain ⟨A1, n1, c1, e1'⟩ : ∃ A n c, v1 = Value.slice A n c := by
    rcases hs3 with ⟨h0, _⟩ | ⟨_, _, _, _, _, _, _, _, _, h0, _⟩ <;> exact ⟨_, _, _, h0⟩
  subst e1'
  refine last_ (i := 14) (N := none) #[true, true, true, true, true, true, true, true, true, true, true, true, true, true, true] rfl rfl (by kernel_rfl) (by decide) (fun K hK => ?_)
  refine skip_step (w1 := w2.setCell ⟨g, q, none⟩ (.slice A1 n1 c1)) (by rfl) rfl ?_ ?_
  · go_simp
  refine hK.out _ _ ?_
  clear hK K
  refine done_ (by kernel_rfl) ?_
  rw [setCell_put hg3]
  have hgF3 : g ∉ F3 := fun h => hgF ((hF3b g h).2 (by omega))
  have hoth : ∀ k, k ≠ g → (putB w2 g (.cells (cur.setIfInBounds q (.slice A1 n1 c1)) T2 fz)).heap[k]? = w2.heap[k]? := fun k hk => putB_other hk
  go_end0
  refine ⟨rfl, _, F3, SlRep.frame (u := PC) (fun k hk => hoth k (fun e => hgF3 (e ▸ hk))) hs3, hF3, putB_same (lt_of_heap hg3), ho1.trans hos1.1, ho2.trans hos1.2.1, ho3.trans hos1.2.2, by rw [putB_sz]; omega, ?_, ?_⟩
  · intro k hk hkg hkF
    rw [hoth k hkg, hfr k (by omega) hkF, hW2 k (by omega), hold k hk]
  · intro k hk
    have := hF3b k hk
    rw [putB_sz]
    exact ⟨this.1, fun h => this.2 (by omega)⟩
theorem impl_alternatives_1.ok : CtrOK Try.prog gl impl_alternatives_1.spec := by
  have ht : TyOK Try.prog 223 (.sl false PC) := tabs.ty _ _ (by kernel_rfl)
  intro n
  refine ⟨⟨Try.f212, by kernel_rfl, by kernel_rfl, by decide +kernel⟩, ?_⟩
  rintro ⟨x, out, ⟨⟩⟩ y hy
  obtain ⟨hc, hy⟩ := cond_none (hold_some hy)
  simp only [decide_eq_true_eq] at hc
  obtain ⟨hne, hlen, hlast⟩ := hc
  have hy : out.set (out.length - 1) (out.getD (out.length - 1) [] ++ [x]) = y := Option.some.inj hy
  subst hy
  intro w vs S L harg hL hSL hG
  change ArgsRep w [Arg.v PC x, Arg.p (.sl false (.sl false PC)) out] vs S L at harg
  unfold ArgsRep at harg
  obtain ⟨v0, vr, S1, S2, L1, L2, rfl, rfl, rfl, h1, harg⟩ := harg
  unfold ArgsRep at harg
  obtain ⟨v1, vr, S3, S4, L3, L4, rfl, rfl, rfl, h2, harg⟩ := harg
  unfold ArgsRep at harg
  obtain ⟨rfl, rfl, rfl⟩ := harg
  unfold ArgRep at h1 h2
  obtain ⟨_, ⟨cs, rfl, c1, d1, G1, H1, rfl, rfl, ⟨rfl, rfl⟩, c2, d2, G2, H2, rfl, rfl, ⟨rfl, rfl⟩, c3, d3, G3, H3, rfl, rfl, ⟨rfl, rfl⟩, rfl, rfl⟩, rfl⟩ := h1
  obtain ⟨_, rfl, b, c, T1, G, rfl, hw, ⟨v, hcv, hs⟩, rfl⟩ := h2
  have hs := hs.resolve_right bare_no
  rcases hs with ⟨_, h0, _⟩ | ⟨ad, cap, cc, T2, fz, p, m, q, G0, rfl, hsp, _, hcap, hh, hcc, hp, hr, rfl, how⟩
  · exact absurd h0 hne
  obtain ⟨hoff, hfz, hcsz, hcm⟩ := how rfl
  have hp0 : p = [] := List.eq_nil_of_length_eq_zero (by omega)
  subst hp0
  have hlp : 0 < out.length := List.length_pos_iff.2 hne
  obtain ⟨m1, m2, m3, F1, F2, F3, rfl, rfl, hm1, ⟨v2, rfl, hs2⟩, hr1, hr3, _⟩ := RepL.at (n := 1) (fun _ _ _ h => Rep.length h) ([] : List PC.El) (out.length - 1) hr (by omega)
  have hs2 := hs2.resolve_right bare_no
  simp only [List.nil_append, List.append_nil] at hL hcc ⊢
  have hblk : ad = ⟨ad.block, 0, none⟩ := by
    obtain ⟨a1, a2, a3⟩ := ad
    simp only at hoff hsp
    rw [hoff, hsp]
  generalize ad.block = g at *
  subst hblk
  have hcarr : c = #[.slice (some ⟨g, 0, none⟩) (out.length - 1 + 1) cap] := by
    apply Array.toList_inj.1
    rw [hcv]
    simp; omega
  subst hcarr
  simp only [List.nodup_cons, List.nodup_append, List.mem_cons, List.mem_append, not_or] at hL
  obtain ⟨⟨hbg, ⟨hb1, hb2⟩, hb3⟩, ⟨⟨hg1, hg2⟩, hg3⟩, ⟨n1, n2, n12⟩, n3, n123⟩ := hL
  have hq1 : out.length - 1 < cc.size := by
    have := congrArg List.length hcc
    simp at this; omega
  have hcv2 : cc[out.length - 1]? = some v2 := by
    rw [← Array.getElem?_toList, hcc]
    simp [List.append_assoc, hm1, List.getElem?_append_right]
  have hput := put_calls ht x.1 x.2.1 x.2.2.1 b g (out.length - 1) cap cc v2 _ T1 T2 fz F2 w hw hh hfz (by omega) hcv2 hs2 n2 hb2 hg2 hbg hlast
  refine Calls.mono hput ?_
  rintro e w' ⟨rfl, v3, F4, hs3, hF4, hg', ho1, ho2, ho3, hsz, hfr, hF4b⟩
  have hblt : b < w.heap.size := lt_of_heap hw
  have hglt : g < w.heap.size := lt_of_heap hh
  have hlt1 : ∀ k ∈ F1, k < w.heap.size := fun k hk => RepL.block_lt (u := .sl false PC) (fun h => Rep.block_lt h) hr1 k hk
  have hlt3 : ∀ k ∈ F3, k < w.heap.size := fun k hk => RepL.block_lt (u := .sl false PC) (fun h => Rep.block_lt h) hr3 k hk
  have hfr1 : ∀ k ∈ F1, w'.heap[k]? = w.heap[k]? := fun k hk => hfr k (hlt1 k hk) (fun e => hg1 (e ▸ hk)) (fun h => n12 k hk k h rfl)
  have hfr3 : ∀ k ∈ F3, w'.heap[k]? = w.heap[k]? := fun k hk => hfr k (hlt3 k hk) (fun e => hg3 (e ▸ hk)) (fun h => n123 k (.inr h) k hk rfl)
  have hb' : w'.heap[b]? = w.heap[b]? := hfr b hblt hbg hb2
  have k1 := RepL.imp (R := Rep w true (.sl false PC)) (S := Rep w' true (.sl false PC)) (fun x c G hG h => Rep.frame (fun k hk => hfr1 k (hG k hk)) h) hr1
  have k3 := RepL.imp (R := Rep w true (.sl false PC)) (S := Rep w' true (.sl false PC)) (fun x c G hG h => Rep.frame (fun k hk => hfr3 k (hG k hk)) h) hr3
  have k2 : RepL (Rep w' true (.sl false PC)) [out.getD (out.length - 1) [] ++ [x]] [v3] F4 := ⟨[v3], [], F4, [], by simp, by simp, ⟨v3, rfl, .inl hs3⟩, rfl, rfl⟩
  have kk := RepL.append (RepL.append k1 k2) k3
  have hset : out.take (out.length - 1) ++ [out.getD (out.length - 1) [] ++ [x]] ++ out.drop (out.length - 1 + 1) = out.set (out.length - 1) (out.getD (out.length - 1) [] ++ [x]) := by
    rw [List.set_eq_take_append_cons_drop, if_pos (by omega)]; simp
  rw [hset] at kk
  have hF41 : ∀ k ∈ F4, k ∉ F1 ∧ k ∉ F3 ∧ k ≠ g ∧ k ≠ b := by
    intro k hk
    have h5 := hF4b k hk
    refine ⟨fun h => ?_, fun h => ?_, fun h => ?_, fun h => ?_⟩
    · exact n12 k h k (h5.2 (hlt1 k h)) rfl
    · exact n123 k (.inr (h5.2 (hlt3 k h))) k h rfl
    · subst h; exact hg2 (h5.2 hglt)
    · subst h; exact hb2 (h5.2 hblt)
  refine ⟨[], [], b :: g :: (F1 ++ F4 ++ F3), rfl, ⟨rfl, rfl⟩, ?_, ?_, ?_, ho1, ho2, ho3, hsz, ?_⟩
  · change OutsRep w' [Arg.v PC x, Arg.p (.sl false (.sl false PC)) out] _ _ _
    simp only [OutsRep, OutRep]
    refine ⟨_, _, [], _, [], _, rfl, rfl, rfl, ⟨rfl, rfl⟩, _, _, _, [], _, [], rfl, (List.append_nil _).symm, (List.append_nil _).symm, ⟨_, b, _, T1, g :: (F1 ++ F4 ++ F3), rfl, rfl, hb'.trans hw, ⟨_, rfl, .inl (.inr ⟨⟨g, 0, none⟩, cap, _, T2, fz, [], m1 ++ [v3] ++ m3, q, F1 ++ F4 ++ F3, ?_, rfl, by simp, ?_, hg', ?_, rfl, kk, rfl, fun _ => ⟨rfl, ?_, ?_, hcm⟩⟩)⟩, rfl⟩, rfl, rfl⟩
    · simp; omega
    · simp; omega
    · rw [Array.toList_setIfInBounds, hcc]
      simp only [List.append_assoc]
      rw [List.set_append_right _ _ (by omega), hm1]
      simp
    · intro j hj
      rw [Array.size_setIfInBounds] at hj
      exact hfz j hj
    · rw [Array.size_setIfInBounds]; exact hcsz
  · simp only [List.nil_append, List.nodup_cons, List.nodup_append, List.mem_cons, List.mem_append, not_or]
    refine ⟨⟨hbg, ⟨hb1, fun h => (hF41 b h).2.2.2 rfl⟩, hb3⟩, ⟨⟨hg1, fun h => (hF41 g h).2.2.1 rfl⟩, hg3⟩, ⟨n1, hF4, fun i hi j hj e => (hF41 j hj).1 (e ▸ hi)⟩, n3, fun i hi j hj e => ?_⟩
    rcases hi with hi | hi
    · exact n123 i (.inl hi) j hj e
    · exact (hF41 i hi).2.1 (e ▸ hj)
  · intro k hk
    simp only [List.nil_append, List.mem_cons, List.mem_append] at hk ⊢
    rcases hk with rfl | rfl | (hk | hk) | hk
    · exact ⟨by omega, fun _ => .inl rfl⟩
    · exact ⟨by omega, fun _ => .inr (.inl rfl)⟩
    · exact ⟨by have := hlt1 k hk; omega, fun _ => .inr (.inr (.inl (.inl hk)))⟩
    · exact ⟨(hF4b k hk).1, fun h => .inr (.inr (.inl (.inr ((hF4b k hk).2 h))))⟩
    · exact ⟨by have := hlt3 k hk; omega, fun _ => .inr (.inr (.inr hk))⟩
  · intro k hk hkL
    simp only [List.mem_cons, List.mem_append, not_or] at hkL
    exact hfr k hk hkL.2.1 hkL.2.2.1.2
end


/-! loop.example/g00039/impl.alternatives -/
def impl_alternatives.T : List Ctr := [impl_printed.spec, strings_IndexByte.spec, impl_alternatives_1.spec]
def impl_alternatives.md : List (Nat × List Md) := [(212, [.v, .p (.sl false (.sl false (.pair (.int .u8) (.pair .bool (.pair .bool .unit)))))]), (1000212, [.p (.sl false (.sl false (.pair (.int .u8) (.pair .bool (.pair .bool .unit)))))])]
noncomputable def impl_alternatives.F : Fun := ⟨(Go.Proofs.Try.f207.body).getD .skip, [.v .str], [(.tmp 2, (.sl false (.sl false (.pair (.int .u8) (.pair .bool (.pair .bool .unit)))))), (.tmp 3, .bool)], [], 0, [(19, ⟨[0, 4, 5, 6], [], [(4, 0, (.sl false (.pair (.int .u8) (.pair .bool (.pair .bool .unit)))))]⟩), (51, ⟨[0, 4, 5, 6, 56], [], [(4, 0, (.sl false (.pair (.int .u8) (.pair .bool (.pair .bool .unit)))))]⟩)]⟩
inductive impl_alternatives.Pt where
  | p0 (a0 : ByteArray)
  | p19 (y1 : ByteArray) (y2 : Int) (y3 : List (List ((Int) × ((Bool) × ((Bool) × (Unit))))))
  | p51 (y1 : ByteArray) (y2 : Int) (y3 : Bool) (y4 : List (List ((Int) × ((Bool) × ((Bool) × (Unit))))))
def impl_alternatives.lb : impl_alternatives.Pt → Nat
  | .p0 _ => 0
  | .p19 _ _ _ => 19
  | .p51 _ _ _ _ => 51
def impl_alternatives.st : impl_alternatives.Pt → St
  | .p0 a0 => enter [.v .str a0] 0
  | .p19 y1 y2 y3 => ⟨[(0, .im .str y1), (4, .po 0 0), (5, .fn 212 [.po 0 0]), (6, .im (.int .i64) y2)], [(0, .obj [.hs 1 [] none 0]), (1, .arr false (.sl false (.pair (.int .u8) (.pair .bool (.pair .bool .unit)))) y3 0)], 2⟩
  | .p51 y1 y2 y3 y4 => ⟨[(0, .im .str y1), (4, .po 0 0), (5, .fn 212 [.po 0 0]), (6, .im (.int .i64) y2), (56, .im .bool y3)], [(0, .obj [.hs 1 [] none 0]), (1, .arr false (.sl false (.pair (.int .u8) (.pair .bool (.pair .bool .unit)))) y4 0)], 2⟩
def impl_alternatives.step (n : Nat) (K : impl_alternatives.Pt → Option (Tup [(.sl false (.sl false (.pair (.int .u8) (.pair .bool (.pair .bool .unit))))), .bool])) : impl_alternatives.Pt → Option (Tup [(.sl false (.sl false (.pair (.int .u8) (.pair .bool (.pair .bool .unit))))), .bool])
  | .p0 a0 => (impl_printed n a0 (100 : Int)).bind fun r4 => cond (!r4) (some (([] : List (List ((Int) × ((Bool) × ((Bool) × (Unit)))))), false)) (K (.p19 a0 (0 : Int) [([] : List ((Int) × ((Bool) × ((Bool) × (Unit)))))]))
  | .p19 y1 y2 y3 => cond (decide (y2 < ((ByteArray.size y1) : Int))) (cond (inB y2 (ByteArray.size y1)) (cond (decide ((bt y1 y2) = (124 : Int))) (cond (room ((List.length y3) + (List.length [([] : List ((Int) × ((Bool) × ((Bool) × (Unit)))))]))) (K (.p19 y1 (IntKind.wrap .i64 (y2 + (1 : Int))) (y3 ++ [([] : List ((Int) × ((Bool) × ((Bool) × (Unit)))))]))) (none)) (cond (decide ((bt y1 y2) = (42 : Int))) ((impl_alternatives_1 n ((default : Int), ((default : Bool), (true, ()))) y3).bind fun r6 => K (.p19 y1 (IntKind.wrap .i64 (y2 + (1 : Int))) r6)) (cond (decide ((bt y1 y2) = (63 : Int))) ((impl_alternatives_1 n ((default : Int), (true, (default : (Bool) × (Unit)))) y3).bind fun r6 => K (.p19 y1 (IntKind.wrap .i64 (y2 + (1 : Int))) r6)) (cond (decide ((bt y1 y2) = (92 : Int))) (cond (decide ((IntKind.wrap .i64 (y2 + (1 : Int))) = ((ByteArray.size y1) : Int))) (K (.p51 y1 (IntKind.wrap .i64 (y2 + (1 : Int))) true y3)) (cond (inB (IntKind.wrap .i64 (y2 + (1 : Int))) (ByteArray.size y1)) ((strings_IndexByte n (⟨#[42, 63, 124, 92]⟩ : ByteArray) (bt y1 (IntKind.wrap .i64 (y2 + (1 : Int))))).bind fun (r6 : Int) => K (.p51 y1 (IntKind.wrap .i64 (y2 + (1 : Int))) (decide (r6 < (0 : Int))) y3)) (none))) ((impl_alternatives_1 n ((bt y1 y2), (default : (Bool) × ((Bool) × (Unit)))) y3).bind fun r6 => K (.p19 y1 (IntKind.wrap .i64 (y2 + (1 : Int))) r6)))))) (none)) (some (y3, true))
  | .p51 y1 y2 y3 y4 => cond y3 (some (([] : List (List ((Int) × ((Bool) × ((Bool) × (Unit)))))), false)) (cond (inB y2 (ByteArray.size y1)) ((impl_alternatives_1 n ((bt y1 y2), (default : (Bool) × ((Bool) × (Unit)))) y4).bind fun r7 => K (.p19 y1 (IntKind.wrap .i64 (y2 + (1 : Int))) r7)) (none))
def impl_alternatives (n : Nat) (a0 : ByteArray) : Option (Tup [(.sl false (.sl false (.pair (.int .u8) (.pair .bool (.pair .bool .unit))))), .bool]) := goRec impl_alternatives.step n (.p0 a0)
def impl_alternatives.spec : Ctr := ⟨207, [.v .str], [(.sl false (.sl false (.pair (.int .u8) (.pair .bool (.pair .bool .unit))))), .bool], [], fun n x => impl_alternatives n x.1⟩
theorem impl_alternatives.seg_eq (n : Nat) (goto : Nat → St → Option (Tup [(.sl false (.sl false (.pair (.int .u8) (.pair .bool (.pair .bool .unit))))), .bool])) (y : impl_alternatives.Pt) : seg ⟨ty, gl, impl_alternatives.md, calOf impl_alternatives.T n⟩ impl_alternatives.F.np impl_alternatives.F.ks goto (impl_alternatives.F.fin ⟨ty, gl, impl_alternatives.md, calOf impl_alternatives.T 0⟩ [(.sl false (.sl false (.pair (.int .u8) (.pair .bool (.pair .bool .unit))))), .bool]) impl_alternatives.F.c (impl_alternatives.lb y) (impl_alternatives.st y) = impl_alternatives.step n (fun z => goto (impl_alternatives.lb z) (impl_alternatives.st z)) y := by
  cases y <;> kernel_rfl
theorem impl_alternatives.text : Text Go.Proofs.Try.prog impl_alternatives.F impl_alternatives.spec := ⟨⟨Go.Proofs.Try.f207, by kernel_rfl, by kernel_rfl, by decide +kernel, by kernel_rfl, by kernel_rfl, of_decide_eq_true (by kernel_rfl)⟩, fun _ => rfl, fun _ => rfl, rfl⟩
theorem impl_alternatives.ok : CtrOK Go.Proofs.Try.prog gl impl_alternatives.spec :=
  ctr_ok (T := impl_alternatives.T) (F := impl_alternatives.F) (lb := impl_alternatives.lb) (st := impl_alternatives.st) (step := impl_alternatives.step) (md := impl_alternatives.md) tabs impl_alternatives.text impl_alternatives.seg_eq (fun n x => ⟨.p0 x.1, rfl, rfl, rfl⟩) (consC impl_printed.ok (consC strings_IndexByte.ok (consC impl_alternatives_1.ok (nilC))))

/-! loop.example/g00039/impl.GoodPattern -/
def impl_GoodPattern.T : List Ctr := [impl_alternatives.spec]
def impl_GoodPattern.md : List (Nat × List Md) := []
noncomputable def impl_GoodPattern.F : Fun := ⟨(Go.Proofs.Try.f198.body).getD .skip, [.v .str], [(.tmp 2, .bool)], [], 0, []⟩
inductive impl_GoodPattern.Pt where
  | p0 (a0 : ByteArray)
def impl_GoodPattern.lb : impl_GoodPattern.Pt → Nat
  | .p0 _ => 0
def impl_GoodPattern.st : impl_GoodPattern.Pt → St
  | .p0 a0 => enter [.v .str a0] 0
def impl_GoodPattern.step (n : Nat) (K : impl_GoodPattern.Pt → Option (Tup [.bool])) : impl_GoodPattern.Pt → Option (Tup [.bool])
  | .p0 a0 => (impl_alternatives n a0).bind fun r4 => some r4.2
def impl_GoodPattern (n : Nat) (a0 : ByteArray) : Option (Tup [.bool]) := goRec impl_GoodPattern.step n (.p0 a0)
def impl_GoodPattern.spec : Ctr := ⟨198, [.v .str], [.bool], [], fun n x => impl_GoodPattern n x.1⟩
theorem impl_GoodPattern.seg_eq (n : Nat) (goto : Nat → St → Option (Tup [.bool])) (y : impl_GoodPattern.Pt) : seg ⟨ty, gl, impl_GoodPattern.md, calOf impl_GoodPattern.T n⟩ impl_GoodPattern.F.np impl_GoodPattern.F.ks goto (impl_GoodPattern.F.fin ⟨ty, gl, impl_GoodPattern.md, calOf impl_GoodPattern.T 0⟩ [.bool]) impl_GoodPattern.F.c (impl_GoodPattern.lb y) (impl_GoodPattern.st y) = impl_GoodPattern.step n (fun z => goto (impl_GoodPattern.lb z) (impl_GoodPattern.st z)) y := by
  cases y <;> kernel_rfl
theorem impl_GoodPattern.text : Text Go.Proofs.Try.prog impl_GoodPattern.F impl_GoodPattern.spec := ⟨⟨Go.Proofs.Try.f198, by kernel_rfl, by kernel_rfl, by decide +kernel, by kernel_rfl, by kernel_rfl, of_decide_eq_true (by kernel_rfl)⟩, fun _ => rfl, fun _ => rfl, rfl⟩
theorem impl_GoodPattern.ok : CtrOK Go.Proofs.Try.prog gl impl_GoodPattern.spec :=
  ctr_ok (T := impl_GoodPattern.T) (F := impl_GoodPattern.F) (lb := impl_GoodPattern.lb) (st := impl_GoodPattern.st) (step := impl_GoodPattern.step) (md := impl_GoodPattern.md) tabs impl_GoodPattern.text impl_GoodPattern.seg_eq (fun n x => ⟨.p0 x.1, rfl, rfl, rfl⟩) (consC impl_alternatives.ok (nilC))

/-! loop.example/g00039/impl.goodMatcher -/
def impl_goodMatcher.T : List Ctr := [impl_isName.spec, impl_printed.spec, impl_GoodPattern.spec]
def impl_goodMatcher.md : List (Nat × List Md) := []
noncomputable def impl_goodMatcher.F : Fun := ⟨(Go.Proofs.Try.f165.body).getD .skip, [.v (.pair .str (.pair (.int .i64) (.pair .str .unit)))], [(.tmp 2, .bool)], [], 0, [(4, ⟨[1, 22], [], []⟩)]⟩
inductive impl_goodMatcher.Pt where
  | p0 (a0 : (ByteArray) × ((Int) × ((ByteArray) × (Unit))))
  | p4 (y1 : Bool) (y2 : ByteArray) (y3 : Int) (y4 : ByteArray)
def impl_goodMatcher.lb : impl_goodMatcher.Pt → Nat
  | .p0 _ => 0
  | .p4 _ _ _ _ => 4
def impl_goodMatcher.st : impl_goodMatcher.Pt → St
  | .p0 a0 => enter [.v (.pair .str (.pair (.int .i64) (.pair .str .unit))) a0] 0
  | .p4 y1 y2 y3 y4 => ⟨[(1, .po 0 0), (22, .im .bool y1)], [(0, .obj [.im .str y2, .im (.int .i64) y3, .im .str y4])], 1⟩
def impl_goodMatcher.step (n : Nat) (K : impl_goodMatcher.Pt → Option (Tup [.bool])) : impl_goodMatcher.Pt → Option (Tup [.bool])
  | .p0 a0 => (impl_isName n a0.1).bind fun r4 => cond (!r4) (K (.p4 true a0.1 a0.2.1 a0.2.2.1)) (cond (decide (a0.2.1 < (1 : Int))) (K (.p4 true a0.1 a0.2.1 a0.2.2.1)) (cond (decide ((4 : Int) < a0.2.1)) (K (.p4 true a0.1 a0.2.1 a0.2.2.1)) ((impl_printed n a0.2.2.1 (100 : Int)).bind fun r5 => K (.p4 (!r5) a0.1 a0.2.1 a0.2.2.1))))
  | .p4 y1 y2 y3 y4 => cond y1 (some false) (cond (decide (y3 < (3 : Int))) (some true) ((impl_GoodPattern n y4).bind fun r7 => some r7))
def impl_goodMatcher (n : Nat) (a0 : (ByteArray) × ((Int) × ((ByteArray) × (Unit)))) : Option (Tup [.bool]) := goRec impl_goodMatcher.step n (.p0 a0)
def impl_goodMatcher.spec : Ctr := ⟨165, [.v (.pair .str (.pair (.int .i64) (.pair .str .unit)))], [.bool], [], fun n x => impl_goodMatcher n x.1⟩
theorem impl_goodMatcher.seg_eq (n : Nat) (goto : Nat → St → Option (Tup [.bool])) (y : impl_goodMatcher.Pt) : seg ⟨ty, gl, impl_goodMatcher.md, calOf impl_goodMatcher.T n⟩ impl_goodMatcher.F.np impl_goodMatcher.F.ks goto (impl_goodMatcher.F.fin ⟨ty, gl, impl_goodMatcher.md, calOf impl_goodMatcher.T 0⟩ [.bool]) impl_goodMatcher.F.c (impl_goodMatcher.lb y) (impl_goodMatcher.st y) = impl_goodMatcher.step n (fun z => goto (impl_goodMatcher.lb z) (impl_goodMatcher.st z)) y := by
  cases y <;> kernel_rfl
theorem impl_goodMatcher.text : Text Go.Proofs.Try.prog impl_goodMatcher.F impl_goodMatcher.spec := ⟨⟨Go.Proofs.Try.f165, by kernel_rfl, by kernel_rfl, by decide +kernel, by kernel_rfl, by kernel_rfl, of_decide_eq_true (by kernel_rfl)⟩, fun _ => rfl, fun _ => rfl, rfl⟩
theorem impl_goodMatcher.ok : CtrOK Go.Proofs.Try.prog gl impl_goodMatcher.spec :=
  ctr_ok (T := impl_goodMatcher.T) (F := impl_goodMatcher.F) (lb := impl_goodMatcher.lb) (st := impl_goodMatcher.st) (step := impl_goodMatcher.step) (md := impl_goodMatcher.md) tabs impl_goodMatcher.text impl_goodMatcher.seg_eq (fun n x => ⟨.p0 x.1, rfl, rfl, rfl⟩) (consC impl_isName.ok (consC impl_printed.ok (consC impl_GoodPattern.ok (nilC))))

/-! loop.example/g00039/impl.GoodMatchers$1 -/
def impl_GoodMatchers_1.T : List Ctr := [impl_goodMatcher.spec]
def impl_GoodMatchers_1.md : List (Nat × List Md) := []
noncomputable def impl_GoodMatchers_1.F : Fun := ⟨(Go.Proofs.Try.f164.body).getD .skip, [.v (.pair .str (.pair (.int .i64) (.pair .str .unit)))], [(.tmp 2, .bool)], [], 0, []⟩
inductive impl_GoodMatchers_1.Pt where
  | p0 (a0 : (ByteArray) × ((Int) × ((ByteArray) × (Unit))))
def impl_GoodMatchers_1.lb : impl_GoodMatchers_1.Pt → Nat
  | .p0 _ => 0
def impl_GoodMatchers_1.st : impl_GoodMatchers_1.Pt → St
  | .p0 a0 => enter [.v (.pair .str (.pair (.int .i64) (.pair .str .unit))) a0] 0
def impl_GoodMatchers_1.step (n : Nat) (K : impl_GoodMatchers_1.Pt → Option (Tup [.bool])) : impl_GoodMatchers_1.Pt → Option (Tup [.bool])
  | .p0 a0 => (impl_goodMatcher n a0).bind fun r4 => some (!r4)
def impl_GoodMatchers_1 (n : Nat) (a0 : (ByteArray) × ((Int) × ((ByteArray) × (Unit)))) : Option (Tup [.bool]) := goRec impl_GoodMatchers_1.step n (.p0 a0)
def impl_GoodMatchers_1.spec : Ctr := ⟨164, [.v (.pair .str (.pair (.int .i64) (.pair .str .unit)))], [.bool], [], fun n x => impl_GoodMatchers_1 n x.1⟩
theorem impl_GoodMatchers_1.seg_eq (n : Nat) (goto : Nat → St → Option (Tup [.bool])) (y : impl_GoodMatchers_1.Pt) : seg ⟨ty, gl, impl_GoodMatchers_1.md, calOf impl_GoodMatchers_1.T n⟩ impl_GoodMatchers_1.F.np impl_GoodMatchers_1.F.ks goto (impl_GoodMatchers_1.F.fin ⟨ty, gl, impl_GoodMatchers_1.md, calOf impl_GoodMatchers_1.T 0⟩ [.bool]) impl_GoodMatchers_1.F.c (impl_GoodMatchers_1.lb y) (impl_GoodMatchers_1.st y) = impl_GoodMatchers_1.step n (fun z => goto (impl_GoodMatchers_1.lb z) (impl_GoodMatchers_1.st z)) y := by
  cases y <;> kernel_rfl
theorem impl_GoodMatchers_1.text : Text Go.Proofs.Try.prog impl_GoodMatchers_1.F impl_GoodMatchers_1.spec := ⟨⟨Go.Proofs.Try.f164, by kernel_rfl, by kernel_rfl, by decide +kernel, by kernel_rfl, by kernel_rfl, of_decide_eq_true (by kernel_rfl)⟩, fun _ => rfl, fun _ => rfl, rfl⟩
theorem impl_GoodMatchers_1.ok : CtrOK Go.Proofs.Try.prog gl impl_GoodMatchers_1.spec :=
  ctr_ok (T := impl_GoodMatchers_1.T) (F := impl_GoodMatchers_1.F) (lb := impl_GoodMatchers_1.lb) (st := impl_GoodMatchers_1.st) (step := impl_GoodMatchers_1.step) (md := impl_GoodMatchers_1.md) tabs impl_GoodMatchers_1.text impl_GoodMatchers_1.seg_eq (fun n x => ⟨.p0 x.1, rfl, rfl, rfl⟩) (consC impl_goodMatcher.ok (nilC))

/-! slices.IndexFunc[[]loop.example/g00039/impl.Matcher,loop.example/g00039/impl.Matcher] -/
def slices_IndexFunc_Matcher_impl_GoodMatchers_1.T : List Ctr := [impl_GoodMatchers_1.spec]
def slices_IndexFunc_Matcher_impl_GoodMatchers_1.md : List (Nat × List Md) := []
noncomputable def slices_IndexFunc_Matcher_impl_GoodMatchers_1.F : Fun := ⟨(Go.Proofs.Try.f197.body).getD .skip, [.v (.sl false (.pair .str (.pair (.int .i64) (.pair .str .unit)))), .fn 164 []], [(.tmp 4, (.int .i64))], [], 0, [(7, ⟨[0, 1, 7, 8], [], []⟩)]⟩
inductive slices_IndexFunc_Matcher_impl_GoodMatchers_1.Pt where
  | p0 (a0 : List ((ByteArray) × ((Int) × ((ByteArray) × (Unit)))))
  | p7 (y1 : List ((ByteArray) × ((Int) × ((ByteArray) × (Unit))))) (y2 : Int) (y3 : Int)
def slices_IndexFunc_Matcher_impl_GoodMatchers_1.lb : slices_IndexFunc_Matcher_impl_GoodMatchers_1.Pt → Nat
  | .p0 _ => 0
  | .p7 _ _ _ => 7
def slices_IndexFunc_Matcher_impl_GoodMatchers_1.st : slices_IndexFunc_Matcher_impl_GoodMatchers_1.Pt → St
  | .p0 a0 => enter [.v (.sl false (.pair .str (.pair (.int .i64) (.pair .str .unit)))) a0, .fn 164 []] 0
  | .p7 y1 y2 y3 => ⟨[(0, .im (.sl false (.pair .str (.pair (.int .i64) (.pair .str .unit)))) y1), (1, .fn 164 []), (7, .im (.int .i64) y2), (8, .im (.int .i64) y3)], [], 0⟩
def slices_IndexFunc_Matcher_impl_GoodMatchers_1.step (n : Nat) (K : slices_IndexFunc_Matcher_impl_GoodMatchers_1.Pt → Option (Tup [(.int .i64)])) : slices_IndexFunc_Matcher_impl_GoodMatchers_1.Pt → Option (Tup [(.int .i64)])
  | .p0 a0 => K (.p7 a0 ((List.length a0) : Int) (0 : Int))
  | .p7 y1 y2 y3 => cond (decide (y3 < y2)) (cond (inB y3 (List.length y1)) ((impl_GoodMatchers_1 n (List.getD y1 (Int.toNat y3) default)).bind fun r6 => cond r6 (some y3) (K (.p7 y1 y2 (IntKind.wrap .i64 (y3 + (1 : Int)))))) (none)) (some (-(1 : Int)))
def slices_IndexFunc_Matcher_impl_GoodMatchers_1 (n : Nat) (a0 : List ((ByteArray) × ((Int) × ((ByteArray) × (Unit))))) : Option (Tup [(.int .i64)]) := goRec slices_IndexFunc_Matcher_impl_GoodMatchers_1.step n (.p0 a0)
def slices_IndexFunc_Matcher_impl_GoodMatchers_1.spec : Ctr := ⟨197, [.v (.sl false (.pair .str (.pair (.int .i64) (.pair .str .unit)))), .fn 164 []], [(.int .i64)], [], fun n x => slices_IndexFunc_Matcher_impl_GoodMatchers_1 n x.1⟩
theorem slices_IndexFunc_Matcher_impl_GoodMatchers_1.seg_eq (n : Nat) (goto : Nat → St → Option (Tup [(.int .i64)])) (y : slices_IndexFunc_Matcher_impl_GoodMatchers_1.Pt) : seg ⟨ty, gl, slices_IndexFunc_Matcher_impl_GoodMatchers_1.md, calOf slices_IndexFunc_Matcher_impl_GoodMatchers_1.T n⟩ slices_IndexFunc_Matcher_impl_GoodMatchers_1.F.np slices_IndexFunc_Matcher_impl_GoodMatchers_1.F.ks goto (slices_IndexFunc_Matcher_impl_GoodMatchers_1.F.fin ⟨ty, gl, slices_IndexFunc_Matcher_impl_GoodMatchers_1.md, calOf slices_IndexFunc_Matcher_impl_GoodMatchers_1.T 0⟩ [(.int .i64)]) slices_IndexFunc_Matcher_impl_GoodMatchers_1.F.c (slices_IndexFunc_Matcher_impl_GoodMatchers_1.lb y) (slices_IndexFunc_Matcher_impl_GoodMatchers_1.st y) = slices_IndexFunc_Matcher_impl_GoodMatchers_1.step n (fun z => goto (slices_IndexFunc_Matcher_impl_GoodMatchers_1.lb z) (slices_IndexFunc_Matcher_impl_GoodMatchers_1.st z)) y := by
  cases y <;> kernel_rfl
theorem slices_IndexFunc_Matcher_impl_GoodMatchers_1.text : Text Go.Proofs.Try.prog slices_IndexFunc_Matcher_impl_GoodMatchers_1.F slices_IndexFunc_Matcher_impl_GoodMatchers_1.spec := ⟨⟨Go.Proofs.Try.f197, by kernel_rfl, by kernel_rfl, by decide +kernel, by kernel_rfl, by kernel_rfl, of_decide_eq_true (by kernel_rfl)⟩, fun _ => rfl, fun _ => rfl, rfl⟩
theorem slices_IndexFunc_Matcher_impl_GoodMatchers_1.ok : CtrOK Go.Proofs.Try.prog gl slices_IndexFunc_Matcher_impl_GoodMatchers_1.spec :=
  ctr_ok (T := slices_IndexFunc_Matcher_impl_GoodMatchers_1.T) (F := slices_IndexFunc_Matcher_impl_GoodMatchers_1.F) (lb := slices_IndexFunc_Matcher_impl_GoodMatchers_1.lb) (st := slices_IndexFunc_Matcher_impl_GoodMatchers_1.st) (step := slices_IndexFunc_Matcher_impl_GoodMatchers_1.step) (md := slices_IndexFunc_Matcher_impl_GoodMatchers_1.md) tabs slices_IndexFunc_Matcher_impl_GoodMatchers_1.text slices_IndexFunc_Matcher_impl_GoodMatchers_1.seg_eq (fun n x => ⟨.p0 x.1, rfl, rfl, rfl⟩) (consC impl_GoodMatchers_1.ok (nilC))

/-! slices.ContainsFunc[[]loop.example/g00039/impl.Matcher,loop.example/g00039/impl.Matcher] -/
def slices_ContainsFunc_Matcher_impl_GoodMatchers_1.T : List Ctr := [slices_IndexFunc_Matcher_impl_GoodMatchers_1.spec]
def slices_ContainsFunc_Matcher_impl_GoodMatchers_1.md : List (Nat × List Md) := [(197, [.v, .fn])]
noncomputable def slices_ContainsFunc_Matcher_impl_GoodMatchers_1.F : Fun := ⟨(Go.Proofs.Try.f163.body).getD .skip, [.v (.sl false (.pair .str (.pair (.int .i64) (.pair .str .unit)))), .fn 164 []], [(.tmp 4, .bool)], [], 0, []⟩
inductive slices_ContainsFunc_Matcher_impl_GoodMatchers_1.Pt where
  | p0 (a0 : List ((ByteArray) × ((Int) × ((ByteArray) × (Unit)))))
def slices_ContainsFunc_Matcher_impl_GoodMatchers_1.lb : slices_ContainsFunc_Matcher_impl_GoodMatchers_1.Pt → Nat
  | .p0 _ => 0
def slices_ContainsFunc_Matcher_impl_GoodMatchers_1.st : slices_ContainsFunc_Matcher_impl_GoodMatchers_1.Pt → St
  | .p0 a0 => enter [.v (.sl false (.pair .str (.pair (.int .i64) (.pair .str .unit)))) a0, .fn 164 []] 0
def slices_ContainsFunc_Matcher_impl_GoodMatchers_1.step (n : Nat) (K : slices_ContainsFunc_Matcher_impl_GoodMatchers_1.Pt → Option (Tup [.bool])) : slices_ContainsFunc_Matcher_impl_GoodMatchers_1.Pt → Option (Tup [.bool])
  | .p0 a0 => (slices_IndexFunc_Matcher_impl_GoodMatchers_1 n a0).bind fun (r4 : Int) => some (decide ((0 : Int) ≤ r4))
def slices_ContainsFunc_Matcher_impl_GoodMatchers_1 (n : Nat) (a0 : List ((ByteArray) × ((Int) × ((ByteArray) × (Unit))))) : Option (Tup [.bool]) := goRec slices_ContainsFunc_Matcher_impl_GoodMatchers_1.step n (.p0 a0)
def slices_ContainsFunc_Matcher_impl_GoodMatchers_1.spec : Ctr := ⟨163, [.v (.sl false (.pair .str (.pair (.int .i64) (.pair .str .unit)))), .fn 164 []], [.bool], [], fun n x => slices_ContainsFunc_Matcher_impl_GoodMatchers_1 n x.1⟩
theorem slices_ContainsFunc_Matcher_impl_GoodMatchers_1.seg_eq (n : Nat) (goto : Nat → St → Option (Tup [.bool])) (y : slices_ContainsFunc_Matcher_impl_GoodMatchers_1.Pt) : seg ⟨ty, gl, slices_ContainsFunc_Matcher_impl_GoodMatchers_1.md, calOf slices_ContainsFunc_Matcher_impl_GoodMatchers_1.T n⟩ slices_ContainsFunc_Matcher_impl_GoodMatchers_1.F.np slices_ContainsFunc_Matcher_impl_GoodMatchers_1.F.ks goto (slices_ContainsFunc_Matcher_impl_GoodMatchers_1.F.fin ⟨ty, gl, slices_ContainsFunc_Matcher_impl_GoodMatchers_1.md, calOf slices_ContainsFunc_Matcher_impl_GoodMatchers_1.T 0⟩ [.bool]) slices_ContainsFunc_Matcher_impl_GoodMatchers_1.F.c (slices_ContainsFunc_Matcher_impl_GoodMatchers_1.lb y) (slices_ContainsFunc_Matcher_impl_GoodMatchers_1.st y) = slices_ContainsFunc_Matcher_impl_GoodMatchers_1.step n (fun z => goto (slices_ContainsFunc_Matcher_impl_GoodMatchers_1.lb z) (slices_ContainsFunc_Matcher_impl_GoodMatchers_1.st z)) y := by
  cases y <;> kernel_rfl
theorem slices_ContainsFunc_Matcher_impl_GoodMatchers_1.text : Text Go.Proofs.Try.prog slices_ContainsFunc_Matcher_impl_GoodMatchers_1.F slices_ContainsFunc_Matcher_impl_GoodMatchers_1.spec := ⟨⟨Go.Proofs.Try.f163, by kernel_rfl, by kernel_rfl, by decide +kernel, by kernel_rfl, by kernel_rfl, of_decide_eq_true (by kernel_rfl)⟩, fun _ => rfl, fun _ => rfl, rfl⟩
theorem slices_ContainsFunc_Matcher_impl_GoodMatchers_1.ok : CtrOK Go.Proofs.Try.prog gl slices_ContainsFunc_Matcher_impl_GoodMatchers_1.spec :=
  ctr_ok (T := slices_ContainsFunc_Matcher_impl_GoodMatchers_1.T) (F := slices_ContainsFunc_Matcher_impl_GoodMatchers_1.F) (lb := slices_ContainsFunc_Matcher_impl_GoodMatchers_1.lb) (st := slices_ContainsFunc_Matcher_impl_GoodMatchers_1.st) (step := slices_ContainsFunc_Matcher_impl_GoodMatchers_1.step) (md := slices_ContainsFunc_Matcher_impl_GoodMatchers_1.md) tabs slices_ContainsFunc_Matcher_impl_GoodMatchers_1.text slices_ContainsFunc_Matcher_impl_GoodMatchers_1.seg_eq (fun n x => ⟨.p0 x.1, rfl, rfl, rfl⟩) (consC slices_IndexFunc_Matcher_impl_GoodMatchers_1.ok (nilC))

/-! loop.example/g00039/impl.GoodMatchers -/
def impl_GoodMatchers.T : List Ctr := [impl_GoodMatchers_1.spec, slices_ContainsFunc_Matcher_impl_GoodMatchers_1.spec]
def impl_GoodMatchers.md : List (Nat × List Md) := [(163, [.v, .fn])]
noncomputable def impl_GoodMatchers.F : Fun := ⟨(Go.Proofs.Try.f103.body).getD .skip, [.v (.sl false (.pair .str (.pair (.int .i64) (.pair .str .unit))))], [(.tmp 2, .bool)], [], 0, []⟩
inductive impl_GoodMatchers.Pt where
  | p0 (a0 : List ((ByteArray) × ((Int) × ((ByteArray) × (Unit)))))
def impl_GoodMatchers.lb : impl_GoodMatchers.Pt → Nat
  | .p0 _ => 0
def impl_GoodMatchers.st : impl_GoodMatchers.Pt → St
  | .p0 a0 => enter [.v (.sl false (.pair .str (.pair (.int .i64) (.pair .str .unit)))) a0] 0
def impl_GoodMatchers.step (n : Nat) (K : impl_GoodMatchers.Pt → Option (Tup [.bool])) : impl_GoodMatchers.Pt → Option (Tup [.bool])
  | .p0 a0 => cond (decide (((List.length a0) : Int) ≤ (10 : Int))) ((slices_ContainsFunc_Matcher_impl_GoodMatchers_1 n a0).bind fun r4 => some (!r4)) (some false)
def impl_GoodMatchers (n : Nat) (a0 : List ((ByteArray) × ((Int) × ((ByteArray) × (Unit))))) : Option (Tup [.bool]) := goRec impl_GoodMatchers.step n (.p0 a0)
def impl_GoodMatchers.spec : Ctr := ⟨103, [.v (.sl false (.pair .str (.pair (.int .i64) (.pair .str .unit))))], [.bool], [], fun n x => impl_GoodMatchers n x.1⟩
theorem impl_GoodMatchers.seg_eq (n : Nat) (goto : Nat → St → Option (Tup [.bool])) (y : impl_GoodMatchers.Pt) : seg ⟨ty, gl, impl_GoodMatchers.md, calOf impl_GoodMatchers.T n⟩ impl_GoodMatchers.F.np impl_GoodMatchers.F.ks goto (impl_GoodMatchers.F.fin ⟨ty, gl, impl_GoodMatchers.md, calOf impl_GoodMatchers.T 0⟩ [.bool]) impl_GoodMatchers.F.c (impl_GoodMatchers.lb y) (impl_GoodMatchers.st y) = impl_GoodMatchers.step n (fun z => goto (impl_GoodMatchers.lb z) (impl_GoodMatchers.st z)) y := by
  cases y <;> kernel_rfl
theorem impl_GoodMatchers.text : Text Go.Proofs.Try.prog impl_GoodMatchers.F impl_GoodMatchers.spec := ⟨⟨Go.Proofs.Try.f103, by kernel_rfl, by kernel_rfl, by decide +kernel, by kernel_rfl, by kernel_rfl, of_decide_eq_true (by kernel_rfl)⟩, fun _ => rfl, fun _ => rfl, rfl⟩
theorem impl_GoodMatchers.ok : CtrOK Go.Proofs.Try.prog gl impl_GoodMatchers.spec :=
  ctr_ok (T := impl_GoodMatchers.T) (F := impl_GoodMatchers.F) (lb := impl_GoodMatchers.lb) (st := impl_GoodMatchers.st) (step := impl_GoodMatchers.step) (md := impl_GoodMatchers.md) tabs impl_GoodMatchers.text impl_GoodMatchers.seg_eq (fun n x => ⟨.p0 x.1, rfl, rfl, rfl⟩) (consC impl_GoodMatchers_1.ok (consC slices_ContainsFunc_Matcher_impl_GoodMatchers_1.ok (nilC)))

/-! loop.example/g00039/impl.isTime -/
def impl_isTime.T : List Ctr := []
def impl_isTime.md : List (Nat × List Md) := []
noncomputable def impl_isTime.F : Fun := ⟨(Go.Proofs.Try.f54.body).getD .skip, [.v (.int .i64)], [(.tmp 2, .bool)], [], 0, []⟩
inductive impl_isTime.Pt where
  | p0 (a0 : Int)
def impl_isTime.lb : impl_isTime.Pt → Nat
  | .p0 _ => 0
def impl_isTime.st : impl_isTime.Pt → St
  | .p0 a0 => enter [.v (.int .i64) a0] 0
def impl_isTime.step (n : Nat) (K : impl_isTime.Pt → Option (Tup [.bool])) : impl_isTime.Pt → Option (Tup [.bool])
  | .p0 a0 => cond (decide ((0 : Int) ≤ a0)) (some (decide (a0 ≤ (1000000000000 : Int)))) (some false)
def impl_isTime (n : Nat) (a0 : Int) : Option (Tup [.bool]) := goRec impl_isTime.step n (.p0 a0)
def impl_isTime.spec : Ctr := ⟨54, [.v (.int .i64)], [.bool], [], fun n x => impl_isTime n x.1⟩
theorem impl_isTime.seg_eq (n : Nat) (goto : Nat → St → Option (Tup [.bool])) (y : impl_isTime.Pt) : seg ⟨ty, gl, impl_isTime.md, calOf impl_isTime.T n⟩ impl_isTime.F.np impl_isTime.F.ks goto (impl_isTime.F.fin ⟨ty, gl, impl_isTime.md, calOf impl_isTime.T 0⟩ [.bool]) impl_isTime.F.c (impl_isTime.lb y) (impl_isTime.st y) = impl_isTime.step n (fun z => goto (impl_isTime.lb z) (impl_isTime.st z)) y := by
  cases y <;> kernel_rfl
theorem impl_isTime.text : Text Go.Proofs.Try.prog impl_isTime.F impl_isTime.spec := ⟨⟨Go.Proofs.Try.f54, by kernel_rfl, by kernel_rfl, by decide +kernel, by kernel_rfl, by kernel_rfl, of_decide_eq_true (by kernel_rfl)⟩, fun _ => rfl, fun _ => rfl, rfl⟩
theorem impl_isTime.ok : CtrOK Go.Proofs.Try.prog gl impl_isTime.spec :=
  ctr_ok (T := impl_isTime.T) (F := impl_isTime.F) (lb := impl_isTime.lb) (st := impl_isTime.st) (step := impl_isTime.step) (md := impl_isTime.md) tabs impl_isTime.text impl_isTime.seg_eq (fun n x => ⟨.p0 x.1, rfl, rfl, rfl⟩) (nilC)

/-! loop.example/g00039/impl.GoodSilences -/
def impl_GoodSilences.T : List Ctr := [impl_isName.spec, impl_GoodMatchers.spec, impl_isTime.spec]
def impl_GoodSilences.md : List (Nat × List Md) := []
noncomputable def impl_GoodSilences.F : Fun := ⟨(Go.Proofs.Try.f52.body).getD .skip, [.v (.sl false (.pair .str (.pair (.sl false (.pair .str (.pair (.int .i64) (.pair .str .unit)))) (.pair (.int .i64) (.pair (.int .i64) .unit)))))], [(.tmp 2, .bool)], [], 0, [(15, ⟨[0, 8, 9, 10], [(8, (.pair .str (.pair (.sl false (.pair .str (.pair (.int .i64) (.pair .str .unit)))) (.pair (.int .i64) (.pair (.int .i64) .unit)))))], []⟩), (26, ⟨[0, 8, 9, 10, 64], [(8, (.pair .str (.pair (.sl false (.pair .str (.pair (.int .i64) (.pair .str .unit)))) (.pair (.int .i64) (.pair (.int .i64) .unit)))))], []⟩)]⟩
inductive impl_GoodSilences.Pt where
  | p0 (a0 : List ((ByteArray) × ((List ((ByteArray) × ((Int) × ((ByteArray) × (Unit))))) × ((Int) × ((Int) × (Unit))))))
  | p15 (y1 : List ((ByteArray) × ((List ((ByteArray) × ((Int) × ((ByteArray) × (Unit))))) × ((Int) × ((Int) × (Unit)))))) (y2 : List ((ByteArray) × ((List ((ByteArray) × ((Int) × ((ByteArray) × (Unit))))) × ((Int) × ((Int) × (Unit)))))) (y3 : Int) (y4 : Int)
  | p26 (y1 : List ((ByteArray) × ((List ((ByteArray) × ((Int) × ((ByteArray) × (Unit))))) × ((Int) × ((Int) × (Unit)))))) (y2 : List ((ByteArray) × ((List ((ByteArray) × ((Int) × ((ByteArray) × (Unit))))) × ((Int) × ((Int) × (Unit)))))) (y3 : Int) (y4 : Int) (y5 : Bool)
def impl_GoodSilences.lb : impl_GoodSilences.Pt → Nat
  | .p0 _ => 0
  | .p15 _ _ _ _ => 15
  | .p26 _ _ _ _ _ => 26
def impl_GoodSilences.st : impl_GoodSilences.Pt → St
  | .p0 a0 => enter [.v (.sl false (.pair .str (.pair (.sl false (.pair .str (.pair (.int .i64) (.pair .str .unit)))) (.pair (.int .i64) (.pair (.int .i64) .unit))))) a0] 0
  | .p15 y1 y2 y3 y4 => ⟨[(0, .im (.sl false (.pair .str (.pair (.sl false (.pair .str (.pair (.int .i64) (.pair .str .unit)))) (.pair (.int .i64) (.pair (.int .i64) .unit))))) y1), (8, .im (.sl false (.pair .str (.pair (.sl false (.pair .str (.pair (.int .i64) (.pair .str .unit)))) (.pair (.int .i64) (.pair (.int .i64) .unit))))) y2), (9, .im (.int .i64) y3), (10, .im (.int .i64) y4)], [], 0⟩
  | .p26 y1 y2 y3 y4 y5 => ⟨[(0, .im (.sl false (.pair .str (.pair (.sl false (.pair .str (.pair (.int .i64) (.pair .str .unit)))) (.pair (.int .i64) (.pair (.int .i64) .unit))))) y1), (8, .im (.sl false (.pair .str (.pair (.sl false (.pair .str (.pair (.int .i64) (.pair .str .unit)))) (.pair (.int .i64) (.pair (.int .i64) .unit))))) y2), (9, .im (.int .i64) y3), (10, .im (.int .i64) y4), (64, .im .bool y5)], [], 0⟩
def impl_GoodSilences.step (n : Nat) (K : impl_GoodSilences.Pt → Option (Tup [.bool])) : impl_GoodSilences.Pt → Option (Tup [.bool])
  | .p0 a0 => cond (decide ((50 : Int) < ((List.length a0) : Int))) (some false) (K (.p15 a0 a0 ((List.length a0) : Int) (0 : Int)))
  | .p15 y1 y2 y3 y4 => cond (decide (y4 < y3)) (cond (inB y4 (List.length y2)) ((impl_isName n (List.getD y2 (Int.toNat y4) default).1).bind fun r7 => cond (!r7) (K (.p26 y1 y2 y3 y4 true)) (cond (decide ((0 : Int) < y4)) (cond (inB (IntKind.wrap .i64 (y4 - (1 : Int))) (List.length y1)) (cond (!(slt (List.getD y1 (Int.toNat (IntKind.wrap .i64 (y4 - (1 : Int)))) default).1 (List.getD y2 (Int.toNat y4) default).1)) (K (.p26 y1 y2 y3 y4 true)) (cond (decide (((List.length (List.getD y2 (Int.toNat y4) default).2.1) : Int) = (0 : Int))) (K (.p26 y1 y2 y3 y4 true)) ((impl_GoodMatchers n (List.getD y2 (Int.toNat y4) default).2.1).bind fun r8 => cond (!r8) (K (.p26 y1 y2 y3 y4 true)) ((impl_isTime n (List.getD y2 (Int.toNat y4) default).2.2.1).bind fun r9 => cond (!r9) (K (.p26 y1 y2 y3 y4 true)) ((impl_isTime n (List.getD y2 (Int.toNat y4) default).2.2.2.1).bind fun r10 => cond (!r10) (K (.p26 y1 y2 y3 y4 true)) (K (.p26 y1 y2 y3 y4 (decide ((List.getD y2 (Int.toNat y4) default).2.2.2.1 < (List.getD y2 (Int.toNat y4) default).2.2.1))))))))) (none)) (cond (decide (((List.length (List.getD y2 (Int.toNat y4) default).2.1) : Int) = (0 : Int))) (K (.p26 y1 y2 y3 y4 true)) ((impl_GoodMatchers n (List.getD y2 (Int.toNat y4) default).2.1).bind fun r8 => cond (!r8) (K (.p26 y1 y2 y3 y4 true)) ((impl_isTime n (List.getD y2 (Int.toNat y4) default).2.2.1).bind fun r9 => cond (!r9) (K (.p26 y1 y2 y3 y4 true)) ((impl_isTime n (List.getD y2 (Int.toNat y4) default).2.2.2.1).bind fun r10 => cond (!r10) (K (.p26 y1 y2 y3 y4 true)) (K (.p26 y1 y2 y3 y4 (decide ((List.getD y2 (Int.toNat y4) default).2.2.2.1 < (List.getD y2 (Int.toNat y4) default).2.2.1)))))))))) (none)) (some true)
  | .p26 y1 y2 y3 y4 y5 => cond y5 (some false) (K (.p15 y1 y2 y3 (IntKind.wrap .i64 (y4 + (1 : Int)))))
def impl_GoodSilences (n : Nat) (a0 : List ((ByteArray) × ((List ((ByteArray) × ((Int) × ((ByteArray) × (Unit))))) × ((Int) × ((Int) × (Unit)))))) : Option (Tup [.bool]) := goRec impl_GoodSilences.step n (.p0 a0)
def impl_GoodSilences.spec : Ctr := ⟨52, [.v (.sl false (.pair .str (.pair (.sl false (.pair .str (.pair (.int .i64) (.pair .str .unit)))) (.pair (.int .i64) (.pair (.int .i64) .unit)))))], [.bool], [], fun n x => impl_GoodSilences n x.1⟩
theorem impl_GoodSilences.seg_eq (n : Nat) (goto : Nat → St → Option (Tup [.bool])) (y : impl_GoodSilences.Pt) : seg ⟨ty, gl, impl_GoodSilences.md, calOf impl_GoodSilences.T n⟩ impl_GoodSilences.F.np impl_GoodSilences.F.ks goto (impl_GoodSilences.F.fin ⟨ty, gl, impl_GoodSilences.md, calOf impl_GoodSilences.T 0⟩ [.bool]) impl_GoodSilences.F.c (impl_GoodSilences.lb y) (impl_GoodSilences.st y) = impl_GoodSilences.step n (fun z => goto (impl_GoodSilences.lb z) (impl_GoodSilences.st z)) y := by
  cases y <;> kernel_rfl
theorem impl_GoodSilences.text : Text Go.Proofs.Try.prog impl_GoodSilences.F impl_GoodSilences.spec := ⟨⟨Go.Proofs.Try.f52, by kernel_rfl, by kernel_rfl, by decide +kernel, by kernel_rfl, by kernel_rfl, of_decide_eq_true (by kernel_rfl)⟩, fun _ => rfl, fun _ => rfl, rfl⟩
theorem impl_GoodSilences.ok : CtrOK Go.Proofs.Try.prog gl impl_GoodSilences.spec :=
  ctr_ok (T := impl_GoodSilences.T) (F := impl_GoodSilences.F) (lb := impl_GoodSilences.lb) (st := impl_GoodSilences.st) (step := impl_GoodSilences.step) (md := impl_GoodSilences.md) tabs impl_GoodSilences.text impl_GoodSilences.seg_eq (fun n x => ⟨.p0 x.1, rfl, rfl, rfl⟩) (consC impl_isName.ok (consC impl_GoodMatchers.ok (consC impl_isTime.ok (nilC))))

/-! loop.example/g00039/impl.isValue -/
def impl_isValue.T : List Ctr := [impl_printed.spec]
def impl_isValue.md : List (Nat × List Md) := []
noncomputable def impl_isValue.F : Fun := ⟨(Go.Proofs.Try.f104.body).getD .skip, [.v .str], [(.tmp 2, .bool)], [], 0, []⟩
inductive impl_isValue.Pt where
  | p0 (a0 : ByteArray)
def impl_isValue.lb : impl_isValue.Pt → Nat
  | .p0 _ => 0
def impl_isValue.st : impl_isValue.Pt → St
  | .p0 a0 => enter [.v .str a0] 0
def impl_isValue.step (n : Nat) (K : impl_isValue.Pt → Option (Tup [.bool])) : impl_isValue.Pt → Option (Tup [.bool])
  | .p0 a0 => cond (!(seq a0 (⟨#[]⟩ : ByteArray))) ((impl_printed n a0 (100 : Int)).bind fun r4 => some r4) (some false)
def impl_isValue (n : Nat) (a0 : ByteArray) : Option (Tup [.bool]) := goRec impl_isValue.step n (.p0 a0)
def impl_isValue.spec : Ctr := ⟨104, [.v .str], [.bool], [], fun n x => impl_isValue n x.1⟩
theorem impl_isValue.seg_eq (n : Nat) (goto : Nat → St → Option (Tup [.bool])) (y : impl_isValue.Pt) : seg ⟨ty, gl, impl_isValue.md, calOf impl_isValue.T n⟩ impl_isValue.F.np impl_isValue.F.ks goto (impl_isValue.F.fin ⟨ty, gl, impl_isValue.md, calOf impl_isValue.T 0⟩ [.bool]) impl_isValue.F.c (impl_isValue.lb y) (impl_isValue.st y) = impl_isValue.step n (fun z => goto (impl_isValue.lb z) (impl_isValue.st z)) y := by
  cases y <;> kernel_rfl
theorem impl_isValue.text : Text Go.Proofs.Try.prog impl_isValue.F impl_isValue.spec := ⟨⟨Go.Proofs.Try.f104, by kernel_rfl, by kernel_rfl, by decide +kernel, by kernel_rfl, by kernel_rfl, of_decide_eq_true (by kernel_rfl)⟩, fun _ => rfl, fun _ => rfl, rfl⟩
theorem impl_isValue.ok : CtrOK Go.Proofs.Try.prog gl impl_isValue.spec :=
  ctr_ok (T := impl_isValue.T) (F := impl_isValue.F) (lb := impl_isValue.lb) (st := impl_isValue.st) (step := impl_isValue.step) (md := impl_isValue.md) tabs impl_isValue.text impl_isValue.seg_eq (fun n x => ⟨.p0 x.1, rfl, rfl, rfl⟩) (consC impl_printed.ok (nilC))

/-! loop.example/g00039/impl.GoodLabels -/
def impl_GoodLabels.T : List Ctr := [impl_isName.spec, impl_isValue.spec]
def impl_GoodLabels.md : List (Nat × List Md) := []
noncomputable def impl_GoodLabels.F : Fun := ⟨(Go.Proofs.Try.f53.body).getD .skip, [.v (.sl false (.pair .str (.pair .str .unit)))], [(.tmp 2, .bool)], [], 0, [(15, ⟨[0, 8, 9, 10], [(8, (.pair .str (.pair .str .unit)))], []⟩), (26, ⟨[0, 8, 9, 10, 39], [(8, (.pair .str (.pair .str .unit)))], []⟩)]⟩
inductive impl_GoodLabels.Pt where
  | p0 (a0 : List ((ByteArray) × ((ByteArray) × (Unit))))
  | p15 (y1 : List ((ByteArray) × ((ByteArray) × (Unit)))) (y2 : List ((ByteArray) × ((ByteArray) × (Unit)))) (y3 : Int) (y4 : Int)
  | p26 (y1 : List ((ByteArray) × ((ByteArray) × (Unit)))) (y2 : List ((ByteArray) × ((ByteArray) × (Unit)))) (y3 : Int) (y4 : Int) (y5 : Bool)
def impl_GoodLabels.lb : impl_GoodLabels.Pt → Nat
  | .p0 _ => 0
  | .p15 _ _ _ _ => 15
  | .p26 _ _ _ _ _ => 26
def impl_GoodLabels.st : impl_GoodLabels.Pt → St
  | .p0 a0 => enter [.v (.sl false (.pair .str (.pair .str .unit))) a0] 0
  | .p15 y1 y2 y3 y4 => ⟨[(0, .im (.sl false (.pair .str (.pair .str .unit))) y1), (8, .im (.sl false (.pair .str (.pair .str .unit))) y2), (9, .im (.int .i64) y3), (10, .im (.int .i64) y4)], [], 0⟩
  | .p26 y1 y2 y3 y4 y5 => ⟨[(0, .im (.sl false (.pair .str (.pair .str .unit))) y1), (8, .im (.sl false (.pair .str (.pair .str .unit))) y2), (9, .im (.int .i64) y3), (10, .im (.int .i64) y4), (39, .im .bool y5)], [], 0⟩
def impl_GoodLabels.step (n : Nat) (K : impl_GoodLabels.Pt → Option (Tup [.bool])) : impl_GoodLabels.Pt → Option (Tup [.bool])
  | .p0 a0 => cond (decide ((20 : Int) < ((List.length a0) : Int))) (some false) (K (.p15 a0 a0 ((List.length a0) : Int) (0 : Int)))
  | .p15 y1 y2 y3 y4 => cond (decide (y4 < y3)) (cond (inB y4 (List.length y2)) ((impl_isName n (List.getD y2 (Int.toNat y4) default).1).bind fun r7 => cond (!r7) (K (.p26 y1 y2 y3 y4 true)) ((impl_isValue n (List.getD y2 (Int.toNat y4) default).2.1).bind fun r8 => cond (!r8) (K (.p26 y1 y2 y3 y4 true)) (cond (decide ((0 : Int) < y4)) (cond (inB (IntKind.wrap .i64 (y4 - (1 : Int))) (List.length y1)) (K (.p26 y1 y2 y3 y4 (!(slt (List.getD y1 (Int.toNat (IntKind.wrap .i64 (y4 - (1 : Int)))) default).1 (List.getD y2 (Int.toNat y4) default).1)))) (none)) (K (.p26 y1 y2 y3 y4 false))))) (none)) (some true)
  | .p26 y1 y2 y3 y4 y5 => cond y5 (some false) (K (.p15 y1 y2 y3 (IntKind.wrap .i64 (y4 + (1 : Int)))))
def impl_GoodLabels (n : Nat) (a0 : List ((ByteArray) × ((ByteArray) × (Unit)))) : Option (Tup [.bool]) := goRec impl_GoodLabels.step n (.p0 a0)
def impl_GoodLabels.spec : Ctr := ⟨53, [.v (.sl false (.pair .str (.pair .str .unit)))], [.bool], [], fun n x => impl_GoodLabels n x.1⟩
theorem impl_GoodLabels.seg_eq (n : Nat) (goto : Nat → St → Option (Tup [.bool])) (y : impl_GoodLabels.Pt) : seg ⟨ty, gl, impl_GoodLabels.md, calOf impl_GoodLabels.T n⟩ impl_GoodLabels.F.np impl_GoodLabels.F.ks goto (impl_GoodLabels.F.fin ⟨ty, gl, impl_GoodLabels.md, calOf impl_GoodLabels.T 0⟩ [.bool]) impl_GoodLabels.F.c (impl_GoodLabels.lb y) (impl_GoodLabels.st y) = impl_GoodLabels.step n (fun z => goto (impl_GoodLabels.lb z) (impl_GoodLabels.st z)) y := by
  cases y <;> kernel_rfl
theorem impl_GoodLabels.text : Text Go.Proofs.Try.prog impl_GoodLabels.F impl_GoodLabels.spec := ⟨⟨Go.Proofs.Try.f53, by kernel_rfl, by kernel_rfl, by decide +kernel, by kernel_rfl, by kernel_rfl, of_decide_eq_true (by kernel_rfl)⟩, fun _ => rfl, fun _ => rfl, rfl⟩
theorem impl_GoodLabels.ok : CtrOK Go.Proofs.Try.prog gl impl_GoodLabels.spec :=
  ctr_ok (T := impl_GoodLabels.T) (F := impl_GoodLabels.F) (lb := impl_GoodLabels.lb) (st := impl_GoodLabels.st) (step := impl_GoodLabels.step) (md := impl_GoodLabels.md) tabs impl_GoodLabels.text impl_GoodLabels.seg_eq (fun n x => ⟨.p0 x.1, rfl, rfl, rfl⟩) (consC impl_isName.ok (consC impl_isValue.ok (nilC)))

/-! loop.example/g00039/impl.valueOf -/
def impl_valueOf.T : List Ctr := []
def impl_valueOf.md : List (Nat × List Md) := []
noncomputable def impl_valueOf.F : Fun := ⟨(Go.Proofs.Try.f117.body).getD .skip, [.v (.sl false (.pair .str (.pair .str .unit))), .v .str], [(.tmp 4, .str)], [], 0, [(7, ⟨[1, 7, 8, 9], [(7, (.pair .str (.pair .str .unit)))], []⟩)]⟩
inductive impl_valueOf.Pt where
  | p0 (a0 : List ((ByteArray) × ((ByteArray) × (Unit)))) (a1 : ByteArray)
  | p7 (y1 : ByteArray) (y2 : List ((ByteArray) × ((ByteArray) × (Unit)))) (y3 : Int) (y4 : Int)
def impl_valueOf.lb : impl_valueOf.Pt → Nat
  | .p0 _ _ => 0
  | .p7 _ _ _ _ => 7
def impl_valueOf.st : impl_valueOf.Pt → St
  | .p0 a0 a1 => enter [.v (.sl false (.pair .str (.pair .str .unit))) a0, .v .str a1] 0
  | .p7 y1 y2 y3 y4 => ⟨[(1, .im .str y1), (7, .im (.sl false (.pair .str (.pair .str .unit))) y2), (8, .im (.int .i64) y3), (9, .im (.int .i64) y4)], [], 0⟩
def impl_valueOf.step (n : Nat) (K : impl_valueOf.Pt → Option (Tup [.str])) : impl_valueOf.Pt → Option (Tup [.str])
  | .p0 a0 a1 => K (.p7 a1 a0 ((List.length a0) : Int) (0 : Int))
  | .p7 y1 y2 y3 y4 => cond (decide (y4 < y3)) (cond (inB y4 (List.length y2)) (cond (seq (List.getD y2 (Int.toNat y4) default).1 y1) (some (List.getD y2 (Int.toNat y4) default).2.1) (K (.p7 y1 y2 y3 (IntKind.wrap .i64 (y4 + (1 : Int)))))) (none)) (some (⟨#[]⟩ : ByteArray))
def impl_valueOf (n : Nat) (a0 : List ((ByteArray) × ((ByteArray) × (Unit)))) (a1 : ByteArray) : Option (Tup [.str]) := goRec impl_valueOf.step n (.p0 a0 a1)
def impl_valueOf.spec : Ctr := ⟨117, [.v (.sl false (.pair .str (.pair .str .unit))), .v .str], [.str], [], fun n x => impl_valueOf n x.1 x.2.1⟩
theorem impl_valueOf.seg_eq (n : Nat) (goto : Nat → St → Option (Tup [.str])) (y : impl_valueOf.Pt) : seg ⟨ty, gl, impl_valueOf.md, calOf impl_valueOf.T n⟩ impl_valueOf.F.np impl_valueOf.F.ks goto (impl_valueOf.F.fin ⟨ty, gl, impl_valueOf.md, calOf impl_valueOf.T 0⟩ [.str]) impl_valueOf.F.c (impl_valueOf.lb y) (impl_valueOf.st y) = impl_valueOf.step n (fun z => goto (impl_valueOf.lb z) (impl_valueOf.st z)) y := by
  cases y <;> kernel_rfl
theorem impl_valueOf.text : Text Go.Proofs.Try.prog impl_valueOf.F impl_valueOf.spec := ⟨⟨Go.Proofs.Try.f117, by kernel_rfl, by kernel_rfl, by decide +kernel, by kernel_rfl, by kernel_rfl, of_decide_eq_true (by kernel_rfl)⟩, fun _ => rfl, fun _ => rfl, rfl⟩
theorem impl_valueOf.ok : CtrOK Go.Proofs.Try.prog gl impl_valueOf.spec :=
  ctr_ok (T := impl_valueOf.T) (F := impl_valueOf.F) (lb := impl_valueOf.lb) (st := impl_valueOf.st) (step := impl_valueOf.step) (md := impl_valueOf.md) tabs impl_valueOf.text impl_valueOf.seg_eq (fun n x => ⟨.p0 x.1 x.2.1, rfl, rfl, rfl⟩) (nilC)

/-! loop.example/g00039/impl.parts -/
def impl_parts.T : List Ctr := []
def impl_parts.md : List (Nat × List Md) := []
noncomputable def impl_parts.F : Fun := ⟨(Go.Proofs.Try.f214.body).getD .skip, [.v (.sl false (.pair (.int .u8) (.pair .bool (.pair .bool .unit)))), .v .str], [(.tmp 4, (.sl false .str)), (.tmp 5, .bool)], [], 0, [(9, ⟨[0, 1, 6, 7], [(6, (.sl false .bool))], []⟩), (23, ⟨[0, 1, 6, 7, 8], [(6, (.sl false .bool))], []⟩), (60, ⟨[1, 6, 9, 10, 133, 134, 135], [(6, (.sl false .bool)), (9, .str), (133, (.pair (.int .u8) (.pair .bool (.pair .bool .unit))))], []⟩), (83, ⟨[1, 6, 9, 10, 11, 13, 133, 134, 135], [(6, (.sl false .bool)), (9, .str), (133, (.pair (.int .u8) (.pair .bool (.pair .bool .unit))))], []⟩)]⟩
inductive impl_parts.Pt where
  | p0 (a0 : List ((Int) × ((Bool) × ((Bool) × (Unit))))) (a1 : ByteArray)
  | p9 (y1 : List ((Int) × ((Bool) × ((Bool) × (Unit))))) (y2 : ByteArray) (y3 : Int) (y4 : List (List (Bool)))
  | p23 (y1 : List ((Int) × ((Bool) × ((Bool) × (Unit))))) (y2 : ByteArray) (y3 : Int) (y4 : Int) (y5 : List (List (Bool)))
  | p60 (y1 : ByteArray) (y2 : Int) (y3 : List ((Int) × ((Bool) × ((Bool) × (Unit))))) (y4 : Int) (y5 : Int) (y6 : List (List (Bool))) (y7 : List (ByteArray))
  | p83 (y1 : ByteArray) (y2 : Int) (y3 : Int) (y4 : Int) (y5 : List ((Int) × ((Bool) × ((Bool) × (Unit))))) (y6 : Int) (y7 : Int) (y8 : List (List (Bool))) (y9 : List (ByteArray))
def impl_parts.lb : impl_parts.Pt → Nat
  | .p0 _ _ => 0
  | .p9 _ _ _ _ => 9
  | .p23 _ _ _ _ _ => 23
  | .p60 _ _ _ _ _ _ _ => 60
  | .p83 _ _ _ _ _ _ _ _ _ => 83
def impl_parts.st : impl_parts.Pt → St
  | .p0 a0 a1 => enter [.v (.sl false (.pair (.int .u8) (.pair .bool (.pair .bool .unit)))) a0, .v .str a1] 0
  | .p9 y1 y2 y3 y4 => ⟨[(0, .im (.sl false (.pair (.int .u8) (.pair .bool (.pair .bool .unit)))) y1), (1, .im .str y2), (6, .hs 0 [] none 0), (7, .im (.int .i64) y3)], [(0, .arr false (.sl false .bool) y4 0)], 1⟩
  | .p23 y1 y2 y3 y4 y5 => ⟨[(0, .im (.sl false (.pair (.int .u8) (.pair .bool (.pair .bool .unit)))) y1), (1, .im .str y2), (6, .hs 0 [] none 0), (7, .im (.int .i64) y3), (8, .im (.int .i64) y4)], [(0, .arr false (.sl false .bool) y5 0)], 1⟩
  | .p60 y1 y2 y3 y4 y5 y6 y7 => ⟨[(1, .im .str y1), (6, .hs 0 [] none 0), (9, .hs 1 [] none 0), (10, .im (.int .i64) y2), (133, .im (.sl false (.pair (.int .u8) (.pair .bool (.pair .bool .unit)))) y3), (134, .im (.int .i64) y4), (135, .im (.int .i64) y5)], [(0, .arr false (.sl false .bool) y6 0), (1, .arr true .str y7 0)], 2⟩
  | .p83 y1 y2 y3 y4 y5 y6 y7 y8 y9 => ⟨[(1, .im .str y1), (6, .hs 0 [] none 0), (9, .hs 1 [] none 0), (10, .im (.int .i64) y2), (11, .im (.int .i64) y3), (13, .im (.int .i64) y4), (133, .im (.sl false (.pair (.int .u8) (.pair .bool (.pair .bool .unit)))) y5), (134, .im (.int .i64) y6), (135, .im (.int .i64) y7)], [(0, .arr false (.sl false .bool) y8 0), (1, .arr true .str y9 0)], 2⟩
def impl_parts.step (n : Nat) (K : impl_parts.Pt → Option (Tup [(.sl false .str), .bool])) : impl_parts.Pt → Option (Tup [(.sl false .str), .bool])
  | .p0 a0 a1 => cond (inC (IntKind.wrap .i64 (((List.length a0) : Int) + (1 : Int))) (IntKind.wrap .i64 (((List.length a0) : Int) + (1 : Int))) 1000000000) (K (.p9 a0 a1 ((List.length a0) : Int) (List.replicate (Int.toNat (IntKind.wrap .i64 (((List.length a0) : Int) + (1 : Int)))) (default : List (Bool))))) (none)
  | .p9 y1 y2 y3 y4 => cond (decide ((0 : Int) ≤ y3)) (cond (inC (IntKind.wrap .i64 (((ByteArray.size y2) : Int) + (1 : Int))) (IntKind.wrap .i64 (((ByteArray.size y2) : Int) + (1 : Int))) 1000000000) (cond (inB y3 (List.length y4)) (K (.p23 y1 y2 y3 ((ByteArray.size y2) : Int) (List.set y4 (0 + (Int.toNat y3)) (List.replicate (Int.toNat (IntKind.wrap .i64 (((ByteArray.size y2) : Int) + (1 : Int)))) (default : Bool))))) (none)) (none)) (cond (inB (0 : Int) (List.length y4)) (cond (inB (0 : Int) (List.length (List.getD y4 (0 + (Int.toNat (0 : Int))) default))) (cond (!(List.getD (List.getD y4 (0 + (Int.toNat (0 : Int))) default) (0 + (Int.toNat (0 : Int))) default)) (some (([] : List (ByteArray)), false)) (K (.p60 y2 (0 : Int) y1 ((List.length y1) : Int) (0 : Int) y4 ([] : List (ByteArray))))) (none)) (none))
  | .p23 y1 y2 y3 y4 y5 => cond (decide ((0 : Int) ≤ y4)) (cond (decide (y3 = ((List.length y1) : Int))) (cond (inB y3 (List.length y5)) (cond (inB y4 (List.length (List.getD y5 (0 + (Int.toNat y3)) default))) (K (.p23 y1 y2 y3 (IntKind.wrap .i64 (y4 - (1 : Int))) (List.set y5 (0 + (Int.toNat y3)) (List.set (List.getD y5 (0 + (Int.toNat y3)) default) (0 + (Int.toNat y4)) (decide (y4 = ((ByteArray.size y2) : Int))))))) (none)) (none)) (cond (inB y3 (List.length y1)) (cond (List.getD y1 (Int.toNat y3) default).2.2.1 (cond (inB y3 (List.length y5)) (cond (inB (IntKind.wrap .i64 (y3 + (1 : Int))) (List.length y5)) (cond (inB y4 (List.length (List.getD y5 (0 + (Int.toNat (IntKind.wrap .i64 (y3 + (1 : Int))))) default))) (cond (List.getD (List.getD y5 (0 + (Int.toNat (IntKind.wrap .i64 (y3 + (1 : Int))))) default) (0 + (Int.toNat y4)) default) (cond (inB y4 (List.length (List.getD y5 (0 + (Int.toNat y3)) default))) (K (.p23 y1 y2 y3 (IntKind.wrap .i64 (y4 - (1 : Int))) (List.set y5 (0 + (Int.toNat y3)) (List.set (List.getD y5 (0 + (Int.toNat y3)) default) (0 + (Int.toNat y4)) true)))) (none)) (cond (decide (y4 < ((ByteArray.size y2) : Int))) (cond (inB y3 (List.length y5)) (cond (inB (IntKind.wrap .i64 (y4 + (1 : Int))) (List.length (List.getD y5 (0 + (Int.toNat y3)) default))) (cond (inB y4 (List.length (List.getD y5 (0 + (Int.toNat y3)) default))) (K (.p23 y1 y2 y3 (IntKind.wrap .i64 (y4 - (1 : Int))) (List.set y5 (0 + (Int.toNat y3)) (List.set (List.getD y5 (0 + (Int.toNat y3)) default) (0 + (Int.toNat y4)) (List.getD (List.getD y5 (0 + (Int.toNat y3)) default) (0 + (Int.toNat (IntKind.wrap .i64 (y4 + (1 : Int))))) default))))) (none)) (none)) (none)) (cond (inB y4 (List.length (List.getD y5 (0 + (Int.toNat y3)) default))) (K (.p23 y1 y2 y3 (IntKind.wrap .i64 (y4 - (1 : Int))) (List.set y5 (0 + (Int.toNat y3)) (List.set (List.getD y5 (0 + (Int.toNat y3)) default) (0 + (Int.toNat y4)) false)))) (none)))) (none)) (none)) (none)) (cond (inB y3 (List.length y5)) (cond (decide (y4 < ((ByteArray.size y2) : Int))) (cond (inB y3 (List.length y1)) (cond (List.getD y1 (Int.toNat y3) default).2.1 (cond (inB (IntKind.wrap .i64 (y3 + (1 : Int))) (List.length y5)) (cond (inB (IntKind.wrap .i64 (y4 + (1 : Int))) (List.length (List.getD y5 (0 + (Int.toNat (IntKind.wrap .i64 (y3 + (1 : Int))))) default))) (cond (inB y4 (List.length (List.getD y5 (0 + (Int.toNat y3)) default))) (K (.p23 y1 y2 y3 (IntKind.wrap .i64 (y4 - (1 : Int))) (List.set y5 (0 + (Int.toNat y3)) (List.set (List.getD y5 (0 + (Int.toNat y3)) default) (0 + (Int.toNat y4)) (List.getD (List.getD y5 (0 + (Int.toNat (IntKind.wrap .i64 (y3 + (1 : Int))))) default) (0 + (Int.toNat (IntKind.wrap .i64 (y4 + (1 : Int))))) default))))) (none)) (none)) (none)) (cond (inB y3 (List.length y1)) (cond (inB y4 (ByteArray.size y2)) (cond (decide ((List.getD y1 (Int.toNat y3) default).1 = (bt y2 y4))) (cond (inB (IntKind.wrap .i64 (y3 + (1 : Int))) (List.length y5)) (cond (inB (IntKind.wrap .i64 (y4 + (1 : Int))) (List.length (List.getD y5 (0 + (Int.toNat (IntKind.wrap .i64 (y3 + (1 : Int))))) default))) (cond (inB y4 (List.length (List.getD y5 (0 + (Int.toNat y3)) default))) (K (.p23 y1 y2 y3 (IntKind.wrap .i64 (y4 - (1 : Int))) (List.set y5 (0 + (Int.toNat y3)) (List.set (List.getD y5 (0 + (Int.toNat y3)) default) (0 + (Int.toNat y4)) (List.getD (List.getD y5 (0 + (Int.toNat (IntKind.wrap .i64 (y3 + (1 : Int))))) default) (0 + (Int.toNat (IntKind.wrap .i64 (y4 + (1 : Int))))) default))))) (none)) (none)) (none)) (cond (inB y4 (List.length (List.getD y5 (0 + (Int.toNat y3)) default))) (K (.p23 y1 y2 y3 (IntKind.wrap .i64 (y4 - (1 : Int))) (List.set y5 (0 + (Int.toNat y3)) (List.set (List.getD y5 (0 + (Int.toNat y3)) default) (0 + (Int.toNat y4)) false)))) (none))) (none)) (none))) (none)) (cond (inB y4 (List.length (List.getD y5 (0 + (Int.toNat y3)) default))) (K (.p23 y1 y2 y3 (IntKind.wrap .i64 (y4 - (1 : Int))) (List.set y5 (0 + (Int.toNat y3)) (List.set (List.getD y5 (0 + (Int.toNat y3)) default) (0 + (Int.toNat y4)) false)))) (none))) (none))) (none))) (K (.p9 y1 y2 (IntKind.wrap .i64 (y3 - (1 : Int))) y5))
  | .p60 y1 y2 y3 y4 y5 y6 y7 => cond (decide (y5 < y4)) (cond (inB y5 (List.length y3)) (cond (!(List.getD y3 (Int.toNat y5) default).2.2.1) (K (.p60 y1 (IntKind.wrap .i64 (y2 + (1 : Int))) y3 y4 (IntKind.wrap .i64 (y5 + (1 : Int))) y6 y7)) (K (.p83 y1 y2 y5 y2 y3 y4 y5 y6 y7))) (none)) (some (y7, true))
  | .p83 y1 y2 y3 y4 y5 y6 y7 y8 y9 => cond (inB (IntKind.wrap .i64 (y3 + (1 : Int))) (List.length y8)) (cond (inB y4 (List.length (List.getD y8 (0 + (Int.toNat (IntKind.wrap .i64 (y3 + (1 : Int))))) default))) (cond (!(List.getD (List.getD y8 (0 + (Int.toNat (IntKind.wrap .i64 (y3 + (1 : Int))))) default) (0 + (Int.toNat y4)) default)) (K (.p83 y1 y2 y3 (IntKind.wrap .i64 (y4 + (1 : Int))) y5 y6 y7 y8 y9)) (cond (inC y2 y4 (ByteArray.size y1)) (cond (room ((List.length y9) + (List.length [(ByteArray.extract y1 (Int.toNat y2) (Int.toNat y4))]))) (K (.p60 y1 y4 y5 y6 (IntKind.wrap .i64 (y7 + (1 : Int))) y8 (y9 ++ [(ByteArray.extract y1 (Int.toNat y2) (Int.toNat y4))]))) (none)) (none))) (none)) (none)
def impl_parts (n : Nat) (a0 : List ((Int) × ((Bool) × ((Bool) × (Unit))))) (a1 : ByteArray) : Option (Tup [(.sl false .str), .bool]) := goRec impl_parts.step n (.p0 a0 a1)
def impl_parts.spec : Ctr := ⟨214, [.v (.sl false (.pair (.int .u8) (.pair .bool (.pair .bool .unit)))), .v .str], [(.sl false .str), .bool], [], fun n x => impl_parts n x.1 x.2.1⟩
theorem impl_parts.seg_eq (n : Nat) (goto : Nat → St → Option (Tup [(.sl false .str), .bool])) (y : impl_parts.Pt) : seg ⟨ty, gl, impl_parts.md, calOf impl_parts.T n⟩ impl_parts.F.np impl_parts.F.ks goto (impl_parts.F.fin ⟨ty, gl, impl_parts.md, calOf impl_parts.T 0⟩ [(.sl false .str), .bool]) impl_parts.F.c (impl_parts.lb y) (impl_parts.st y) = impl_parts.step n (fun z => goto (impl_parts.lb z) (impl_parts.st z)) y := by
  cases y <;> kernel_rfl
theorem impl_parts.text : Text Go.Proofs.Try.prog impl_parts.F impl_parts.spec := ⟨⟨Go.Proofs.Try.f214, by kernel_rfl, by kernel_rfl, by decide +kernel, by kernel_rfl, by kernel_rfl, of_decide_eq_true (by kernel_rfl)⟩, fun _ => rfl, fun _ => rfl, rfl⟩
theorem impl_parts.ok : CtrOK Go.Proofs.Try.prog gl impl_parts.spec :=
  ctr_ok (T := impl_parts.T) (F := impl_parts.F) (lb := impl_parts.lb) (st := impl_parts.st) (step := impl_parts.step) (md := impl_parts.md) tabs impl_parts.text impl_parts.seg_eq (fun n x => ⟨.p0 x.1 x.2.1, rfl, rfl, rfl⟩) (nilC)

/-! loop.example/g00039/impl.PatternParts -/
def impl_PatternParts.T : List Ctr := [impl_alternatives.spec, impl_parts.spec]
def impl_PatternParts.md : List (Nat × List Md) := []
noncomputable def impl_PatternParts.F : Fun := ⟨(Go.Proofs.Try.f208.body).getD .skip, [.v .str, .v .str], [(.tmp 4, (.sl false .str)), (.tmp 5, .bool)], [], 0, [(6, ⟨[1, 6, 23], [(6, (.sl false (.pair (.int .u8) (.pair .bool (.pair .bool .unit)))))], []⟩), (17, ⟨[1, 24, 25, 26], [(24, (.sl false (.pair (.int .u8) (.pair .bool (.pair .bool .unit)))))], []⟩)]⟩
inductive impl_PatternParts.Pt where
  | p0 (a0 : ByteArray) (a1 : ByteArray)
  | p6 (y1 : ByteArray) (y2 : Bool) (y3 : List (List ((Int) × ((Bool) × ((Bool) × (Unit))))))
  | p17 (y1 : ByteArray) (y2 : Int) (y3 : Int) (y4 : List (List ((Int) × ((Bool) × ((Bool) × (Unit))))))
def impl_PatternParts.lb : impl_PatternParts.Pt → Nat
  | .p0 _ _ => 0
  | .p6 _ _ _ => 6
  | .p17 _ _ _ _ => 17
def impl_PatternParts.st : impl_PatternParts.Pt → St
  | .p0 a0 a1 => enter [.v .str a0, .v .str a1] 0
  | .p6 y1 y2 y3 => ⟨[(1, .im .str y1), (6, .hs 0 [] none 0), (23, .im .bool y2)], [(0, .arr false (.sl false (.pair (.int .u8) (.pair .bool (.pair .bool .unit)))) y3 0)], 1⟩
  | .p17 y1 y2 y3 y4 => ⟨[(1, .im .str y1), (24, .hs 0 [] none 0), (25, .im (.int .i64) y2), (26, .im (.int .i64) y3)], [(0, .arr false (.sl false (.pair (.int .u8) (.pair .bool (.pair .bool .unit)))) y4 0)], 1⟩
def impl_PatternParts.step (n : Nat) (K : impl_PatternParts.Pt → Option (Tup [(.sl false .str), .bool])) : impl_PatternParts.Pt → Option (Tup [(.sl false .str), .bool])
  | .p0 a0 a1 => (impl_alternatives n a0).bind fun r5 => cond (!r5.2) (K (.p6 a1 true r5.1)) (K (.p6 a1 (decide ((100 : Int) < ((ByteArray.size a1) : Int))) r5.1))
  | .p6 y1 y2 y3 => cond y2 (some (([] : List (ByteArray)), false)) (K (.p17 y1 ((List.length y3) : Int) (0 : Int) y3))
  | .p17 y1 y2 y3 y4 => cond (decide (y3 < y2)) (cond (inB y3 (List.length y4)) ((impl_parts n (List.getD y4 (0 + (Int.toNat y3)) default) y1).bind fun r7 => cond r7.2 (some (r7.1, true)) (K (.p17 y1 y2 (IntKind.wrap .i64 (y3 + (1 : Int))) y4))) (none)) (some (([] : List (ByteArray)), false))
def impl_PatternParts (n : Nat) (a0 : ByteArray) (a1 : ByteArray) : Option (Tup [(.sl false .str), .bool]) := goRec impl_PatternParts.step n (.p0 a0 a1)
def impl_PatternParts.spec : Ctr := ⟨208, [.v .str, .v .str], [(.sl false .str), .bool], [], fun n x => impl_PatternParts n x.1 x.2.1⟩
theorem impl_PatternParts.seg_eq (n : Nat) (goto : Nat → St → Option (Tup [(.sl false .str), .bool])) (y : impl_PatternParts.Pt) : seg ⟨ty, gl, impl_PatternParts.md, calOf impl_PatternParts.T n⟩ impl_PatternParts.F.np impl_PatternParts.F.ks goto (impl_PatternParts.F.fin ⟨ty, gl, impl_PatternParts.md, calOf impl_PatternParts.T 0⟩ [(.sl false .str), .bool]) impl_PatternParts.F.c (impl_PatternParts.lb y) (impl_PatternParts.st y) = impl_PatternParts.step n (fun z => goto (impl_PatternParts.lb z) (impl_PatternParts.st z)) y := by
  cases y <;> kernel_rfl
theorem impl_PatternParts.text : Text Go.Proofs.Try.prog impl_PatternParts.F impl_PatternParts.spec := ⟨⟨Go.Proofs.Try.f208, by kernel_rfl, by kernel_rfl, by decide +kernel, by kernel_rfl, by kernel_rfl, of_decide_eq_true (by kernel_rfl)⟩, fun _ => rfl, fun _ => rfl, rfl⟩
theorem impl_PatternParts.ok : CtrOK Go.Proofs.Try.prog gl impl_PatternParts.spec :=
  ctr_ok (T := impl_PatternParts.T) (F := impl_PatternParts.F) (lb := impl_PatternParts.lb) (st := impl_PatternParts.st) (step := impl_PatternParts.step) (md := impl_PatternParts.md) tabs impl_PatternParts.text impl_PatternParts.seg_eq (fun n x => ⟨.p0 x.1 x.2.1, rfl, rfl, rfl⟩) (consC impl_alternatives.ok (consC impl_parts.ok (nilC)))

/-! loop.example/g00039/impl.PatternFits -/
def impl_PatternFits.T : List Ctr := [impl_PatternParts.spec]
def impl_PatternFits.md : List (Nat × List Md) := []
noncomputable def impl_PatternFits.F : Fun := ⟨(Go.Proofs.Try.f199.body).getD .skip, [.v .str, .v .str], [(.tmp 4, .bool)], [], 0, []⟩
inductive impl_PatternFits.Pt where
  | p0 (a0 : ByteArray) (a1 : ByteArray)
def impl_PatternFits.lb : impl_PatternFits.Pt → Nat
  | .p0 _ _ => 0
def impl_PatternFits.st : impl_PatternFits.Pt → St
  | .p0 a0 a1 => enter [.v .str a0, .v .str a1] 0
def impl_PatternFits.step (n : Nat) (K : impl_PatternFits.Pt → Option (Tup [.bool])) : impl_PatternFits.Pt → Option (Tup [.bool])
  | .p0 a0 a1 => (impl_PatternParts n a0 a1).bind fun r5 => some r5.2
def impl_PatternFits (n : Nat) (a0 : ByteArray) (a1 : ByteArray) : Option (Tup [.bool]) := goRec impl_PatternFits.step n (.p0 a0 a1)
def impl_PatternFits.spec : Ctr := ⟨199, [.v .str, .v .str], [.bool], [], fun n x => impl_PatternFits n x.1 x.2.1⟩
theorem impl_PatternFits.seg_eq (n : Nat) (goto : Nat → St → Option (Tup [.bool])) (y : impl_PatternFits.Pt) : seg ⟨ty, gl, impl_PatternFits.md, calOf impl_PatternFits.T n⟩ impl_PatternFits.F.np impl_PatternFits.F.ks goto (impl_PatternFits.F.fin ⟨ty, gl, impl_PatternFits.md, calOf impl_PatternFits.T 0⟩ [.bool]) impl_PatternFits.F.c (impl_PatternFits.lb y) (impl_PatternFits.st y) = impl_PatternFits.step n (fun z => goto (impl_PatternFits.lb z) (impl_PatternFits.st z)) y := by
  cases y <;> kernel_rfl
theorem impl_PatternFits.text : Text Go.Proofs.Try.prog impl_PatternFits.F impl_PatternFits.spec := ⟨⟨Go.Proofs.Try.f199, by kernel_rfl, by kernel_rfl, by decide +kernel, by kernel_rfl, by kernel_rfl, of_decide_eq_true (by kernel_rfl)⟩, fun _ => rfl, fun _ => rfl, rfl⟩
theorem impl_PatternFits.ok : CtrOK Go.Proofs.Try.prog gl impl_PatternFits.spec :=
  ctr_ok (T := impl_PatternFits.T) (F := impl_PatternFits.F) (lb := impl_PatternFits.lb) (st := impl_PatternFits.st) (step := impl_PatternFits.step) (md := impl_PatternFits.md) tabs impl_PatternFits.text impl_PatternFits.seg_eq (fun n x => ⟨.p0 x.1 x.2.1, rfl, rfl, rfl⟩) (consC impl_PatternParts.ok (nilC))

/-! loop.example/g00039/impl.fitsOne -/
def impl_fitsOne.T : List Ctr := [impl_valueOf.spec, impl_PatternFits.spec]
def impl_fitsOne.md : List (Nat × List Md) := []
noncomputable def impl_fitsOne.F : Fun := ⟨(Go.Proofs.Try.f167.body).getD .skip, [.v (.pair .str (.pair (.int .i64) (.pair .str .unit))), .v (.sl false (.pair .str (.pair .str .unit)))], [(.tmp 4, .bool)], [], 0, []⟩
inductive impl_fitsOne.Pt where
  | p0 (a0 : (ByteArray) × ((Int) × ((ByteArray) × (Unit)))) (a1 : List ((ByteArray) × ((ByteArray) × (Unit))))
def impl_fitsOne.lb : impl_fitsOne.Pt → Nat
  | .p0 _ _ => 0
def impl_fitsOne.st : impl_fitsOne.Pt → St
  | .p0 a0 a1 => enter [.v (.pair .str (.pair (.int .i64) (.pair .str .unit))) a0, .v (.sl false (.pair .str (.pair .str .unit))) a1] 0
def impl_fitsOne.step (n : Nat) (K : impl_fitsOne.Pt → Option (Tup [.bool])) : impl_fitsOne.Pt → Option (Tup [.bool])
  | .p0 a0 a1 => (impl_valueOf n a1 a0.1).bind fun r5 => cond (decide (a0.2.1 = (1 : Int))) (some (seq r5 a0.2.2.1)) (cond (decide (a0.2.1 = (2 : Int))) (some (!(seq r5 a0.2.2.1))) (cond (decide (a0.2.1 = (3 : Int))) ((impl_PatternFits n a0.2.2.1 r5).bind fun r6 => some r6) ((impl_PatternFits n a0.2.2.1 r5).bind fun r6 => some (!r6))))
def impl_fitsOne (n : Nat) (a0 : (ByteArray) × ((Int) × ((ByteArray) × (Unit)))) (a1 : List ((ByteArray) × ((ByteArray) × (Unit)))) : Option (Tup [.bool]) := goRec impl_fitsOne.step n (.p0 a0 a1)
def impl_fitsOne.spec : Ctr := ⟨167, [.v (.pair .str (.pair (.int .i64) (.pair .str .unit))), .v (.sl false (.pair .str (.pair .str .unit)))], [.bool], [], fun n x => impl_fitsOne n x.1 x.2.1⟩
theorem impl_fitsOne.seg_eq (n : Nat) (goto : Nat → St → Option (Tup [.bool])) (y : impl_fitsOne.Pt) : seg ⟨ty, gl, impl_fitsOne.md, calOf impl_fitsOne.T n⟩ impl_fitsOne.F.np impl_fitsOne.F.ks goto (impl_fitsOne.F.fin ⟨ty, gl, impl_fitsOne.md, calOf impl_fitsOne.T 0⟩ [.bool]) impl_fitsOne.F.c (impl_fitsOne.lb y) (impl_fitsOne.st y) = impl_fitsOne.step n (fun z => goto (impl_fitsOne.lb z) (impl_fitsOne.st z)) y := by
  cases y <;> kernel_rfl
theorem impl_fitsOne.text : Text Go.Proofs.Try.prog impl_fitsOne.F impl_fitsOne.spec := ⟨⟨Go.Proofs.Try.f167, by kernel_rfl, by kernel_rfl, by decide +kernel, by kernel_rfl, by kernel_rfl, of_decide_eq_true (by kernel_rfl)⟩, fun _ => rfl, fun _ => rfl, rfl⟩
theorem impl_fitsOne.ok : CtrOK Go.Proofs.Try.prog gl impl_fitsOne.spec :=
  ctr_ok (T := impl_fitsOne.T) (F := impl_fitsOne.F) (lb := impl_fitsOne.lb) (st := impl_fitsOne.st) (step := impl_fitsOne.step) (md := impl_fitsOne.md) tabs impl_fitsOne.text impl_fitsOne.seg_eq (fun n x => ⟨.p0 x.1 x.2.1, rfl, rfl, rfl⟩) (consC impl_valueOf.ok (consC impl_PatternFits.ok (nilC)))

/-! loop.example/g00039/impl.fits -/
def impl_fits.T : List Ctr := [impl_fitsOne.spec]
def impl_fits.md : List (Nat × List Md) := []
noncomputable def impl_fits.F : Fun := ⟨(Go.Proofs.Try.f105.body).getD .skip, [.v (.sl false (.pair .str (.pair (.int .i64) (.pair .str .unit)))), .v (.sl false (.pair .str (.pair .str .unit)))], [(.tmp 4, .bool)], [], 0, [(7, ⟨[1, 7, 8, 9], [(7, (.pair .str (.pair (.int .i64) (.pair .str .unit))))], []⟩)]⟩
inductive impl_fits.Pt where
  | p0 (a0 : List ((ByteArray) × ((Int) × ((ByteArray) × (Unit))))) (a1 : List ((ByteArray) × ((ByteArray) × (Unit))))
  | p7 (y1 : List ((ByteArray) × ((ByteArray) × (Unit)))) (y2 : List ((ByteArray) × ((Int) × ((ByteArray) × (Unit))))) (y3 : Int) (y4 : Int)
def impl_fits.lb : impl_fits.Pt → Nat
  | .p0 _ _ => 0
  | .p7 _ _ _ _ => 7
def impl_fits.st : impl_fits.Pt → St
  | .p0 a0 a1 => enter [.v (.sl false (.pair .str (.pair (.int .i64) (.pair .str .unit)))) a0, .v (.sl false (.pair .str (.pair .str .unit))) a1] 0
  | .p7 y1 y2 y3 y4 => ⟨[(1, .im (.sl false (.pair .str (.pair .str .unit))) y1), (7, .im (.sl false (.pair .str (.pair (.int .i64) (.pair .str .unit)))) y2), (8, .im (.int .i64) y3), (9, .im (.int .i64) y4)], [], 0⟩
def impl_fits.step (n : Nat) (K : impl_fits.Pt → Option (Tup [.bool])) : impl_fits.Pt → Option (Tup [.bool])
  | .p0 a0 a1 => K (.p7 a1 a0 ((List.length a0) : Int) (0 : Int))
  | .p7 y1 y2 y3 y4 => cond (decide (y4 < y3)) (cond (inB y4 (List.length y2)) ((impl_fitsOne n (List.getD y2 (Int.toNat y4) default) y1).bind fun r7 => cond (!r7) (some false) (K (.p7 y1 y2 y3 (IntKind.wrap .i64 (y4 + (1 : Int)))))) (none)) (some true)
def impl_fits (n : Nat) (a0 : List ((ByteArray) × ((Int) × ((ByteArray) × (Unit))))) (a1 : List ((ByteArray) × ((ByteArray) × (Unit)))) : Option (Tup [.bool]) := goRec impl_fits.step n (.p0 a0 a1)
def impl_fits.spec : Ctr := ⟨105, [.v (.sl false (.pair .str (.pair (.int .i64) (.pair .str .unit)))), .v (.sl false (.pair .str (.pair .str .unit)))], [.bool], [], fun n x => impl_fits n x.1 x.2.1⟩
theorem impl_fits.seg_eq (n : Nat) (goto : Nat → St → Option (Tup [.bool])) (y : impl_fits.Pt) : seg ⟨ty, gl, impl_fits.md, calOf impl_fits.T n⟩ impl_fits.F.np impl_fits.F.ks goto (impl_fits.F.fin ⟨ty, gl, impl_fits.md, calOf impl_fits.T 0⟩ [.bool]) impl_fits.F.c (impl_fits.lb y) (impl_fits.st y) = impl_fits.step n (fun z => goto (impl_fits.lb z) (impl_fits.st z)) y := by
  cases y <;> kernel_rfl
theorem impl_fits.text : Text Go.Proofs.Try.prog impl_fits.F impl_fits.spec := ⟨⟨Go.Proofs.Try.f105, by kernel_rfl, by kernel_rfl, by decide +kernel, by kernel_rfl, by kernel_rfl, of_decide_eq_true (by kernel_rfl)⟩, fun _ => rfl, fun _ => rfl, rfl⟩
theorem impl_fits.ok : CtrOK Go.Proofs.Try.prog gl impl_fits.spec :=
  ctr_ok (T := impl_fits.T) (F := impl_fits.F) (lb := impl_fits.lb) (st := impl_fits.st) (step := impl_fits.step) (md := impl_fits.md) tabs impl_fits.text impl_fits.seg_eq (fun n x => ⟨.p0 x.1 x.2.1, rfl, rfl, rfl⟩) (consC impl_fitsOne.ok (nilC))

/-! loop.example/g00039/impl.silenced -/
def impl_silenced.T : List Ctr := [impl_fits.spec]
def impl_silenced.md : List (Nat × List Md) := []
noncomputable def impl_silenced.F : Fun := ⟨(Go.Proofs.Try.f55.body).getD .skip, [.v (.sl false (.pair .str (.pair (.sl false (.pair .str (.pair (.int .i64) (.pair .str .unit)))) (.pair (.int .i64) (.pair (.int .i64) .unit))))), .v (.sl false (.pair .str (.pair .str .unit))), .v (.int .i64)], [(.tmp 6, (.sl false .str))], [], 0, [(9, ⟨[1, 2, 7, 10, 11, 12], [(7, .str), (10, (.pair .str (.pair (.sl false (.pair .str (.pair (.int .i64) (.pair .str .unit)))) (.pair (.int .i64) (.pair (.int .i64) .unit)))))], []⟩), (20, ⟨[1, 2, 7, 9, 10, 11, 12, 31], [(7, .str), (10, (.pair .str (.pair (.sl false (.pair .str (.pair (.int .i64) (.pair .str .unit)))) (.pair (.int .i64) (.pair (.int .i64) .unit)))))], [(9, 1, (.pair .str (.pair (.int .i64) (.pair .str .unit))))]⟩)]⟩
inductive impl_silenced.Pt where
  | p0 (a0 : List ((ByteArray) × ((List ((ByteArray) × ((Int) × ((ByteArray) × (Unit))))) × ((Int) × ((Int) × (Unit)))))) (a1 : List ((ByteArray) × ((ByteArray) × (Unit)))) (a2 : Int)
  | p9 (y1 : List ((ByteArray) × ((ByteArray) × (Unit)))) (y2 : Int) (y3 : List ((ByteArray) × ((List ((ByteArray) × ((Int) × ((ByteArray) × (Unit))))) × ((Int) × ((Int) × (Unit)))))) (y4 : Int) (y5 : Int) (y6 : List (ByteArray))
  | p20 (y1 : List ((ByteArray) × ((ByteArray) × (Unit)))) (y2 : Int) (y3 : List ((ByteArray) × ((List ((ByteArray) × ((Int) × ((ByteArray) × (Unit))))) × ((Int) × ((Int) × (Unit)))))) (y4 : Int) (y5 : Int) (y6 : Bool) (y7 : List (ByteArray)) (y8 : ByteArray) (y9 : List ((ByteArray) × ((Int) × ((ByteArray) × (Unit))))) (y10 : Int) (y11 : Int)
def impl_silenced.lb : impl_silenced.Pt → Nat
  | .p0 _ _ _ => 0
  | .p9 _ _ _ _ _ _ => 9
  | .p20 _ _ _ _ _ _ _ _ _ _ _ => 20
def impl_silenced.st : impl_silenced.Pt → St
  | .p0 a0 a1 a2 => enter [.v (.sl false (.pair .str (.pair (.sl false (.pair .str (.pair (.int .i64) (.pair .str .unit)))) (.pair (.int .i64) (.pair (.int .i64) .unit))))) a0, .v (.sl false (.pair .str (.pair .str .unit))) a1, .v (.int .i64) a2] 0
  | .p9 y1 y2 y3 y4 y5 y6 => ⟨[(1, .im (.sl false (.pair .str (.pair .str .unit))) y1), (2, .im (.int .i64) y2), (7, .hs 0 [] none 0), (10, .im (.sl false (.pair .str (.pair (.sl false (.pair .str (.pair (.int .i64) (.pair .str .unit)))) (.pair (.int .i64) (.pair (.int .i64) .unit))))) y3), (11, .im (.int .i64) y4), (12, .im (.int .i64) y5)], [(0, .arr true .str y6 0)], 1⟩
  | .p20 y1 y2 y3 y4 y5 y6 y7 y8 y9 y10 y11 => ⟨[(1, .im (.sl false (.pair .str (.pair .str .unit))) y1), (2, .im (.int .i64) y2), (7, .hs 0 [] none 0), (9, .po 1 0), (10, .im (.sl false (.pair .str (.pair (.sl false (.pair .str (.pair (.int .i64) (.pair .str .unit)))) (.pair (.int .i64) (.pair (.int .i64) .unit))))) y3), (11, .im (.int .i64) y4), (12, .im (.int .i64) y5), (31, .im .bool y6)], [(0, .arr true .str y7 0), (1, .obj [.im .str y8, .im (.sl false (.pair .str (.pair (.int .i64) (.pair .str .unit)))) y9, .im (.int .i64) y10, .im (.int .i64) y11])], 2⟩
def impl_silenced.step (n : Nat) (K : impl_silenced.Pt → Option (Tup [(.sl false .str)])) : impl_silenced.Pt → Option (Tup [(.sl false .str)])
  | .p0 a0 a1 a2 => K (.p9 a1 a2 a0 ((List.length a0) : Int) (0 : Int) ([] : List (ByteArray)))
  | .p9 y1 y2 y3 y4 y5 y6 => cond (decide (y5 < y4)) (cond (inB y5 (List.length y3)) (cond (decide ((List.getD y3 (Int.toNat y5) default).2.2.1 ≤ y2)) (cond (decide (y2 ≤ (List.getD y3 (Int.toNat y5) default).2.2.2.1)) ((impl_fits n (List.getD y3 (Int.toNat y5) default).2.1 y1).bind fun r9 => K (.p20 y1 y2 y3 y4 y5 r9 y6 (List.getD y3 (Int.toNat y5) default).1 (List.getD y3 (Int.toNat y5) default).2.1 (List.getD y3 (Int.toNat y5) default).2.2.1 (List.getD y3 (Int.toNat y5) default).2.2.2.1)) (K (.p20 y1 y2 y3 y4 y5 false y6 (List.getD y3 (Int.toNat y5) default).1 (List.getD y3 (Int.toNat y5) default).2.1 (List.getD y3 (Int.toNat y5) default).2.2.1 (List.getD y3 (Int.toNat y5) default).2.2.2.1))) (K (.p20 y1 y2 y3 y4 y5 false y6 (List.getD y3 (Int.toNat y5) default).1 (List.getD y3 (Int.toNat y5) default).2.1 (List.getD y3 (Int.toNat y5) default).2.2.1 (List.getD y3 (Int.toNat y5) default).2.2.2.1))) (none)) (some y6)
  | .p20 y1 y2 y3 y4 y5 y6 y7 y8 y9 y10 y11 => cond y6 (cond (room ((List.length y7) + (List.length [y8]))) (K (.p9 y1 y2 y3 y4 (IntKind.wrap .i64 (y5 + (1 : Int))) (y7 ++ [y8]))) (none)) (K (.p9 y1 y2 y3 y4 (IntKind.wrap .i64 (y5 + (1 : Int))) y7))
def impl_silenced (n : Nat) (a0 : List ((ByteArray) × ((List ((ByteArray) × ((Int) × ((ByteArray) × (Unit))))) × ((Int) × ((Int) × (Unit)))))) (a1 : List ((ByteArray) × ((ByteArray) × (Unit)))) (a2 : Int) : Option (Tup [(.sl false .str)]) := goRec impl_silenced.step n (.p0 a0 a1 a2)
def impl_silenced.spec : Ctr := ⟨55, [.v (.sl false (.pair .str (.pair (.sl false (.pair .str (.pair (.int .i64) (.pair .str .unit)))) (.pair (.int .i64) (.pair (.int .i64) .unit))))), .v (.sl false (.pair .str (.pair .str .unit))), .v (.int .i64)], [(.sl false .str)], [], fun n x => impl_silenced n x.1 x.2.1 x.2.2.1⟩
theorem impl_silenced.seg_eq (n : Nat) (goto : Nat → St → Option (Tup [(.sl false .str)])) (y : impl_silenced.Pt) : seg ⟨ty, gl, impl_silenced.md, calOf impl_silenced.T n⟩ impl_silenced.F.np impl_silenced.F.ks goto (impl_silenced.F.fin ⟨ty, gl, impl_silenced.md, calOf impl_silenced.T 0⟩ [(.sl false .str)]) impl_silenced.F.c (impl_silenced.lb y) (impl_silenced.st y) = impl_silenced.step n (fun z => goto (impl_silenced.lb z) (impl_silenced.st z)) y := by
  cases y <;> kernel_rfl
theorem impl_silenced.text : Text Go.Proofs.Try.prog impl_silenced.F impl_silenced.spec := ⟨⟨Go.Proofs.Try.f55, by kernel_rfl, by kernel_rfl, by decide +kernel, by kernel_rfl, by kernel_rfl, of_decide_eq_true (by kernel_rfl)⟩, fun _ => rfl, fun _ => rfl, rfl⟩
theorem impl_silenced.ok : CtrOK Go.Proofs.Try.prog gl impl_silenced.spec :=
  ctr_ok (T := impl_silenced.T) (F := impl_silenced.F) (lb := impl_silenced.lb) (st := impl_silenced.st) (step := impl_silenced.step) (md := impl_silenced.md) tabs impl_silenced.text impl_silenced.seg_eq (fun n x => ⟨.p0 x.1 x.2.1 x.2.2.1, rfl, rfl, rfl⟩) (consC impl_fits.ok (nilC))

/-! loop.example/g00039/impl.Silenced -/
def impl_Silenced.T : List Ctr := [impl_isTime.spec, impl_GoodSilences.spec, impl_GoodLabels.spec, impl_silenced.spec]
def impl_Silenced.md : List (Nat × List Md) := []
noncomputable def impl_Silenced.F : Fun := ⟨(Go.Proofs.Try.f12.body).getD .skip, [.v (.sl false (.pair .str (.pair (.sl false (.pair .str (.pair (.int .i64) (.pair .str .unit)))) (.pair (.int .i64) (.pair (.int .i64) .unit))))), .v (.sl false (.pair .str (.pair .str .unit))), .v (.int .i64)], [(.tmp 6, (.sl false .str))], [], 0, [(4, ⟨[0, 1, 2, 19], [], []⟩)]⟩
inductive impl_Silenced.Pt where
  | p0 (a0 : List ((ByteArray) × ((List ((ByteArray) × ((Int) × ((ByteArray) × (Unit))))) × ((Int) × ((Int) × (Unit)))))) (a1 : List ((ByteArray) × ((ByteArray) × (Unit)))) (a2 : Int)
  | p4 (y1 : List ((ByteArray) × ((List ((ByteArray) × ((Int) × ((ByteArray) × (Unit))))) × ((Int) × ((Int) × (Unit)))))) (y2 : List ((ByteArray) × ((ByteArray) × (Unit)))) (y3 : Int) (y4 : Bool)
def impl_Silenced.lb : impl_Silenced.Pt → Nat
  | .p0 _ _ _ => 0
  | .p4 _ _ _ _ => 4
def impl_Silenced.st : impl_Silenced.Pt → St
  | .p0 a0 a1 a2 => enter [.v (.sl false (.pair .str (.pair (.sl false (.pair .str (.pair (.int .i64) (.pair .str .unit)))) (.pair (.int .i64) (.pair (.int .i64) .unit))))) a0, .v (.sl false (.pair .str (.pair .str .unit))) a1, .v (.int .i64) a2] 0
  | .p4 y1 y2 y3 y4 => ⟨[(0, .im (.sl false (.pair .str (.pair (.sl false (.pair .str (.pair (.int .i64) (.pair .str .unit)))) (.pair (.int .i64) (.pair (.int .i64) .unit))))) y1), (1, .im (.sl false (.pair .str (.pair .str .unit))) y2), (2, .im (.int .i64) y3), (19, .im .bool y4)], [], 0⟩
def impl_Silenced.step (n : Nat) (K : impl_Silenced.Pt → Option (Tup [(.sl false .str)])) : impl_Silenced.Pt → Option (Tup [(.sl false .str)])
  | .p0 a0 a1 a2 => (impl_GoodSilences n a0).bind fun r6 => cond (!r6) (K (.p4 a0 a1 a2 true)) ((impl_GoodLabels n a1).bind fun r7 => cond (!r7) (K (.p4 a0 a1 a2 true)) ((impl_isTime n a2).bind fun r8 => K (.p4 a0 a1 a2 (!r8))))
  | .p4 y1 y2 y3 y4 => cond y4 (some ([] : List (ByteArray))) ((impl_silenced n y1 y2 y3).bind fun r7 => some r7)
def impl_Silenced (n : Nat) (a0 : List ((ByteArray) × ((List ((ByteArray) × ((Int) × ((ByteArray) × (Unit))))) × ((Int) × ((Int) × (Unit)))))) (a1 : List ((ByteArray) × ((ByteArray) × (Unit)))) (a2 : Int) : Option (Tup [(.sl false .str)]) := goRec impl_Silenced.step n (.p0 a0 a1 a2)
def impl_Silenced.spec : Ctr := ⟨12, [.v (.sl false (.pair .str (.pair (.sl false (.pair .str (.pair (.int .i64) (.pair .str .unit)))) (.pair (.int .i64) (.pair (.int .i64) .unit))))), .v (.sl false (.pair .str (.pair .str .unit))), .v (.int .i64)], [(.sl false .str)], [], fun n x => impl_Silenced n x.1 x.2.1 x.2.2.1⟩
theorem impl_Silenced.seg_eq (n : Nat) (goto : Nat → St → Option (Tup [(.sl false .str)])) (y : impl_Silenced.Pt) : seg ⟨ty, gl, impl_Silenced.md, calOf impl_Silenced.T n⟩ impl_Silenced.F.np impl_Silenced.F.ks goto (impl_Silenced.F.fin ⟨ty, gl, impl_Silenced.md, calOf impl_Silenced.T 0⟩ [(.sl false .str)]) impl_Silenced.F.c (impl_Silenced.lb y) (impl_Silenced.st y) = impl_Silenced.step n (fun z => goto (impl_Silenced.lb z) (impl_Silenced.st z)) y := by
  cases y <;> kernel_rfl
theorem impl_Silenced.text : Text Go.Proofs.Try.prog impl_Silenced.F impl_Silenced.spec := ⟨⟨Go.Proofs.Try.f12, by kernel_rfl, by kernel_rfl, by decide +kernel, by kernel_rfl, by kernel_rfl, of_decide_eq_true (by kernel_rfl)⟩, fun _ => rfl, fun _ => rfl, rfl⟩
theorem impl_Silenced.ok : CtrOK Go.Proofs.Try.prog gl impl_Silenced.spec :=
  ctr_ok (T := impl_Silenced.T) (F := impl_Silenced.F) (lb := impl_Silenced.lb) (st := impl_Silenced.st) (step := impl_Silenced.step) (md := impl_Silenced.md) tabs impl_Silenced.text impl_Silenced.seg_eq (fun n x => ⟨.p0 x.1 x.2.1 x.2.2.1, rfl, rfl, rfl⟩) (consC impl_isTime.ok (consC impl_GoodSilences.ok (consC impl_GoodLabels.ok (consC impl_silenced.ok (nilC)))))

/-! loop.example/g00039/laws.eqStringS -/
def laws_eqStringS.T : List Ctr := []
def laws_eqStringS.md : List (Nat × List Md) := []
noncomputable def laws_eqStringS.F : Fun := ⟨(Go.Proofs.Try.f13.body).getD .skip, [.v (.sl false .str), .v (.sl false .str)], [(.tmp 4, .bool)], [], 0, [(15, ⟨[0, 1, 5], [], []⟩)]⟩
inductive laws_eqStringS.Pt where
  | p0 (a0 : List (ByteArray)) (a1 : List (ByteArray))
  | p15 (y1 : List (ByteArray)) (y2 : List (ByteArray)) (y3 : Int)
def laws_eqStringS.lb : laws_eqStringS.Pt → Nat
  | .p0 _ _ => 0
  | .p15 _ _ _ => 15
def laws_eqStringS.st : laws_eqStringS.Pt → St
  | .p0 a0 a1 => enter [.v (.sl false .str) a0, .v (.sl false .str) a1] 0
  | .p15 y1 y2 y3 => ⟨[(0, .im (.sl false .str) y1), (1, .im (.sl false .str) y2), (5, .im (.int .i64) y3)], [], 0⟩
def laws_eqStringS.step (n : Nat) (K : laws_eqStringS.Pt → Option (Tup [.bool])) : laws_eqStringS.Pt → Option (Tup [.bool])
  | .p0 a0 a1 => cond (!(decide (((List.length a0) : Int) = ((List.length a1) : Int)))) (some false) (K (.p15 a0 a1 (0 : Int)))
  | .p15 y1 y2 y3 => cond (decide (y3 < ((List.length y1) : Int))) (cond (inB y3 (List.length y1)) (cond (inB y3 (List.length y2)) (cond (!(seq (List.getD y1 (Int.toNat y3) default) (List.getD y2 (Int.toNat y3) default))) (some false) (K (.p15 y1 y2 (IntKind.wrap .i64 (y3 + (1 : Int)))))) (none)) (none)) (some true)
def laws_eqStringS (n : Nat) (a0 : List (ByteArray)) (a1 : List (ByteArray)) : Option (Tup [.bool]) := goRec laws_eqStringS.step n (.p0 a0 a1)
def laws_eqStringS.spec : Ctr := ⟨13, [.v (.sl false .str), .v (.sl false .str)], [.bool], [], fun n x => laws_eqStringS n x.1 x.2.1⟩
theorem laws_eqStringS.seg_eq (n : Nat) (goto : Nat → St → Option (Tup [.bool])) (y : laws_eqStringS.Pt) : seg ⟨ty, gl, laws_eqStringS.md, calOf laws_eqStringS.T n⟩ laws_eqStringS.F.np laws_eqStringS.F.ks goto (laws_eqStringS.F.fin ⟨ty, gl, laws_eqStringS.md, calOf laws_eqStringS.T 0⟩ [.bool]) laws_eqStringS.F.c (laws_eqStringS.lb y) (laws_eqStringS.st y) = laws_eqStringS.step n (fun z => goto (laws_eqStringS.lb z) (laws_eqStringS.st z)) y := by
  cases y <;> kernel_rfl
theorem laws_eqStringS.text : Text Go.Proofs.Try.prog laws_eqStringS.F laws_eqStringS.spec := ⟨⟨Go.Proofs.Try.f13, by kernel_rfl, by kernel_rfl, by decide +kernel, by kernel_rfl, by kernel_rfl, of_decide_eq_true (by kernel_rfl)⟩, fun _ => rfl, fun _ => rfl, rfl⟩
theorem laws_eqStringS.ok : CtrOK Go.Proofs.Try.prog gl laws_eqStringS.spec :=
  ctr_ok (T := laws_eqStringS.T) (F := laws_eqStringS.F) (lb := laws_eqStringS.lb) (st := laws_eqStringS.st) (step := laws_eqStringS.step) (md := laws_eqStringS.md) tabs laws_eqStringS.text laws_eqStringS.seg_eq (fun n x => ⟨.p0 x.1 x.2.1, rfl, rfl, rfl⟩) (nilC)

/-! loop.example/g00039/laws.eqMatcher -/
def laws_eqMatcher.T : List Ctr := []
def laws_eqMatcher.md : List (Nat × List Md) := []
noncomputable def laws_eqMatcher.F : Fun := ⟨(Go.Proofs.Try.f168.body).getD .skip, [.v (.pair .str (.pair (.int .i64) (.pair .str .unit))), .v (.pair .str (.pair (.int .i64) (.pair .str .unit)))], [(.tmp 4, .bool)], [], 0, []⟩
inductive laws_eqMatcher.Pt where
  | p0 (a0 : (ByteArray) × ((Int) × ((ByteArray) × (Unit)))) (a1 : (ByteArray) × ((Int) × ((ByteArray) × (Unit))))
def laws_eqMatcher.lb : laws_eqMatcher.Pt → Nat
  | .p0 _ _ => 0
def laws_eqMatcher.st : laws_eqMatcher.Pt → St
  | .p0 a0 a1 => enter [.v (.pair .str (.pair (.int .i64) (.pair .str .unit))) a0, .v (.pair .str (.pair (.int .i64) (.pair .str .unit))) a1] 0
def laws_eqMatcher.step (n : Nat) (K : laws_eqMatcher.Pt → Option (Tup [.bool])) : laws_eqMatcher.Pt → Option (Tup [.bool])
  | .p0 a0 a1 => cond (!(seq a0.1 a1.1)) (some false) (cond (!(decide (a0.2.1 = a1.2.1))) (some false) (cond (!(seq a0.2.2.1 a1.2.2.1)) (some false) (some true)))
def laws_eqMatcher (n : Nat) (a0 : (ByteArray) × ((Int) × ((ByteArray) × (Unit)))) (a1 : (ByteArray) × ((Int) × ((ByteArray) × (Unit)))) : Option (Tup [.bool]) := goRec laws_eqMatcher.step n (.p0 a0 a1)
def laws_eqMatcher.spec : Ctr := ⟨168, [.v (.pair .str (.pair (.int .i64) (.pair .str .unit))), .v (.pair .str (.pair (.int .i64) (.pair .str .unit)))], [.bool], [], fun n x => laws_eqMatcher n x.1 x.2.1⟩
theorem laws_eqMatcher.seg_eq (n : Nat) (goto : Nat → St → Option (Tup [.bool])) (y : laws_eqMatcher.Pt) : seg ⟨ty, gl, laws_eqMatcher.md, calOf laws_eqMatcher.T n⟩ laws_eqMatcher.F.np laws_eqMatcher.F.ks goto (laws_eqMatcher.F.fin ⟨ty, gl, laws_eqMatcher.md, calOf laws_eqMatcher.T 0⟩ [.bool]) laws_eqMatcher.F.c (laws_eqMatcher.lb y) (laws_eqMatcher.st y) = laws_eqMatcher.step n (fun z => goto (laws_eqMatcher.lb z) (laws_eqMatcher.st z)) y := by
  cases y <;> kernel_rfl
theorem laws_eqMatcher.text : Text Go.Proofs.Try.prog laws_eqMatcher.F laws_eqMatcher.spec := ⟨⟨Go.Proofs.Try.f168, by kernel_rfl, by kernel_rfl, by decide +kernel, by kernel_rfl, by kernel_rfl, of_decide_eq_true (by kernel_rfl)⟩, fun _ => rfl, fun _ => rfl, rfl⟩
theorem laws_eqMatcher.ok : CtrOK Go.Proofs.Try.prog gl laws_eqMatcher.spec :=
  ctr_ok (T := laws_eqMatcher.T) (F := laws_eqMatcher.F) (lb := laws_eqMatcher.lb) (st := laws_eqMatcher.st) (step := laws_eqMatcher.step) (md := laws_eqMatcher.md) tabs laws_eqMatcher.text laws_eqMatcher.seg_eq (fun n x => ⟨.p0 x.1 x.2.1, rfl, rfl, rfl⟩) (nilC)

/-! loop.example/g00039/laws.eqMatcherS -/
def laws_eqMatcherS.T : List Ctr := [laws_eqMatcher.spec]
def laws_eqMatcherS.md : List (Nat × List Md) := []
noncomputable def laws_eqMatcherS.F : Fun := ⟨(Go.Proofs.Try.f106.body).getD .skip, [.v (.sl false (.pair .str (.pair (.int .i64) (.pair .str .unit)))), .v (.sl false (.pair .str (.pair (.int .i64) (.pair .str .unit))))], [(.tmp 4, .bool)], [], 0, [(15, ⟨[0, 1, 5], [], []⟩)]⟩
inductive laws_eqMatcherS.Pt where
  | p0 (a0 : List ((ByteArray) × ((Int) × ((ByteArray) × (Unit))))) (a1 : List ((ByteArray) × ((Int) × ((ByteArray) × (Unit)))))
  | p15 (y1 : List ((ByteArray) × ((Int) × ((ByteArray) × (Unit))))) (y2 : List ((ByteArray) × ((Int) × ((ByteArray) × (Unit))))) (y3 : Int)
def laws_eqMatcherS.lb : laws_eqMatcherS.Pt → Nat
  | .p0 _ _ => 0
  | .p15 _ _ _ => 15
def laws_eqMatcherS.st : laws_eqMatcherS.Pt → St
  | .p0 a0 a1 => enter [.v (.sl false (.pair .str (.pair (.int .i64) (.pair .str .unit)))) a0, .v (.sl false (.pair .str (.pair (.int .i64) (.pair .str .unit)))) a1] 0
  | .p15 y1 y2 y3 => ⟨[(0, .im (.sl false (.pair .str (.pair (.int .i64) (.pair .str .unit)))) y1), (1, .im (.sl false (.pair .str (.pair (.int .i64) (.pair .str .unit)))) y2), (5, .im (.int .i64) y3)], [], 0⟩
def laws_eqMatcherS.step (n : Nat) (K : laws_eqMatcherS.Pt → Option (Tup [.bool])) : laws_eqMatcherS.Pt → Option (Tup [.bool])
  | .p0 a0 a1 => cond (!(decide (((List.length a0) : Int) = ((List.length a1) : Int)))) (some false) (K (.p15 a0 a1 (0 : Int)))
  | .p15 y1 y2 y3 => cond (decide (y3 < ((List.length y1) : Int))) (cond (inB y3 (List.length y1)) (cond (inB y3 (List.length y2)) ((laws_eqMatcher n (List.getD y1 (Int.toNat y3) default) (List.getD y2 (Int.toNat y3) default)).bind fun r6 => cond (!r6) (some false) (K (.p15 y1 y2 (IntKind.wrap .i64 (y3 + (1 : Int)))))) (none)) (none)) (some true)
def laws_eqMatcherS (n : Nat) (a0 : List ((ByteArray) × ((Int) × ((ByteArray) × (Unit))))) (a1 : List ((ByteArray) × ((Int) × ((ByteArray) × (Unit))))) : Option (Tup [.bool]) := goRec laws_eqMatcherS.step n (.p0 a0 a1)
def laws_eqMatcherS.spec : Ctr := ⟨106, [.v (.sl false (.pair .str (.pair (.int .i64) (.pair .str .unit)))), .v (.sl false (.pair .str (.pair (.int .i64) (.pair .str .unit))))], [.bool], [], fun n x => laws_eqMatcherS n x.1 x.2.1⟩
theorem laws_eqMatcherS.seg_eq (n : Nat) (goto : Nat → St → Option (Tup [.bool])) (y : laws_eqMatcherS.Pt) : seg ⟨ty, gl, laws_eqMatcherS.md, calOf laws_eqMatcherS.T n⟩ laws_eqMatcherS.F.np laws_eqMatcherS.F.ks goto (laws_eqMatcherS.F.fin ⟨ty, gl, laws_eqMatcherS.md, calOf laws_eqMatcherS.T 0⟩ [.bool]) laws_eqMatcherS.F.c (laws_eqMatcherS.lb y) (laws_eqMatcherS.st y) = laws_eqMatcherS.step n (fun z => goto (laws_eqMatcherS.lb z) (laws_eqMatcherS.st z)) y := by
  cases y <;> kernel_rfl
theorem laws_eqMatcherS.text : Text Go.Proofs.Try.prog laws_eqMatcherS.F laws_eqMatcherS.spec := ⟨⟨Go.Proofs.Try.f106, by kernel_rfl, by kernel_rfl, by decide +kernel, by kernel_rfl, by kernel_rfl, of_decide_eq_true (by kernel_rfl)⟩, fun _ => rfl, fun _ => rfl, rfl⟩
theorem laws_eqMatcherS.ok : CtrOK Go.Proofs.Try.prog gl laws_eqMatcherS.spec :=
  ctr_ok (T := laws_eqMatcherS.T) (F := laws_eqMatcherS.F) (lb := laws_eqMatcherS.lb) (st := laws_eqMatcherS.st) (step := laws_eqMatcherS.step) (md := laws_eqMatcherS.md) tabs laws_eqMatcherS.text laws_eqMatcherS.seg_eq (fun n x => ⟨.p0 x.1 x.2.1, rfl, rfl, rfl⟩) (consC laws_eqMatcher.ok (nilC))

/-! loop.example/g00039/laws.eqSilence -/
def laws_eqSilence.T : List Ctr := [laws_eqMatcherS.spec]
def laws_eqSilence.md : List (Nat × List Md) := []
noncomputable def laws_eqSilence.F : Fun := ⟨(Go.Proofs.Try.f56.body).getD .skip, [.v (.pair .str (.pair (.sl false (.pair .str (.pair (.int .i64) (.pair .str .unit)))) (.pair (.int .i64) (.pair (.int .i64) .unit)))), .v (.pair .str (.pair (.sl false (.pair .str (.pair (.int .i64) (.pair .str .unit)))) (.pair (.int .i64) (.pair (.int .i64) .unit))))], [(.tmp 4, .bool)], [], 0, []⟩
inductive laws_eqSilence.Pt where
  | p0 (a0 : (ByteArray) × ((List ((ByteArray) × ((Int) × ((ByteArray) × (Unit))))) × ((Int) × ((Int) × (Unit))))) (a1 : (ByteArray) × ((List ((ByteArray) × ((Int) × ((ByteArray) × (Unit))))) × ((Int) × ((Int) × (Unit)))))
def laws_eqSilence.lb : laws_eqSilence.Pt → Nat
  | .p0 _ _ => 0
def laws_eqSilence.st : laws_eqSilence.Pt → St
  | .p0 a0 a1 => enter [.v (.pair .str (.pair (.sl false (.pair .str (.pair (.int .i64) (.pair .str .unit)))) (.pair (.int .i64) (.pair (.int .i64) .unit)))) a0, .v (.pair .str (.pair (.sl false (.pair .str (.pair (.int .i64) (.pair .str .unit)))) (.pair (.int .i64) (.pair (.int .i64) .unit)))) a1] 0
def laws_eqSilence.step (n : Nat) (K : laws_eqSilence.Pt → Option (Tup [.bool])) : laws_eqSilence.Pt → Option (Tup [.bool])
  | .p0 a0 a1 => cond (!(seq a0.1 a1.1)) (some false) ((laws_eqMatcherS n a0.2.1 a1.2.1).bind fun r5 => cond (!r5) (some false) (cond (!(decide (a0.2.2.1 = a1.2.2.1))) (some false) (cond (!(decide (a0.2.2.2.1 = a1.2.2.2.1))) (some false) (some true))))
def laws_eqSilence (n : Nat) (a0 : (ByteArray) × ((List ((ByteArray) × ((Int) × ((ByteArray) × (Unit))))) × ((Int) × ((Int) × (Unit))))) (a1 : (ByteArray) × ((List ((ByteArray) × ((Int) × ((ByteArray) × (Unit))))) × ((Int) × ((Int) × (Unit))))) : Option (Tup [.bool]) := goRec laws_eqSilence.step n (.p0 a0 a1)
def laws_eqSilence.spec : Ctr := ⟨56, [.v (.pair .str (.pair (.sl false (.pair .str (.pair (.int .i64) (.pair .str .unit)))) (.pair (.int .i64) (.pair (.int .i64) .unit)))), .v (.pair .str (.pair (.sl false (.pair .str (.pair (.int .i64) (.pair .str .unit)))) (.pair (.int .i64) (.pair (.int .i64) .unit))))], [.bool], [], fun n x => laws_eqSilence n x.1 x.2.1⟩
theorem laws_eqSilence.seg_eq (n : Nat) (goto : Nat → St → Option (Tup [.bool])) (y : laws_eqSilence.Pt) : seg ⟨ty, gl, laws_eqSilence.md, calOf laws_eqSilence.T n⟩ laws_eqSilence.F.np laws_eqSilence.F.ks goto (laws_eqSilence.F.fin ⟨ty, gl, laws_eqSilence.md, calOf laws_eqSilence.T 0⟩ [.bool]) laws_eqSilence.F.c (laws_eqSilence.lb y) (laws_eqSilence.st y) = laws_eqSilence.step n (fun z => goto (laws_eqSilence.lb z) (laws_eqSilence.st z)) y := by
  cases y <;> kernel_rfl
theorem laws_eqSilence.text : Text Go.Proofs.Try.prog laws_eqSilence.F laws_eqSilence.spec := ⟨⟨Go.Proofs.Try.f56, by kernel_rfl, by kernel_rfl, by decide +kernel, by kernel_rfl, by kernel_rfl, of_decide_eq_true (by kernel_rfl)⟩, fun _ => rfl, fun _ => rfl, rfl⟩
theorem laws_eqSilence.ok : CtrOK Go.Proofs.Try.prog gl laws_eqSilence.spec :=
  ctr_ok (T := laws_eqSilence.T) (F := laws_eqSilence.F) (lb := laws_eqSilence.lb) (st := laws_eqSilence.st) (step := laws_eqSilence.step) (md := laws_eqSilence.md) tabs laws_eqSilence.text laws_eqSilence.seg_eq (fun n x => ⟨.p0 x.1 x.2.1, rfl, rfl, rfl⟩) (consC laws_eqMatcherS.ok (nilC))

/-! loop.example/g00039/laws.eqSilenceS -/
def laws_eqSilenceS.T : List Ctr := [laws_eqSilence.spec]
def laws_eqSilenceS.md : List (Nat × List Md) := []
noncomputable def laws_eqSilenceS.F : Fun := ⟨(Go.Proofs.Try.f14.body).getD .skip, [.v (.sl false (.pair .str (.pair (.sl false (.pair .str (.pair (.int .i64) (.pair .str .unit)))) (.pair (.int .i64) (.pair (.int .i64) .unit))))), .v (.sl false (.pair .str (.pair (.sl false (.pair .str (.pair (.int .i64) (.pair .str .unit)))) (.pair (.int .i64) (.pair (.int .i64) .unit)))))], [(.tmp 4, .bool)], [], 0, [(15, ⟨[0, 1, 5], [], []⟩)]⟩
inductive laws_eqSilenceS.Pt where
  | p0 (a0 : List ((ByteArray) × ((List ((ByteArray) × ((Int) × ((ByteArray) × (Unit))))) × ((Int) × ((Int) × (Unit)))))) (a1 : List ((ByteArray) × ((List ((ByteArray) × ((Int) × ((ByteArray) × (Unit))))) × ((Int) × ((Int) × (Unit))))))
  | p15 (y1 : List ((ByteArray) × ((List ((ByteArray) × ((Int) × ((ByteArray) × (Unit))))) × ((Int) × ((Int) × (Unit)))))) (y2 : List ((ByteArray) × ((List ((ByteArray) × ((Int) × ((ByteArray) × (Unit))))) × ((Int) × ((Int) × (Unit)))))) (y3 : Int)
def laws_eqSilenceS.lb : laws_eqSilenceS.Pt → Nat
  | .p0 _ _ => 0
  | .p15 _ _ _ => 15
def laws_eqSilenceS.st : laws_eqSilenceS.Pt → St
  | .p0 a0 a1 => enter [.v (.sl false (.pair .str (.pair (.sl false (.pair .str (.pair (.int .i64) (.pair .str .unit)))) (.pair (.int .i64) (.pair (.int .i64) .unit))))) a0, .v (.sl false (.pair .str (.pair (.sl false (.pair .str (.pair (.int .i64) (.pair .str .unit)))) (.pair (.int .i64) (.pair (.int .i64) .unit))))) a1] 0
  | .p15 y1 y2 y3 => ⟨[(0, .im (.sl false (.pair .str (.pair (.sl false (.pair .str (.pair (.int .i64) (.pair .str .unit)))) (.pair (.int .i64) (.pair (.int .i64) .unit))))) y1), (1, .im (.sl false (.pair .str (.pair (.sl false (.pair .str (.pair (.int .i64) (.pair .str .unit)))) (.pair (.int .i64) (.pair (.int .i64) .unit))))) y2), (5, .im (.int .i64) y3)], [], 0⟩
def laws_eqSilenceS.step (n : Nat) (K : laws_eqSilenceS.Pt → Option (Tup [.bool])) : laws_eqSilenceS.Pt → Option (Tup [.bool])
  | .p0 a0 a1 => cond (!(decide (((List.length a0) : Int) = ((List.length a1) : Int)))) (some false) (K (.p15 a0 a1 (0 : Int)))
  | .p15 y1 y2 y3 => cond (decide (y3 < ((List.length y1) : Int))) (cond (inB y3 (List.length y1)) (cond (inB y3 (List.length y2)) ((laws_eqSilence n (List.getD y1 (Int.toNat y3) default) (List.getD y2 (Int.toNat y3) default)).bind fun r6 => cond (!r6) (some false) (K (.p15 y1 y2 (IntKind.wrap .i64 (y3 + (1 : Int)))))) (none)) (none)) (some true)
def laws_eqSilenceS (n : Nat) (a0 : List ((ByteArray) × ((List ((ByteArray) × ((Int) × ((ByteArray) × (Unit))))) × ((Int) × ((Int) × (Unit)))))) (a1 : List ((ByteArray) × ((List ((ByteArray) × ((Int) × ((ByteArray) × (Unit))))) × ((Int) × ((Int) × (Unit)))))) : Option (Tup [.bool]) := goRec laws_eqSilenceS.step n (.p0 a0 a1)
def laws_eqSilenceS.spec : Ctr := ⟨14, [.v (.sl false (.pair .str (.pair (.sl false (.pair .str (.pair (.int .i64) (.pair .str .unit)))) (.pair (.int .i64) (.pair (.int .i64) .unit))))), .v (.sl false (.pair .str (.pair (.sl false (.pair .str (.pair (.int .i64) (.pair .str .unit)))) (.pair (.int .i64) (.pair (.int .i64) .unit)))))], [.bool], [], fun n x => laws_eqSilenceS n x.1 x.2.1⟩
theorem laws_eqSilenceS.seg_eq (n : Nat) (goto : Nat → St → Option (Tup [.bool])) (y : laws_eqSilenceS.Pt) : seg ⟨ty, gl, laws_eqSilenceS.md, calOf laws_eqSilenceS.T n⟩ laws_eqSilenceS.F.np laws_eqSilenceS.F.ks goto (laws_eqSilenceS.F.fin ⟨ty, gl, laws_eqSilenceS.md, calOf laws_eqSilenceS.T 0⟩ [.bool]) laws_eqSilenceS.F.c (laws_eqSilenceS.lb y) (laws_eqSilenceS.st y) = laws_eqSilenceS.step n (fun z => goto (laws_eqSilenceS.lb z) (laws_eqSilenceS.st z)) y := by
  cases y <;> kernel_rfl
theorem laws_eqSilenceS.text : Text Go.Proofs.Try.prog laws_eqSilenceS.F laws_eqSilenceS.spec := ⟨⟨Go.Proofs.Try.f14, by kernel_rfl, by kernel_rfl, by decide +kernel, by kernel_rfl, by kernel_rfl, of_decide_eq_true (by kernel_rfl)⟩, fun _ => rfl, fun _ => rfl, rfl⟩
theorem laws_eqSilenceS.ok : CtrOK Go.Proofs.Try.prog gl laws_eqSilenceS.spec :=
  ctr_ok (T := laws_eqSilenceS.T) (F := laws_eqSilenceS.F) (lb := laws_eqSilenceS.lb) (st := laws_eqSilenceS.st) (step := laws_eqSilenceS.step) (md := laws_eqSilenceS.md) tabs laws_eqSilenceS.text laws_eqSilenceS.seg_eq (fun n x => ⟨.p0 x.1 x.2.1, rfl, rfl, rfl⟩) (consC laws_eqSilence.ok (nilC))

/-! loop.example/g00039/laws.eqLabel -/
def laws_eqLabel.T : List Ctr := []
def laws_eqLabel.md : List (Nat × List Md) := []
noncomputable def laws_eqLabel.F : Fun := ⟨(Go.Proofs.Try.f57.body).getD .skip, [.v (.pair .str (.pair .str .unit)), .v (.pair .str (.pair .str .unit))], [(.tmp 4, .bool)], [], 0, []⟩
inductive laws_eqLabel.Pt where
  | p0 (a0 : (ByteArray) × ((ByteArray) × (Unit))) (a1 : (ByteArray) × ((ByteArray) × (Unit)))
def laws_eqLabel.lb : laws_eqLabel.Pt → Nat
  | .p0 _ _ => 0
def laws_eqLabel.st : laws_eqLabel.Pt → St
  | .p0 a0 a1 => enter [.v (.pair .str (.pair .str .unit)) a0, .v (.pair .str (.pair .str .unit)) a1] 0
def laws_eqLabel.step (n : Nat) (K : laws_eqLabel.Pt → Option (Tup [.bool])) : laws_eqLabel.Pt → Option (Tup [.bool])
  | .p0 a0 a1 => cond (!(seq a0.1 a1.1)) (some false) (cond (!(seq a0.2.1 a1.2.1)) (some false) (some true))
def laws_eqLabel (n : Nat) (a0 : (ByteArray) × ((ByteArray) × (Unit))) (a1 : (ByteArray) × ((ByteArray) × (Unit))) : Option (Tup [.bool]) := goRec laws_eqLabel.step n (.p0 a0 a1)
def laws_eqLabel.spec : Ctr := ⟨57, [.v (.pair .str (.pair .str .unit)), .v (.pair .str (.pair .str .unit))], [.bool], [], fun n x => laws_eqLabel n x.1 x.2.1⟩
theorem laws_eqLabel.seg_eq (n : Nat) (goto : Nat → St → Option (Tup [.bool])) (y : laws_eqLabel.Pt) : seg ⟨ty, gl, laws_eqLabel.md, calOf laws_eqLabel.T n⟩ laws_eqLabel.F.np laws_eqLabel.F.ks goto (laws_eqLabel.F.fin ⟨ty, gl, laws_eqLabel.md, calOf laws_eqLabel.T 0⟩ [.bool]) laws_eqLabel.F.c (laws_eqLabel.lb y) (laws_eqLabel.st y) = laws_eqLabel.step n (fun z => goto (laws_eqLabel.lb z) (laws_eqLabel.st z)) y := by
  cases y <;> kernel_rfl
theorem laws_eqLabel.text : Text Go.Proofs.Try.prog laws_eqLabel.F laws_eqLabel.spec := ⟨⟨Go.Proofs.Try.f57, by kernel_rfl, by kernel_rfl, by decide +kernel, by kernel_rfl, by kernel_rfl, of_decide_eq_true (by kernel_rfl)⟩, fun _ => rfl, fun _ => rfl, rfl⟩
theorem laws_eqLabel.ok : CtrOK Go.Proofs.Try.prog gl laws_eqLabel.spec :=
  ctr_ok (T := laws_eqLabel.T) (F := laws_eqLabel.F) (lb := laws_eqLabel.lb) (st := laws_eqLabel.st) (step := laws_eqLabel.step) (md := laws_eqLabel.md) tabs laws_eqLabel.text laws_eqLabel.seg_eq (fun n x => ⟨.p0 x.1 x.2.1, rfl, rfl, rfl⟩) (nilC)

/-! loop.example/g00039/laws.eqLabelS -/
def laws_eqLabelS.T : List Ctr := [laws_eqLabel.spec]
def laws_eqLabelS.md : List (Nat × List Md) := []
noncomputable def laws_eqLabelS.F : Fun := ⟨(Go.Proofs.Try.f15.body).getD .skip, [.v (.sl false (.pair .str (.pair .str .unit))), .v (.sl false (.pair .str (.pair .str .unit)))], [(.tmp 4, .bool)], [], 0, [(15, ⟨[0, 1, 5], [], []⟩)]⟩
inductive laws_eqLabelS.Pt where
  | p0 (a0 : List ((ByteArray) × ((ByteArray) × (Unit)))) (a1 : List ((ByteArray) × ((ByteArray) × (Unit))))
  | p15 (y1 : List ((ByteArray) × ((ByteArray) × (Unit)))) (y2 : List ((ByteArray) × ((ByteArray) × (Unit)))) (y3 : Int)
def laws_eqLabelS.lb : laws_eqLabelS.Pt → Nat
  | .p0 _ _ => 0
  | .p15 _ _ _ => 15
def laws_eqLabelS.st : laws_eqLabelS.Pt → St
  | .p0 a0 a1 => enter [.v (.sl false (.pair .str (.pair .str .unit))) a0, .v (.sl false (.pair .str (.pair .str .unit))) a1] 0
  | .p15 y1 y2 y3 => ⟨[(0, .im (.sl false (.pair .str (.pair .str .unit))) y1), (1, .im (.sl false (.pair .str (.pair .str .unit))) y2), (5, .im (.int .i64) y3)], [], 0⟩
def laws_eqLabelS.step (n : Nat) (K : laws_eqLabelS.Pt → Option (Tup [.bool])) : laws_eqLabelS.Pt → Option (Tup [.bool])
  | .p0 a0 a1 => cond (!(decide (((List.length a0) : Int) = ((List.length a1) : Int)))) (some false) (K (.p15 a0 a1 (0 : Int)))
  | .p15 y1 y2 y3 => cond (decide (y3 < ((List.length y1) : Int))) (cond (inB y3 (List.length y1)) (cond (inB y3 (List.length y2)) ((laws_eqLabel n (List.getD y1 (Int.toNat y3) default) (List.getD y2 (Int.toNat y3) default)).bind fun r6 => cond (!r6) (some false) (K (.p15 y1 y2 (IntKind.wrap .i64 (y3 + (1 : Int)))))) (none)) (none)) (some true)
def laws_eqLabelS (n : Nat) (a0 : List ((ByteArray) × ((ByteArray) × (Unit)))) (a1 : List ((ByteArray) × ((ByteArray) × (Unit)))) : Option (Tup [.bool]) := goRec laws_eqLabelS.step n (.p0 a0 a1)
def laws_eqLabelS.spec : Ctr := ⟨15, [.v (.sl false (.pair .str (.pair .str .unit))), .v (.sl false (.pair .str (.pair .str .unit)))], [.bool], [], fun n x => laws_eqLabelS n x.1 x.2.1⟩
theorem laws_eqLabelS.seg_eq (n : Nat) (goto : Nat → St → Option (Tup [.bool])) (y : laws_eqLabelS.Pt) : seg ⟨ty, gl, laws_eqLabelS.md, calOf laws_eqLabelS.T n⟩ laws_eqLabelS.F.np laws_eqLabelS.F.ks goto (laws_eqLabelS.F.fin ⟨ty, gl, laws_eqLabelS.md, calOf laws_eqLabelS.T 0⟩ [.bool]) laws_eqLabelS.F.c (laws_eqLabelS.lb y) (laws_eqLabelS.st y) = laws_eqLabelS.step n (fun z => goto (laws_eqLabelS.lb z) (laws_eqLabelS.st z)) y := by
  cases y <;> kernel_rfl
theorem laws_eqLabelS.text : Text Go.Proofs.Try.prog laws_eqLabelS.F laws_eqLabelS.spec := ⟨⟨Go.Proofs.Try.f15, by kernel_rfl, by kernel_rfl, by decide +kernel, by kernel_rfl, by kernel_rfl, of_decide_eq_true (by kernel_rfl)⟩, fun _ => rfl, fun _ => rfl, rfl⟩
theorem laws_eqLabelS.ok : CtrOK Go.Proofs.Try.prog gl laws_eqLabelS.spec :=
  ctr_ok (T := laws_eqLabelS.T) (F := laws_eqLabelS.F) (lb := laws_eqLabelS.lb) (st := laws_eqLabelS.st) (step := laws_eqLabelS.step) (md := laws_eqLabelS.md) tabs laws_eqLabelS.text laws_eqLabelS.seg_eq (fun n x => ⟨.p0 x.1 x.2.1, rfl, rfl, rfl⟩) (consC laws_eqLabel.ok (nilC))

/-! loop.example/g00039/laws.markText -/
def laws_markText.T : List Ctr := []
def laws_markText.md : List (Nat × List Md) := []
noncomputable def laws_markText.F : Fun := ⟨(Go.Proofs.Try.f58.body).getD .skip, [.v (.int .i64)], [(.tmp 2, .str)], [], 0, [(15, ⟨[0, 3], [], []⟩)]⟩
inductive laws_markText.Pt where
  | p0 (a0 : Int)
  | p15 (y1 : Int) (y2 : ByteArray)
def laws_markText.lb : laws_markText.Pt → Nat
  | .p0 _ => 0
  | .p15 _ _ => 15
def laws_markText.st : laws_markText.Pt → St
  | .p0 a0 => enter [.v (.int .i64) a0] 0
  | .p15 y1 y2 => ⟨[(0, .im (.int .i64) y1), (3, .im .str y2)], [], 0⟩
def laws_markText.step (n : Nat) (K : laws_markText.Pt → Option (Tup [.str])) : laws_markText.Pt → Option (Tup [.str])
  | .p0 a0 => cond (decide (a0 ≤ (0 : Int))) (some (⟨#[109, 48]⟩ : ByteArray)) (K (.p15 a0 (⟨#[]⟩ : ByteArray)))
  | .p15 y1 y2 => cond (decide ((0 : Int) < y1)) (cond (room ((ByteArray.size (ofOcts [(IntKind.wrap .u8 (IntKind.wrap .i64 ((48 : Int) + (Int.tmod y1 (10 : Int)))))])) + (ByteArray.size y2))) (K (.p15 (IntKind.wrap .i64 (Int.tdiv y1 (10 : Int))) ((ofOcts [(IntKind.wrap .u8 (IntKind.wrap .i64 ((48 : Int) + (Int.tmod y1 (10 : Int)))))]) ++ y2))) (none)) (cond (room ((ByteArray.size (⟨#[109]⟩ : ByteArray)) + (ByteArray.size y2))) (some ((⟨#[109]⟩ : ByteArray) ++ y2)) (none))
def laws_markText (n : Nat) (a0 : Int) : Option (Tup [.str]) := goRec laws_markText.step n (.p0 a0)
def laws_markText.spec : Ctr := ⟨58, [.v (.int .i64)], [.str], [], fun n x => laws_markText n x.1⟩
theorem laws_markText.seg_eq (n : Nat) (goto : Nat → St → Option (Tup [.str])) (y : laws_markText.Pt) : seg ⟨ty, gl, laws_markText.md, calOf laws_markText.T n⟩ laws_markText.F.np laws_markText.F.ks goto (laws_markText.F.fin ⟨ty, gl, laws_markText.md, calOf laws_markText.T 0⟩ [.str]) laws_markText.F.c (laws_markText.lb y) (laws_markText.st y) = laws_markText.step n (fun z => goto (laws_markText.lb z) (laws_markText.st z)) y := by
  cases y <;> kernel_rfl
theorem laws_markText.text : Text Go.Proofs.Try.prog laws_markText.F laws_markText.spec := ⟨⟨Go.Proofs.Try.f58, by kernel_rfl, by kernel_rfl, by decide +kernel, by kernel_rfl, by kernel_rfl, of_decide_eq_true (by kernel_rfl)⟩, fun _ => rfl, fun _ => rfl, rfl⟩
theorem laws_markText.ok : CtrOK Go.Proofs.Try.prog gl laws_markText.spec :=
  ctr_ok (T := laws_markText.T) (F := laws_markText.F) (lb := laws_markText.lb) (st := laws_markText.st) (step := laws_markText.step) (md := laws_markText.md) tabs laws_markText.text laws_markText.seg_eq (fun n x => ⟨.p0 x.1, rfl, rfl, rfl⟩) (nilC)

/-! loop.example/g00039/laws.markMatcherS -/
def laws_markMatcherS.T : List Ctr := [laws_markText.spec]
def laws_markMatcherS.md : List (Nat × List Md) := []
noncomputable def laws_markMatcherS.F : Fun := ⟨(Go.Proofs.Try.f59.body).getD .skip, [.s false (.pair .str (.pair (.int .i64) (.pair .str .unit))), .v (.int .i64)], [(.tmp 4, (.int .i64))], [none], 1, [(7, ⟨[0, 1, 5], [], []⟩)]⟩
inductive laws_markMatcherS.Pt where
  | p0 (a0 : List ((ByteArray) × ((Int) × ((ByteArray) × (Unit))))) (a1 : Int)
  | p7 (y1 : Int) (y2 : Int) (y3 : List ((ByteArray) × ((Int) × ((ByteArray) × (Unit)))))
def laws_markMatcherS.lb : laws_markMatcherS.Pt → Nat
  | .p0 _ _ => 0
  | .p7 _ _ _ => 7
def laws_markMatcherS.st : laws_markMatcherS.Pt → St
  | .p0 a0 a1 => enter [.s false (.pair .str (.pair (.int .i64) (.pair .str .unit))) a0, .v (.int .i64) a1] 1
  | .p7 y1 y2 y3 => ⟨[(0, .hs 0 [] none 0), (1, .im (.int .i64) y1), (5, .im (.int .i64) y2)], [(0, .arr false (.pair .str (.pair (.int .i64) (.pair .str .unit))) y3 0)], 1⟩
def laws_markMatcherS.step (n : Nat) (K : laws_markMatcherS.Pt → Option (Tup [(.int .i64), (.sl false (.pair .str (.pair (.int .i64) (.pair .str .unit))))])) : laws_markMatcherS.Pt → Option (Tup [(.int .i64), (.sl false (.pair .str (.pair (.int .i64) (.pair .str .unit))))])
  | .p0 a0 a1 => K (.p7 a1 (0 : Int) a0)
  | .p7 y1 y2 y3 => cond (decide (y2 < ((List.length y3) : Int))) ((laws_markText n y1).bind fun r6 => cond (inB y2 (List.length y3)) (cond (inB y2 (List.length (List.set y3 (0 + (Int.toNat y2)) (r6, (List.getD y3 (0 + (Int.toNat y2)) default).2)))) ((laws_markText n (IntKind.wrap .i64 ((IntKind.wrap .i64 (y1 + (1 : Int))) + (1 : Int)))).bind fun r7 => cond (inB y2 (List.length (List.set (List.set y3 (0 + (Int.toNat y2)) (r6, (List.getD y3 (0 + (Int.toNat y2)) default).2)) (0 + (Int.toNat y2)) ((List.getD (List.set y3 (0 + (Int.toNat y2)) (r6, (List.getD y3 (0 + (Int.toNat y2)) default).2)) (0 + (Int.toNat y2)) default).1, ((IntKind.wrap .i64 (y1 + (1 : Int))), (List.getD (List.set y3 (0 + (Int.toNat y2)) (r6, (List.getD y3 (0 + (Int.toNat y2)) default).2)) (0 + (Int.toNat y2)) default).2.2))))) (K (.p7 (IntKind.wrap .i64 ((IntKind.wrap .i64 ((IntKind.wrap .i64 (y1 + (1 : Int))) + (1 : Int))) + (1 : Int))) (IntKind.wrap .i64 (y2 + (1 : Int))) (List.set (List.set (List.set y3 (0 + (Int.toNat y2)) (r6, (List.getD y3 (0 + (Int.toNat y2)) default).2)) (0 + (Int.toNat y2)) ((List.getD (List.set y3 (0 + (Int.toNat y2)) (r6, (List.getD y3 (0 + (Int.toNat y2)) default).2)) (0 + (Int.toNat y2)) default).1, ((IntKind.wrap .i64 (y1 + (1 : Int))), (List.getD (List.set y3 (0 + (Int.toNat y2)) (r6, (List.getD y3 (0 + (Int.toNat y2)) default).2)) (0 + (Int.toNat y2)) default).2.2))) (0 + (Int.toNat y2)) ((List.getD (List.set (List.set y3 (0 + (Int.toNat y2)) (r6, (List.getD y3 (0 + (Int.toNat y2)) default).2)) (0 + (Int.toNat y2)) ((List.getD (List.set y3 (0 + (Int.toNat y2)) (r6, (List.getD y3 (0 + (Int.toNat y2)) default).2)) (0 + (Int.toNat y2)) default).1, ((IntKind.wrap .i64 (y1 + (1 : Int))), (List.getD (List.set y3 (0 + (Int.toNat y2)) (r6, (List.getD y3 (0 + (Int.toNat y2)) default).2)) (0 + (Int.toNat y2)) default).2.2))) (0 + (Int.toNat y2)) default).1, ((List.getD (List.set (List.set y3 (0 + (Int.toNat y2)) (r6, (List.getD y3 (0 + (Int.toNat y2)) default).2)) (0 + (Int.toNat y2)) ((List.getD (List.set y3 (0 + (Int.toNat y2)) (r6, (List.getD y3 (0 + (Int.toNat y2)) default).2)) (0 + (Int.toNat y2)) default).1, ((IntKind.wrap .i64 (y1 + (1 : Int))), (List.getD (List.set y3 (0 + (Int.toNat y2)) (r6, (List.getD y3 (0 + (Int.toNat y2)) default).2)) (0 + (Int.toNat y2)) default).2.2))) (0 + (Int.toNat y2)) default).2.1, (r7, (List.getD (List.set (List.set y3 (0 + (Int.toNat y2)) (r6, (List.getD y3 (0 + (Int.toNat y2)) default).2)) (0 + (Int.toNat y2)) ((List.getD (List.set y3 (0 + (Int.toNat y2)) (r6, (List.getD y3 (0 + (Int.toNat y2)) default).2)) (0 + (Int.toNat y2)) default).1, ((IntKind.wrap .i64 (y1 + (1 : Int))), (List.getD (List.set y3 (0 + (Int.toNat y2)) (r6, (List.getD y3 (0 + (Int.toNat y2)) default).2)) (0 + (Int.toNat y2)) default).2.2))) (0 + (Int.toNat y2)) default).2.2.2)))))) (none)) (none)) (none)) (some (y1, y3))
def laws_markMatcherS (n : Nat) (a0 : List ((ByteArray) × ((Int) × ((ByteArray) × (Unit))))) (a1 : Int) : Option (Tup [(.int .i64), (.sl false (.pair .str (.pair (.int .i64) (.pair .str .unit))))]) := goRec laws_markMatcherS.step n (.p0 a0 a1)
def laws_markMatcherS.spec : Ctr := ⟨59, [.s false (.pair .str (.pair (.int .i64) (.pair .str .unit))), .v (.int .i64)], [(.int .i64)], [(.sl false (.pair .str (.pair (.int .i64) (.pair .str .unit))))], fun n x => laws_markMatcherS n x.1 x.2.1⟩
theorem laws_markMatcherS.seg_eq (n : Nat) (goto : Nat → St → Option (Tup [(.int .i64), (.sl false (.pair .str (.pair (.int .i64) (.pair .str .unit))))])) (y : laws_markMatcherS.Pt) : seg ⟨ty, gl, laws_markMatcherS.md, calOf laws_markMatcherS.T n⟩ laws_markMatcherS.F.np laws_markMatcherS.F.ks goto (laws_markMatcherS.F.fin ⟨ty, gl, laws_markMatcherS.md, calOf laws_markMatcherS.T 0⟩ [(.int .i64), (.sl false (.pair .str (.pair (.int .i64) (.pair .str .unit))))]) laws_markMatcherS.F.c (laws_markMatcherS.lb y) (laws_markMatcherS.st y) = laws_markMatcherS.step n (fun z => goto (laws_markMatcherS.lb z) (laws_markMatcherS.st z)) y := by
  cases y <;> kernel_rfl
theorem laws_markMatcherS.text : Text Go.Proofs.Try.prog laws_markMatcherS.F laws_markMatcherS.spec := ⟨⟨Go.Proofs.Try.f59, by kernel_rfl, by kernel_rfl, by decide +kernel, by kernel_rfl, by kernel_rfl, of_decide_eq_true (by kernel_rfl)⟩, fun _ => rfl, fun _ => rfl, rfl⟩
theorem laws_markMatcherS.ok : CtrOK Go.Proofs.Try.prog gl laws_markMatcherS.spec :=
  ctr_ok (T := laws_markMatcherS.T) (F := laws_markMatcherS.F) (lb := laws_markMatcherS.lb) (st := laws_markMatcherS.st) (step := laws_markMatcherS.step) (md := laws_markMatcherS.md) tabs laws_markMatcherS.text laws_markMatcherS.seg_eq (fun n x => ⟨.p0 x.1 x.2.1, rfl, rfl, rfl⟩) (consC laws_markText.ok (nilC))

/-! loop.example/g00039/laws.markSilenceS -/
def laws_markSilenceS.T : List Ctr := [laws_markText.spec, laws_markMatcherS.spec]
def laws_markSilenceS.md : List (Nat × List Md) := [(59, [.s, .v])]
noncomputable def laws_markSilenceS.F : Fun := ⟨(Go.Proofs.Try.f16.body).getD .skip, [.s false (.pair .str (.pair (.sl false (.pair .str (.pair (.int .i64) (.pair .str .unit)))) (.pair (.int .i64) (.pair (.int .i64) .unit)))), .v (.int .i64)], [(.tmp 4, (.int .i64))], [none], 1, [(7, ⟨[0, 1, 5], [], []⟩)]⟩
inductive laws_markSilenceS.Pt where
  | p0 (a0 : List ((ByteArray) × ((List ((ByteArray) × ((Int) × ((ByteArray) × (Unit))))) × ((Int) × ((Int) × (Unit)))))) (a1 : Int)
  | p7 (y1 : Int) (y2 : Int) (y3 : List ((ByteArray) × ((List ((ByteArray) × ((Int) × ((ByteArray) × (Unit))))) × ((Int) × ((Int) × (Unit))))))
def laws_markSilenceS.lb : laws_markSilenceS.Pt → Nat
  | .p0 _ _ => 0
  | .p7 _ _ _ => 7
def laws_markSilenceS.st : laws_markSilenceS.Pt → St
  | .p0 a0 a1 => enter [.s false (.pair .str (.pair (.sl false (.pair .str (.pair (.int .i64) (.pair .str .unit)))) (.pair (.int .i64) (.pair (.int .i64) .unit)))) a0, .v (.int .i64) a1] 1
  | .p7 y1 y2 y3 => ⟨[(0, .hs 0 [] none 0), (1, .im (.int .i64) y1), (5, .im (.int .i64) y2)], [(0, .arr false (.pair .str (.pair (.sl false (.pair .str (.pair (.int .i64) (.pair .str .unit)))) (.pair (.int .i64) (.pair (.int .i64) .unit)))) y3 0)], 1⟩
def laws_markSilenceS.step (n : Nat) (K : laws_markSilenceS.Pt → Option (Tup [(.int .i64), (.sl false (.pair .str (.pair (.sl false (.pair .str (.pair (.int .i64) (.pair .str .unit)))) (.pair (.int .i64) (.pair (.int .i64) .unit)))))])) : laws_markSilenceS.Pt → Option (Tup [(.int .i64), (.sl false (.pair .str (.pair (.sl false (.pair .str (.pair (.int .i64) (.pair .str .unit)))) (.pair (.int .i64) (.pair (.int .i64) .unit)))))])
  | .p0 a0 a1 => K (.p7 a1 (0 : Int) a0)
  | .p7 y1 y2 y3 => cond (decide (y2 < ((List.length y3) : Int))) ((laws_markText n y1).bind fun r6 => cond (inB y2 (List.length y3)) (cond (inB y2 (List.length (List.set y3 (0 + (Int.toNat y2)) (r6, (List.getD y3 (0 + (Int.toNat y2)) default).2)))) ((laws_markMatcherS n (List.getD (List.set y3 (0 + (Int.toNat y2)) (r6, (List.getD y3 (0 + (Int.toNat y2)) default).2)) (0 + (Int.toNat y2)) default).2.1 (IntKind.wrap .i64 (y1 + (1 : Int)))).bind fun r7 => cond (inB y2 (List.length (List.set (List.set y3 (0 + (Int.toNat y2)) (r6, (List.getD y3 (0 + (Int.toNat y2)) default).2)) (0 + (Int.toNat y2)) ((List.getD (List.set y3 (0 + (Int.toNat y2)) (r6, (List.getD y3 (0 + (Int.toNat y2)) default).2)) (0 + (Int.toNat y2)) default).1, (r7.2, (List.getD (List.set y3 (0 + (Int.toNat y2)) (r6, (List.getD y3 (0 + (Int.toNat y2)) default).2)) (0 + (Int.toNat y2)) default).2.2))))) (cond (inB y2 (List.length (List.set (List.set (List.set y3 (0 + (Int.toNat y2)) (r6, (List.getD y3 (0 + (Int.toNat y2)) default).2)) (0 + (Int.toNat y2)) ((List.getD (List.set y3 (0 + (Int.toNat y2)) (r6, (List.getD y3 (0 + (Int.toNat y2)) default).2)) (0 + (Int.toNat y2)) default).1, (r7.2, (List.getD (List.set y3 (0 + (Int.toNat y2)) (r6, (List.getD y3 (0 + (Int.toNat y2)) default).2)) (0 + (Int.toNat y2)) default).2.2))) (0 + (Int.toNat y2)) ((List.getD (List.set (List.set y3 (0 + (Int.toNat y2)) (r6, (List.getD y3 (0 + (Int.toNat y2)) default).2)) (0 + (Int.toNat y2)) ((List.getD (List.set y3 (0 + (Int.toNat y2)) (r6, (List.getD y3 (0 + (Int.toNat y2)) default).2)) (0 + (Int.toNat y2)) default).1, (r7.2, (List.getD (List.set y3 (0 + (Int.toNat y2)) (r6, (List.getD y3 (0 + (Int.toNat y2)) default).2)) (0 + (Int.toNat y2)) default).2.2))) (0 + (Int.toNat y2)) default).1, ((List.getD (List.set (List.set y3 (0 + (Int.toNat y2)) (r6, (List.getD y3 (0 + (Int.toNat y2)) default).2)) (0 + (Int.toNat y2)) ((List.getD (List.set y3 (0 + (Int.toNat y2)) (r6, (List.getD y3 (0 + (Int.toNat y2)) default).2)) (0 + (Int.toNat y2)) default).1, (r7.2, (List.getD (List.set y3 (0 + (Int.toNat y2)) (r6, (List.getD y3 (0 + (Int.toNat y2)) default).2)) (0 + (Int.toNat y2)) default).2.2))) (0 + (Int.toNat y2)) default).2.1, (r7.1, (List.getD (List.set (List.set y3 (0 + (Int.toNat y2)) (r6, (List.getD y3 (0 + (Int.toNat y2)) default).2)) (0 + (Int.toNat y2)) ((List.getD (List.set y3 (0 + (Int.toNat y2)) (r6, (List.getD y3 (0 + (Int.toNat y2)) default).2)) (0 + (Int.toNat y2)) default).1, (r7.2, (List.getD (List.set y3 (0 + (Int.toNat y2)) (r6, (List.getD y3 (0 + (Int.toNat y2)) default).2)) (0 + (Int.toNat y2)) default).2.2))) (0 + (Int.toNat y2)) default).2.2.2)))))) (K (.p7 (IntKind.wrap .i64 ((IntKind.wrap .i64 (r7.1 + (1 : Int))) + (1 : Int))) (IntKind.wrap .i64 (y2 + (1 : Int))) (List.set (List.set (List.set (List.set y3 (0 + (Int.toNat y2)) (r6, (List.getD y3 (0 + (Int.toNat y2)) default).2)) (0 + (Int.toNat y2)) ((List.getD (List.set y3 (0 + (Int.toNat y2)) (r6, (List.getD y3 (0 + (Int.toNat y2)) default).2)) (0 + (Int.toNat y2)) default).1, (r7.2, (List.getD (List.set y3 (0 + (Int.toNat y2)) (r6, (List.getD y3 (0 + (Int.toNat y2)) default).2)) (0 + (Int.toNat y2)) default).2.2))) (0 + (Int.toNat y2)) ((List.getD (List.set (List.set y3 (0 + (Int.toNat y2)) (r6, (List.getD y3 (0 + (Int.toNat y2)) default).2)) (0 + (Int.toNat y2)) ((List.getD (List.set y3 (0 + (Int.toNat y2)) (r6, (List.getD y3 (0 + (Int.toNat y2)) default).2)) (0 + (Int.toNat y2)) default).1, (r7.2, (List.getD (List.set y3 (0 + (Int.toNat y2)) (r6, (List.getD y3 (0 + (Int.toNat y2)) default).2)) (0 + (Int.toNat y2)) default).2.2))) (0 + (Int.toNat y2)) default).1, ((List.getD (List.set (List.set y3 (0 + (Int.toNat y2)) (r6, (List.getD y3 (0 + (Int.toNat y2)) default).2)) (0 + (Int.toNat y2)) ((List.getD (List.set y3 (0 + (Int.toNat y2)) (r6, (List.getD y3 (0 + (Int.toNat y2)) default).2)) (0 + (Int.toNat y2)) default).1, (r7.2, (List.getD (List.set y3 (0 + (Int.toNat y2)) (r6, (List.getD y3 (0 + (Int.toNat y2)) default).2)) (0 + (Int.toNat y2)) default).2.2))) (0 + (Int.toNat y2)) default).2.1, (r7.1, (List.getD (List.set (List.set y3 (0 + (Int.toNat y2)) (r6, (List.getD y3 (0 + (Int.toNat y2)) default).2)) (0 + (Int.toNat y2)) ((List.getD (List.set y3 (0 + (Int.toNat y2)) (r6, (List.getD y3 (0 + (Int.toNat y2)) default).2)) (0 + (Int.toNat y2)) default).1, (r7.2, (List.getD (List.set y3 (0 + (Int.toNat y2)) (r6, (List.getD y3 (0 + (Int.toNat y2)) default).2)) (0 + (Int.toNat y2)) default).2.2))) (0 + (Int.toNat y2)) default).2.2.2)))) (0 + (Int.toNat y2)) ((List.getD (List.set (List.set (List.set y3 (0 + (Int.toNat y2)) (r6, (List.getD y3 (0 + (Int.toNat y2)) default).2)) (0 + (Int.toNat y2)) ((List.getD (List.set y3 (0 + (Int.toNat y2)) (r6, (List.getD y3 (0 + (Int.toNat y2)) default).2)) (0 + (Int.toNat y2)) default).1, (r7.2, (List.getD (List.set y3 (0 + (Int.toNat y2)) (r6, (List.getD y3 (0 + (Int.toNat y2)) default).2)) (0 + (Int.toNat y2)) default).2.2))) (0 + (Int.toNat y2)) ((List.getD (List.set (List.set y3 (0 + (Int.toNat y2)) (r6, (List.getD y3 (0 + (Int.toNat y2)) default).2)) (0 + (Int.toNat y2)) ((List.getD (List.set y3 (0 + (Int.toNat y2)) (r6, (List.getD y3 (0 + (Int.toNat y2)) default).2)) (0 + (Int.toNat y2)) default).1, (r7.2, (List.getD (List.set y3 (0 + (Int.toNat y2)) (r6, (List.getD y3 (0 + (Int.toNat y2)) default).2)) (0 + (Int.toNat y2)) default).2.2))) (0 + (Int.toNat y2)) default).1, ((List.getD (List.set (List.set y3 (0 + (Int.toNat y2)) (r6, (List.getD y3 (0 + (Int.toNat y2)) default).2)) (0 + (Int.toNat y2)) ((List.getD (List.set y3 (0 + (Int.toNat y2)) (r6, (List.getD y3 (0 + (Int.toNat y2)) default).2)) (0 + (Int.toNat y2)) default).1, (r7.2, (List.getD (List.set y3 (0 + (Int.toNat y2)) (r6, (List.getD y3 (0 + (Int.toNat y2)) default).2)) (0 + (Int.toNat y2)) default).2.2))) (0 + (Int.toNat y2)) default).2.1, (r7.1, (List.getD (List.set (List.set y3 (0 + (Int.toNat y2)) (r6, (List.getD y3 (0 + (Int.toNat y2)) default).2)) (0 + (Int.toNat y2)) ((List.getD (List.set y3 (0 + (Int.toNat y2)) (r6, (List.getD y3 (0 + (Int.toNat y2)) default).2)) (0 + (Int.toNat y2)) default).1, (r7.2, (List.getD (List.set y3 (0 + (Int.toNat y2)) (r6, (List.getD y3 (0 + (Int.toNat y2)) default).2)) (0 + (Int.toNat y2)) default).2.2))) (0 + (Int.toNat y2)) default).2.2.2)))) (0 + (Int.toNat y2)) default).1, ((List.getD (List.set (List.set (List.set y3 (0 + (Int.toNat y2)) (r6, (List.getD y3 (0 + (Int.toNat y2)) default).2)) (0 + (Int.toNat y2)) ((List.getD (List.set y3 (0 + (Int.toNat y2)) (r6, (List.getD y3 (0 + (Int.toNat y2)) default).2)) (0 + (Int.toNat y2)) default).1, (r7.2, (List.getD (List.set y3 (0 + (Int.toNat y2)) (r6, (List.getD y3 (0 + (Int.toNat y2)) default).2)) (0 + (Int.toNat y2)) default).2.2))) (0 + (Int.toNat y2)) ((List.getD (List.set (List.set y3 (0 + (Int.toNat y2)) (r6, (List.getD y3 (0 + (Int.toNat y2)) default).2)) (0 + (Int.toNat y2)) ((List.getD (List.set y3 (0 + (Int.toNat y2)) (r6, (List.getD y3 (0 + (Int.toNat y2)) default).2)) (0 + (Int.toNat y2)) default).1, (r7.2, (List.getD (List.set y3 (0 + (Int.toNat y2)) (r6, (List.getD y3 (0 + (Int.toNat y2)) default).2)) (0 + (Int.toNat y2)) default).2.2))) (0 + (Int.toNat y2)) default).1, ((List.getD (List.set (List.set y3 (0 + (Int.toNat y2)) (r6, (List.getD y3 (0 + (Int.toNat y2)) default).2)) (0 + (Int.toNat y2)) ((List.getD (List.set y3 (0 + (Int.toNat y2)) (r6, (List.getD y3 (0 + (Int.toNat y2)) default).2)) (0 + (Int.toNat y2)) default).1, (r7.2, (List.getD (List.set y3 (0 + (Int.toNat y2)) (r6, (List.getD y3 (0 + (Int.toNat y2)) default).2)) (0 + (Int.toNat y2)) default).2.2))) (0 + (Int.toNat y2)) default).2.1, (r7.1, (List.getD (List.set (List.set y3 (0 + (Int.toNat y2)) (r6, (List.getD y3 (0 + (Int.toNat y2)) default).2)) (0 + (Int.toNat y2)) ((List.getD (List.set y3 (0 + (Int.toNat y2)) (r6, (List.getD y3 (0 + (Int.toNat y2)) default).2)) (0 + (Int.toNat y2)) default).1, (r7.2, (List.getD (List.set y3 (0 + (Int.toNat y2)) (r6, (List.getD y3 (0 + (Int.toNat y2)) default).2)) (0 + (Int.toNat y2)) default).2.2))) (0 + (Int.toNat y2)) default).2.2.2)))) (0 + (Int.toNat y2)) default).2.1, ((List.getD (List.set (List.set (List.set y3 (0 + (Int.toNat y2)) (r6, (List.getD y3 (0 + (Int.toNat y2)) default).2)) (0 + (Int.toNat y2)) ((List.getD (List.set y3 (0 + (Int.toNat y2)) (r6, (List.getD y3 (0 + (Int.toNat y2)) default).2)) (0 + (Int.toNat y2)) default).1, (r7.2, (List.getD (List.set y3 (0 + (Int.toNat y2)) (r6, (List.getD y3 (0 + (Int.toNat y2)) default).2)) (0 + (Int.toNat y2)) default).2.2))) (0 + (Int.toNat y2)) ((List.getD (List.set (List.set y3 (0 + (Int.toNat y2)) (r6, (List.getD y3 (0 + (Int.toNat y2)) default).2)) (0 + (Int.toNat y2)) ((List.getD (List.set y3 (0 + (Int.toNat y2)) (r6, (List.getD y3 (0 + (Int.toNat y2)) default).2)) (0 + (Int.toNat y2)) default).1, (r7.2, (List.getD (List.set y3 (0 + (Int.toNat y2)) (r6, (List.getD y3 (0 + (Int.toNat y2)) default).2)) (0 + (Int.toNat y2)) default).2.2))) (0 + (Int.toNat y2)) default).1, ((List.getD (List.set (List.set y3 (0 + (Int.toNat y2)) (r6, (List.getD y3 (0 + (Int.toNat y2)) default).2)) (0 + (Int.toNat y2)) ((List.getD (List.set y3 (0 + (Int.toNat y2)) (r6, (List.getD y3 (0 + (Int.toNat y2)) default).2)) (0 + (Int.toNat y2)) default).1, (r7.2, (List.getD (List.set y3 (0 + (Int.toNat y2)) (r6, (List.getD y3 (0 + (Int.toNat y2)) default).2)) (0 + (Int.toNat y2)) default).2.2))) (0 + (Int.toNat y2)) default).2.1, (r7.1, (List.getD (List.set (List.set y3 (0 + (Int.toNat y2)) (r6, (List.getD y3 (0 + (Int.toNat y2)) default).2)) (0 + (Int.toNat y2)) ((List.getD (List.set y3 (0 + (Int.toNat y2)) (r6, (List.getD y3 (0 + (Int.toNat y2)) default).2)) (0 + (Int.toNat y2)) default).1, (r7.2, (List.getD (List.set y3 (0 + (Int.toNat y2)) (r6, (List.getD y3 (0 + (Int.toNat y2)) default).2)) (0 + (Int.toNat y2)) default).2.2))) (0 + (Int.toNat y2)) default).2.2.2)))) (0 + (Int.toNat y2)) default).2.2.1, ((IntKind.wrap .i64 (r7.1 + (1 : Int))), (List.getD (List.set (List.set (List.set y3 (0 + (Int.toNat y2)) (r6, (List.getD y3 (0 + (Int.toNat y2)) default).2)) (0 + (Int.toNat y2)) ((List.getD (List.set y3 (0 + (Int.toNat y2)) (r6, (List.getD y3 (0 + (Int.toNat y2)) default).2)) (0 + (Int.toNat y2)) default).1, (r7.2, (List.getD (List.set y3 (0 + (Int.toNat y2)) (r6, (List.getD y3 (0 + (Int.toNat y2)) default).2)) (0 + (Int.toNat y2)) default).2.2))) (0 + (Int.toNat y2)) ((List.getD (List.set (List.set y3 (0 + (Int.toNat y2)) (r6, (List.getD y3 (0 + (Int.toNat y2)) default).2)) (0 + (Int.toNat y2)) ((List.getD (List.set y3 (0 + (Int.toNat y2)) (r6, (List.getD y3 (0 + (Int.toNat y2)) default).2)) (0 + (Int.toNat y2)) default).1, (r7.2, (List.getD (List.set y3 (0 + (Int.toNat y2)) (r6, (List.getD y3 (0 + (Int.toNat y2)) default).2)) (0 + (Int.toNat y2)) default).2.2))) (0 + (Int.toNat y2)) default).1, ((List.getD (List.set (List.set y3 (0 + (Int.toNat y2)) (r6, (List.getD y3 (0 + (Int.toNat y2)) default).2)) (0 + (Int.toNat y2)) ((List.getD (List.set y3 (0 + (Int.toNat y2)) (r6, (List.getD y3 (0 + (Int.toNat y2)) default).2)) (0 + (Int.toNat y2)) default).1, (r7.2, (List.getD (List.set y3 (0 + (Int.toNat y2)) (r6, (List.getD y3 (0 + (Int.toNat y2)) default).2)) (0 + (Int.toNat y2)) default).2.2))) (0 + (Int.toNat y2)) default).2.1, (r7.1, (List.getD (List.set (List.set y3 (0 + (Int.toNat y2)) (r6, (List.getD y3 (0 + (Int.toNat y2)) default).2)) (0 + (Int.toNat y2)) ((List.getD (List.set y3 (0 + (Int.toNat y2)) (r6, (List.getD y3 (0 + (Int.toNat y2)) default).2)) (0 + (Int.toNat y2)) default).1, (r7.2, (List.getD (List.set y3 (0 + (Int.toNat y2)) (r6, (List.getD y3 (0 + (Int.toNat y2)) default).2)) (0 + (Int.toNat y2)) default).2.2))) (0 + (Int.toNat y2)) default).2.2.2)))) (0 + (Int.toNat y2)) default).2.2.2.2))))))) (none)) (none)) (none)) (none)) (some (y1, y3))
def laws_markSilenceS (n : Nat) (a0 : List ((ByteArray) × ((List ((ByteArray) × ((Int) × ((ByteArray) × (Unit))))) × ((Int) × ((Int) × (Unit)))))) (a1 : Int) : Option (Tup [(.int .i64), (.sl false (.pair .str (.pair (.sl false (.pair .str (.pair (.int .i64) (.pair .str .unit)))) (.pair (.int .i64) (.pair (.int .i64) .unit)))))]) := goRec laws_markSilenceS.step n (.p0 a0 a1)
def laws_markSilenceS.spec : Ctr := ⟨16, [.s false (.pair .str (.pair (.sl false (.pair .str (.pair (.int .i64) (.pair .str .unit)))) (.pair (.int .i64) (.pair (.int .i64) .unit)))), .v (.int .i64)], [(.int .i64)], [(.sl false (.pair .str (.pair (.sl false (.pair .str (.pair (.int .i64) (.pair .str .unit)))) (.pair (.int .i64) (.pair (.int .i64) .unit)))))], fun n x => laws_markSilenceS n x.1 x.2.1⟩
theorem laws_markSilenceS.seg_eq (n : Nat) (goto : Nat → St → Option (Tup [(.int .i64), (.sl false (.pair .str (.pair (.sl false (.pair .str (.pair (.int .i64) (.pair .str .unit)))) (.pair (.int .i64) (.pair (.int .i64) .unit)))))])) (y : laws_markSilenceS.Pt) : seg ⟨ty, gl, laws_markSilenceS.md, calOf laws_markSilenceS.T n⟩ laws_markSilenceS.F.np laws_markSilenceS.F.ks goto (laws_markSilenceS.F.fin ⟨ty, gl, laws_markSilenceS.md, calOf laws_markSilenceS.T 0⟩ [(.int .i64), (.sl false (.pair .str (.pair (.sl false (.pair .str (.pair (.int .i64) (.pair .str .unit)))) (.pair (.int .i64) (.pair (.int .i64) .unit)))))]) laws_markSilenceS.F.c (laws_markSilenceS.lb y) (laws_markSilenceS.st y) = laws_markSilenceS.step n (fun z => goto (laws_markSilenceS.lb z) (laws_markSilenceS.st z)) y := by
  cases y <;> kernel_rfl
theorem laws_markSilenceS.text : Text Go.Proofs.Try.prog laws_markSilenceS.F laws_markSilenceS.spec := ⟨⟨Go.Proofs.Try.f16, by kernel_rfl, by kernel_rfl, by decide +kernel, by kernel_rfl, by kernel_rfl, of_decide_eq_true (by kernel_rfl)⟩, fun _ => rfl, fun _ => rfl, rfl⟩
theorem laws_markSilenceS.ok : CtrOK Go.Proofs.Try.prog gl laws_markSilenceS.spec :=
  ctr_ok (T := laws_markSilenceS.T) (F := laws_markSilenceS.F) (lb := laws_markSilenceS.lb) (st := laws_markSilenceS.st) (step := laws_markSilenceS.step) (md := laws_markSilenceS.md) tabs laws_markSilenceS.text laws_markSilenceS.seg_eq (fun n x => ⟨.p0 x.1 x.2.1, rfl, rfl, rfl⟩) (consC laws_markText.ok (consC laws_markMatcherS.ok (nilC)))

/-! loop.example/g00039/laws.markLabelS -/
def laws_markLabelS.T : List Ctr := [laws_markText.spec]
def laws_markLabelS.md : List (Nat × List Md) := []
noncomputable def laws_markLabelS.F : Fun := ⟨(Go.Proofs.Try.f17.body).getD .skip, [.s false (.pair .str (.pair .str .unit)), .v (.int .i64)], [(.tmp 4, (.int .i64))], [none], 1, [(7, ⟨[0, 1, 5], [], []⟩)]⟩
inductive laws_markLabelS.Pt where
  | p0 (a0 : List ((ByteArray) × ((ByteArray) × (Unit)))) (a1 : Int)
  | p7 (y1 : Int) (y2 : Int) (y3 : List ((ByteArray) × ((ByteArray) × (Unit))))
def laws_markLabelS.lb : laws_markLabelS.Pt → Nat
  | .p0 _ _ => 0
  | .p7 _ _ _ => 7
def laws_markLabelS.st : laws_markLabelS.Pt → St
  | .p0 a0 a1 => enter [.s false (.pair .str (.pair .str .unit)) a0, .v (.int .i64) a1] 1
  | .p7 y1 y2 y3 => ⟨[(0, .hs 0 [] none 0), (1, .im (.int .i64) y1), (5, .im (.int .i64) y2)], [(0, .arr false (.pair .str (.pair .str .unit)) y3 0)], 1⟩
def laws_markLabelS.step (n : Nat) (K : laws_markLabelS.Pt → Option (Tup [(.int .i64), (.sl false (.pair .str (.pair .str .unit)))])) : laws_markLabelS.Pt → Option (Tup [(.int .i64), (.sl false (.pair .str (.pair .str .unit)))])
  | .p0 a0 a1 => K (.p7 a1 (0 : Int) a0)
  | .p7 y1 y2 y3 => cond (decide (y2 < ((List.length y3) : Int))) ((laws_markText n y1).bind fun r6 => cond (inB y2 (List.length y3)) ((laws_markText n (IntKind.wrap .i64 (y1 + (1 : Int)))).bind fun r7 => cond (inB y2 (List.length (List.set y3 (0 + (Int.toNat y2)) (r6, (List.getD y3 (0 + (Int.toNat y2)) default).2)))) (K (.p7 (IntKind.wrap .i64 ((IntKind.wrap .i64 (y1 + (1 : Int))) + (1 : Int))) (IntKind.wrap .i64 (y2 + (1 : Int))) (List.set (List.set y3 (0 + (Int.toNat y2)) (r6, (List.getD y3 (0 + (Int.toNat y2)) default).2)) (0 + (Int.toNat y2)) ((List.getD (List.set y3 (0 + (Int.toNat y2)) (r6, (List.getD y3 (0 + (Int.toNat y2)) default).2)) (0 + (Int.toNat y2)) default).1, (r7, (List.getD (List.set y3 (0 + (Int.toNat y2)) (r6, (List.getD y3 (0 + (Int.toNat y2)) default).2)) (0 + (Int.toNat y2)) default).2.2))))) (none)) (none)) (some (y1, y3))
def laws_markLabelS (n : Nat) (a0 : List ((ByteArray) × ((ByteArray) × (Unit)))) (a1 : Int) : Option (Tup [(.int .i64), (.sl false (.pair .str (.pair .str .unit)))]) := goRec laws_markLabelS.step n (.p0 a0 a1)
def laws_markLabelS.spec : Ctr := ⟨17, [.s false (.pair .str (.pair .str .unit)), .v (.int .i64)], [(.int .i64)], [(.sl false (.pair .str (.pair .str .unit)))], fun n x => laws_markLabelS n x.1 x.2.1⟩
theorem laws_markLabelS.seg_eq (n : Nat) (goto : Nat → St → Option (Tup [(.int .i64), (.sl false (.pair .str (.pair .str .unit)))])) (y : laws_markLabelS.Pt) : seg ⟨ty, gl, laws_markLabelS.md, calOf laws_markLabelS.T n⟩ laws_markLabelS.F.np laws_markLabelS.F.ks goto (laws_markLabelS.F.fin ⟨ty, gl, laws_markLabelS.md, calOf laws_markLabelS.T 0⟩ [(.int .i64), (.sl false (.pair .str (.pair .str .unit)))]) laws_markLabelS.F.c (laws_markLabelS.lb y) (laws_markLabelS.st y) = laws_markLabelS.step n (fun z => goto (laws_markLabelS.lb z) (laws_markLabelS.st z)) y := by
  cases y <;> kernel_rfl
theorem laws_markLabelS.text : Text Go.Proofs.Try.prog laws_markLabelS.F laws_markLabelS.spec := ⟨⟨Go.Proofs.Try.f17, by kernel_rfl, by kernel_rfl, by decide +kernel, by kernel_rfl, by kernel_rfl, of_decide_eq_true (by kernel_rfl)⟩, fun _ => rfl, fun _ => rfl, rfl⟩
theorem laws_markLabelS.ok : CtrOK Go.Proofs.Try.prog gl laws_markLabelS.spec :=
  ctr_ok (T := laws_markLabelS.T) (F := laws_markLabelS.F) (lb := laws_markLabelS.lb) (st := laws_markLabelS.st) (step := laws_markLabelS.step) (md := laws_markLabelS.md) tabs laws_markLabelS.text laws_markLabelS.seg_eq (fun n x => ⟨.p0 x.1 x.2.1, rfl, rfl, rfl⟩) (consC laws_markText.ok (nilC))

/-! loop.example/g00039/laws.markStringS -/
def laws_markStringS.T : List Ctr := [laws_markText.spec]
def laws_markStringS.md : List (Nat × List Md) := []
noncomputable def laws_markStringS.F : Fun := ⟨(Go.Proofs.Try.f18.body).getD .skip, [.s false .str, .v (.int .i64)], [(.tmp 4, (.int .i64))], [none], 1, [(7, ⟨[0, 1, 5], [], []⟩)]⟩
inductive laws_markStringS.Pt where
  | p0 (a0 : List (ByteArray)) (a1 : Int)
  | p7 (y1 : Int) (y2 : Int) (y3 : List (ByteArray))
def laws_markStringS.lb : laws_markStringS.Pt → Nat
  | .p0 _ _ => 0
  | .p7 _ _ _ => 7
def laws_markStringS.st : laws_markStringS.Pt → St
  | .p0 a0 a1 => enter [.s false .str a0, .v (.int .i64) a1] 1
  | .p7 y1 y2 y3 => ⟨[(0, .hs 0 [] none 0), (1, .im (.int .i64) y1), (5, .im (.int .i64) y2)], [(0, .arr false .str y3 0)], 1⟩
def laws_markStringS.step (n : Nat) (K : laws_markStringS.Pt → Option (Tup [(.int .i64), (.sl false .str)])) : laws_markStringS.Pt → Option (Tup [(.int .i64), (.sl false .str)])
  | .p0 a0 a1 => K (.p7 a1 (0 : Int) a0)
  | .p7 y1 y2 y3 => cond (decide (y2 < ((List.length y3) : Int))) ((laws_markText n y1).bind fun r6 => cond (inB y2 (List.length y3)) (K (.p7 (IntKind.wrap .i64 (y1 + (1 : Int))) (IntKind.wrap .i64 (y2 + (1 : Int))) (List.set y3 (0 + (Int.toNat y2)) r6))) (none)) (some (y1, y3))
def laws_markStringS (n : Nat) (a0 : List (ByteArray)) (a1 : Int) : Option (Tup [(.int .i64), (.sl false .str)]) := goRec laws_markStringS.step n (.p0 a0 a1)
def laws_markStringS.spec : Ctr := ⟨18, [.s false .str, .v (.int .i64)], [(.int .i64)], [(.sl false .str)], fun n x => laws_markStringS n x.1 x.2.1⟩
theorem laws_markStringS.seg_eq (n : Nat) (goto : Nat → St → Option (Tup [(.int .i64), (.sl false .str)])) (y : laws_markStringS.Pt) : seg ⟨ty, gl, laws_markStringS.md, calOf laws_markStringS.T n⟩ laws_markStringS.F.np laws_markStringS.F.ks goto (laws_markStringS.F.fin ⟨ty, gl, laws_markStringS.md, calOf laws_markStringS.T 0⟩ [(.int .i64), (.sl false .str)]) laws_markStringS.F.c (laws_markStringS.lb y) (laws_markStringS.st y) = laws_markStringS.step n (fun z => goto (laws_markStringS.lb z) (laws_markStringS.st z)) y := by
  cases y <;> kernel_rfl
theorem laws_markStringS.text : Text Go.Proofs.Try.prog laws_markStringS.F laws_markStringS.spec := ⟨⟨Go.Proofs.Try.f18, by kernel_rfl, by kernel_rfl, by decide +kernel, by kernel_rfl, by kernel_rfl, of_decide_eq_true (by kernel_rfl)⟩, fun _ => rfl, fun _ => rfl, rfl⟩
theorem laws_markStringS.ok : CtrOK Go.Proofs.Try.prog gl laws_markStringS.spec :=
  ctr_ok (T := laws_markStringS.T) (F := laws_markStringS.F) (lb := laws_markStringS.lb) (st := laws_markStringS.st) (step := laws_markStringS.step) (md := laws_markStringS.md) tabs laws_markStringS.text laws_markStringS.seg_eq (fun n x => ⟨.p0 x.1 x.2.1, rfl, rfl, rfl⟩) (consC laws_markText.ok (nilC))

end Go.SI
