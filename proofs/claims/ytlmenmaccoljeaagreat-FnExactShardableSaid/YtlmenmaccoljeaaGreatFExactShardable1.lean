/- The functions that the law reaches, each as a Lean function and with its contract, part 1. -/
import Derived.Test.YtlmenmaccoljeaaGreatV1
import Derived.Test.YtlmenmaccoljeaaGreatV2
import Derived.Test.YtlmenmaccoljeaaGreatV3
import Derived.Test.YtlmenmaccoljeaaGreatV4
import Derived.Lib.Bytealg
import Derived.Shelf.Lays
import Derived.Shelf.Small.Strs
import Derived.Lib.Join
import Derived.Shelf.Strings.OnBuilder
import Derived.Lib.Repeat
import Derived.Shelf.Strings.Repeat
import Derived.Test.YtlmenmaccoljeaaGreatProg
open Go Go.VM
namespace Go.SH
set_option maxRecDepth 100000
set_option linter.unusedVariables false
set_option linter.unusedSimpArgs false
set_option linter.unusedSectionVars false
variable [Bor]
abbrev cU3 : U := (.pair .str (.pair (.int .i64) (.pair .str .unit)))
abbrev cU0 : U := (.pair (.int .i64) (.pair (.int .i64) (.pair (.int .i64) (.pair .str (.pair (.int .i64) (.pair (.bs cU3) (.pair (.int .i64) (.pair .bool (.pair (.int .i64) (.pair .bool (.pair (.int .i64) (.pair (.bs .str) (.pair (.int .i64) (.pair (.bs .str) (.pair (.int .i64) .unit)))))))))))))))
abbrev cU2 : U := (.pair (.int .i64) (.pair (.int .i64) (.pair (.int .i64) (.pair .str (.pair (.int .i64) (.pair (.sl false cU3) (.pair (.int .i64) (.pair .bool (.pair (.int .i64) (.pair .bool (.pair (.int .i64) (.pair (.sl false .str) (.pair (.int .i64) (.pair (.sl false .str) (.pair (.int .i64) .unit)))))))))))))))
abbrev tU4 : Type := (ByteArray) × ((Int) × ((ByteArray) × (Unit)))
abbrev tU1 : Type := (Int) × ((Int) × ((Int) × ((ByteArray) × ((Int) × ((List (tU4)) × ((Int) × ((Bool) × ((Int) × ((Bool) × ((Int) × ((List (ByteArray)) × ((Int) × ((List (ByteArray)) × ((Int) × (Unit)))))))))))))))
abbrev cU5 : U := (.pair (.int .i64) (.pair (.int .i64) (.pair (.sl false (.pair .str (.pair .str .unit))) (.pair .str .unit))))
def ty : List (Nat × U) := [(1, .oth), (2, (.int .i64)), (3, (.int .i64)), (4, .bool), (5, (.int .u8)), (6, (.int .u8)), (7, (.pair (.int .i64) (.pair (.int .i64) (.pair .bool (.pair (.int .u8) .unit))))), (8, (.pair (.int .i64) (.pair (.int .i64) (.pair .bool (.pair (.int .u8) .unit))))), (9, .str), (10, .str), (11, .str), (12, (.int .u64)), (15, .oth), (16, .oth), (17, .oth), (18, (.pair .oth .unit)), (19, (.pair .oth .unit)), (20, .oth), (21, (.int .i32)), (22, (.sl false cU2)), (23, .oth), (24, .oth), (25, (.sl false cU2)), (26, .oth), (27, .oth), (28, .oth), (29, (.sl false (.pair .str (.pair .bool (.pair (.sl false cU2) cU5))))), (30, (.pair (.int .i64) (.pair (.sl false (.pair .str (.pair .bool (.pair (.sl false cU2) cU5)))) .unit))), (31, (.pair (.int .i64) (.pair (.sl false (.pair .str (.pair .bool (.pair (.sl false cU2) cU5)))) .unit))), (32, .oth), (33, .oth), (34, (.sl false (.pair .str (.pair .bool (.pair (.sl false cU2) cU5))))), (35, (.pair (.int .i64) (.pair (.sl false (.pair .str (.pair .bool (.pair (.sl false cU2) cU5)))) .unit))), (36, (.pair (.int .i64) (.pair (.sl false (.pair .str (.pair .bool (.pair (.sl false cU2) cU5)))) .unit))), (37, .oth), (38, .oth), (39, .oth), (40, .oth), (41, .oth), (42, .oth), (43, (.sl false cU3)), (44, (.sl false .str)), (45, cU2), (46, cU2), (47, (.sl false cU3)), (48, cU2), (49, cU2), (50, (.sl false (.tr cU0))), (51, (.pair cU2 (.pair (.sl false (.tr cU0)) .unit))), (52, (.tr cU0)), (54, .oth), (55, .oth), (56, .oth), (57, (.pt cU0)), (58, .oth), (59, .oth), (60, .oth), (61, .oth), (62, (.sl false (.pair .str (.pair .str .unit)))), (63, (.pair .str (.pair .bool (.pair (.sl false cU2) cU5)))), (64, (.pair .str (.pair .bool (.pair (.sl false cU2) cU5)))), (65, .oth), (66, .oth), (67, .oth), (68, .oth), (69, .oth), (70, .oth), (71, .oth), (72, .oth), (73, .oth), (74, .oth), (75, .oth), (76, .oth), (78, .oth), (79, .oth), (80, .oth), (81, .oth), (82, .oth), (83, .oth), (84, (.sl false (.pt cU0))), (85, (.pair cU2 (.pair (.sl false (.pt cU0)) .unit))), (86, (.pair cU0 (.pair (.sl false (.pt cU0)) .unit))), (87, .oth), (88, .oth), (89, .oth), (90, .oth), (91, (.sl false (.pair .str (.pair .str .unit)))), (92, (.pair .str (.pair .bool (.pair (.sl false cU2) cU5)))), (93, (.pair .str (.pair .bool (.pair (.sl false cU2) cU5)))), (94, .oth), (95, .oth), (96, .oth), (97, .oth), (98, .oth), (99, .oth), (100, .oth), (101, .oth), (103, .oth), (104, .oth), (105, .oth), (106, .oth), (107, .oth), (108, (.sl false (.int .u8))), (109, cU3), (110, cU3), (111, .oth), (112, cU3), (113, .oth), (114, .oth), (115, .oth), (116, .oth), (117, .oth), (118, .oth), (119, .oth), (120, .oth), (121, .oth), (122, .oth), (123, .oth), (124, (.pair .str (.pair .str .unit))), (125, (.pair .str (.pair .str .unit))), (126, .oth), (127, (.sl false .bool)), (129, .oth), (130, .oth), (131, .oth), (133, .oth), (134, .oth), (135, .oth), (136, .oth), (137, .oth), (138, .oth), (139, .oth), (140, .oth), (141, .oth), (142, .oth), (143, .oth), (144, .oth), (145, (.pair .oth (.pair (.sl false (.int .u8)) .unit))), (146, (.pair .oth (.pair (.sl false (.int .u8)) .unit))), (147, .oth), (148, .oth), (149, .oth), (151, .oth), (152, (.int .u64)), (154, .oth), (155, .oth), (156, .oth), (157, (.pair .str (.pair .str .unit))), (158, .oth), (159, .oth), (160, .oth), (161, .oth), (162, .oth), (163, .oth), (164, .oth), (165, (.int .u32)), (167, .oth), (168, (.int .u64)), (170, .oth), (171, (.sl false (.sl false (.int .i64)))), (173, .oth), (174, (.sl false (.sl false (.pair (.int .u8) (.pair .bool (.pair .bool .unit)))))), (176, .oth), (177, .oth), (178, .oth), (179, .oth), (180, (.sl false (.int .i64))), (181, (.pair (.int .u8) (.pair .bool (.pair .bool .unit)))), (182, (.pair (.int .u8) (.pair .bool (.pair .bool .unit)))), (183, (.sl false (.pair (.int .u8) (.pair .bool (.pair .bool .unit))))), (184, .oth), (185, .oth), (186, (.pair .oth (.pair .oth (.pair .oth (.pair .str .unit))))), (187, (.pair .oth (.pair .oth (.pair .oth (.pair .str .unit))))), (188, (.ar 0 .oth)), (191, (.int .u8)), (192, (.int .u8)), (193, .oth), (194, (.int .i32)), (195, (.int .i32)), (196, (.pair (.int .u64) (.pair (.int .u64) (.pair (.int .u32) (.pair (.int .u8) (.pair (.int .u8) (.pair (.int .u8) (.pair (.int .u8) (.pair .oth (.pair .oth (.pair (.int .i32) (.pair (.int .i32) .unit)))))))))))), (197, (.pair (.int .u64) (.pair (.int .u64) (.pair (.int .u32) (.pair (.int .u8) (.pair (.int .u8) (.pair (.int .u8) (.pair (.int .u8) (.pair .oth (.pair .oth (.pair (.int .i32) (.pair (.int .i32) .unit))))))))))))]
def tyN : List (Nat × U) := [(22, (.sl false cU0)), (25, (.sl false cU0)), (29, (.sl false (.pair .str (.pair .bool (.pair (.sl false cU0) cU5))))), (30, (.pair (.int .i64) (.pair (.sl false (.pair .str (.pair .bool (.pair (.sl false cU0) cU5)))) .unit))), (31, (.pair (.int .i64) (.pair (.sl false (.pair .str (.pair .bool (.pair (.sl false cU0) cU5)))) .unit))), (34, (.sl false (.pair .str (.pair .bool (.pair (.sl false cU0) cU5))))), (35, (.pair (.int .i64) (.pair (.sl false (.pair .str (.pair .bool (.pair (.sl false cU0) cU5)))) .unit))), (36, (.pair (.int .i64) (.pair (.sl false (.pair .str (.pair .bool (.pair (.sl false cU0) cU5)))) .unit))), (45, cU0), (46, cU0), (48, cU0), (49, cU0), (51, (.pair cU0 (.pair (.sl false (.tr cU0)) .unit))), (63, (.pair .str (.pair .bool (.pair (.sl false cU0) cU5)))), (64, (.pair .str (.pair .bool (.pair (.sl false cU0) cU5)))), (85, (.pair cU0 (.pair (.sl false (.pt cU0)) .unit))), (92, (.pair .str (.pair .bool (.pair (.sl false cU0) cU5)))), (93, (.pair .str (.pair .bool (.pair (.sl false cU0) cU5))))] ++ ty
def gl : List (Nat × TV) := []
theorem tabs : Tabs Go.Proofs.Tryz.prog ty gl := tabs_of (by kernel_rfl) (by kernel_rfl)
theorem tabsN : Tabs Go.Proofs.Tryz.prog tyN gl := tabs_of (by kernel_rfl) (by kernel_rfl)
/-! loop.example/g00039/laws.szMatcher -/
def laws_szMatcher.T : List Ctr := []
def laws_szMatcher.md : List (Nat × List Md) := []
noncomputable def laws_szMatcher.F : Fun := ⟨(Go.Proofs.Tryz.f79.body).getD .skip, [.v cU3, .v (.int .i64)], [(.tmp 4, (.int .i64))], [], 0, []⟩
inductive laws_szMatcher.Pt where
  | p0 (a0 : tU4) (a1 : Int)
def laws_szMatcher.lb : laws_szMatcher.Pt → Nat
  | .p0 _ _ => 0
def laws_szMatcher.st : laws_szMatcher.Pt → St
  | .p0 a0 a1 => enter [.v cU3 a0, .v (.int .i64) a1] 0
def laws_szMatcher.step (n : Nat) (K : laws_szMatcher.Pt → Option (Tup [(.int .i64)])) : laws_szMatcher.Pt → Option (Tup [(.int .i64)])
  | .p0 a0 a1 => cond (decide ((IntKind.wrap .i64 (a1 - ((ByteArray.size a0.1) : Int))) < (0 : Int))) (some (-(1 : Int))) (cond (decide ((IntKind.wrap .i64 ((IntKind.wrap .i64 (a1 - ((ByteArray.size a0.1) : Int))) - ((ByteArray.size a0.2.2.1) : Int))) < (0 : Int))) (some (-(1 : Int))) (some (IntKind.wrap .i64 ((IntKind.wrap .i64 (a1 - ((ByteArray.size a0.1) : Int))) - ((ByteArray.size a0.2.2.1) : Int)))))
def laws_szMatcher (n : Nat) (a0 : tU4) (a1 : Int) : Option (Tup [(.int .i64)]) := goRec laws_szMatcher.step n (.p0 a0 a1)
def laws_szMatcher.spec : Ctr := ⟨79, [.v cU3, .v (.int .i64)], [(.int .i64)], [], none, fun n x => laws_szMatcher n x.1 x.2.1⟩
theorem laws_szMatcher.seg_eq : SegEq ty gl laws_szMatcher.F laws_szMatcher.md laws_szMatcher.T laws_szMatcher.spec laws_szMatcher.lb laws_szMatcher.st laws_szMatcher.step := by
  intro n goto y; cases y <;> kernel_rfl
theorem laws_szMatcher.text : Text Go.Proofs.Tryz.prog laws_szMatcher.F laws_szMatcher.spec := textOf Go.Proofs.Tryz.f79
theorem laws_szMatcher.ok : CtrOK Go.Proofs.Tryz.prog gl laws_szMatcher.spec :=
  ctr_okS tabs laws_szMatcher.text laws_szMatcher.seg_eq (fun n x => ⟨.p0 x.1 x.2.1, rfl, rfl, rfl⟩) (nilC)

/-! loop.example/g00039/laws.szMatcherS -/
def laws_szMatcherS.T : List Ctr := [laws_szMatcher.spec]
def laws_szMatcherS.md : List (Nat × List Md) := []
noncomputable def laws_szMatcherS.F : Fun := ⟨(Go.Proofs.Tryz.f43.body).getD .skip, [.v (.sl false cU3), .v (.int .i64)], [(.tmp 4, (.int .i64))], [], 0, [(17, ⟨[0, 1, 5], [], [], false⟩)]⟩
inductive laws_szMatcherS.Pt where
  | p0 (a0 : List (tU4)) (a1 : Int)
  | p17 (y1 : List (tU4)) (y2 : Int) (y3 : Int)
def laws_szMatcherS.lb : laws_szMatcherS.Pt → Nat
  | .p0 _ _ => 0
  | .p17 _ _ _ => 17
def laws_szMatcherS.st : laws_szMatcherS.Pt → St
  | .p0 a0 a1 => enter [.v (.sl false cU3) a0, .v (.int .i64) a1] 0
  | .p17 y1 y2 y3 => ⟨[(0, .im (.sl false cU3) y1), (1, .im (.int .i64) y2), (5, .im (.int .i64) y3)], [], 0⟩
def laws_szMatcherS.step (n : Nat) (K : laws_szMatcherS.Pt → Option (Tup [(.int .i64)])) : laws_szMatcherS.Pt → Option (Tup [(.int .i64)])
  | .p0 a0 a1 => cond (decide ((IntKind.wrap .i64 (a1 - ((List.length a0) : Int))) < (0 : Int))) (some (-(1 : Int))) (K (.p17 a0 (IntKind.wrap .i64 (a1 - ((List.length a0) : Int))) (0 : Int)))
  | .p17 y1 y2 y3 => cond (decide (y3 < ((List.length y1) : Int))) (cond (inB y3 (List.length y1)) ((laws_szMatcher n (List.getD y1 (Int.toNat y3) default) y2).bind fun (r6 : Int) => cond (decide (r6 < (0 : Int))) (some (-(1 : Int))) (K (.p17 y1 r6 (IntKind.wrap .i64 (y3 + (1 : Int)))))) (none)) (some y2)
def laws_szMatcherS (n : Nat) (a0 : List (tU4)) (a1 : Int) : Option (Tup [(.int .i64)]) := goRec laws_szMatcherS.step n (.p0 a0 a1)
def laws_szMatcherS.spec : Ctr := ⟨43, [.v (.sl false cU3), .v (.int .i64)], [(.int .i64)], [], none, fun n x => laws_szMatcherS n x.1 x.2.1⟩
theorem laws_szMatcherS.seg_eq : SegEq ty gl laws_szMatcherS.F laws_szMatcherS.md laws_szMatcherS.T laws_szMatcherS.spec laws_szMatcherS.lb laws_szMatcherS.st laws_szMatcherS.step := by
  intro n goto y; cases y <;> kernel_rfl
theorem laws_szMatcherS.text : Text Go.Proofs.Tryz.prog laws_szMatcherS.F laws_szMatcherS.spec := textOf Go.Proofs.Tryz.f43
theorem laws_szMatcherS.ok : CtrOK Go.Proofs.Tryz.prog gl laws_szMatcherS.spec :=
  ctr_okS tabs laws_szMatcherS.text laws_szMatcherS.seg_eq (fun n x => ⟨.p0 x.1 x.2.1, rfl, rfl, rfl⟩) (consC laws_szMatcher.ok (nilC))

/-! loop.example/g00039/laws.szStringS -/
def laws_szStringS.T : List Ctr := []
def laws_szStringS.md : List (Nat × List Md) := []
noncomputable def laws_szStringS.F : Fun := ⟨(Go.Proofs.Tryz.f44.body).getD .skip, [.v (.sl false .str), .v (.int .i64)], [(.tmp 4, (.int .i64))], [], 0, [(17, ⟨[0, 1, 5], [], [], false⟩)]⟩
inductive laws_szStringS.Pt where
  | p0 (a0 : List (ByteArray)) (a1 : Int)
  | p17 (y1 : List (ByteArray)) (y2 : Int) (y3 : Int)
def laws_szStringS.lb : laws_szStringS.Pt → Nat
  | .p0 _ _ => 0
  | .p17 _ _ _ => 17
def laws_szStringS.st : laws_szStringS.Pt → St
  | .p0 a0 a1 => enter [.v (.sl false .str) a0, .v (.int .i64) a1] 0
  | .p17 y1 y2 y3 => ⟨[(0, .im (.sl false .str) y1), (1, .im (.int .i64) y2), (5, .im (.int .i64) y3)], [], 0⟩
def laws_szStringS.step (n : Nat) (K : laws_szStringS.Pt → Option (Tup [(.int .i64)])) : laws_szStringS.Pt → Option (Tup [(.int .i64)])
  | .p0 a0 a1 => cond (decide ((IntKind.wrap .i64 (a1 - ((List.length a0) : Int))) < (0 : Int))) (some (-(1 : Int))) (K (.p17 a0 (IntKind.wrap .i64 (a1 - ((List.length a0) : Int))) (0 : Int)))
  | .p17 y1 y2 y3 => cond (decide (y3 < ((List.length y1) : Int))) (cond (inB y3 (List.length y1)) (cond (decide ((IntKind.wrap .i64 (y2 - ((ByteArray.size (List.getD y1 (Int.toNat y3) default)) : Int))) < (0 : Int))) (some (-(1 : Int))) (K (.p17 y1 (IntKind.wrap .i64 (y2 - ((ByteArray.size (List.getD y1 (Int.toNat y3) default)) : Int))) (IntKind.wrap .i64 (y3 + (1 : Int)))))) (none)) (some y2)
def laws_szStringS (n : Nat) (a0 : List (ByteArray)) (a1 : Int) : Option (Tup [(.int .i64)]) := goRec laws_szStringS.step n (.p0 a0 a1)
def laws_szStringS.spec : Ctr := ⟨44, [.v (.sl false .str), .v (.int .i64)], [(.int .i64)], [], none, fun n x => laws_szStringS n x.1 x.2.1⟩
theorem laws_szStringS.seg_eq : SegEq ty gl laws_szStringS.F laws_szStringS.md laws_szStringS.T laws_szStringS.spec laws_szStringS.lb laws_szStringS.st laws_szStringS.step := by
  intro n goto y; cases y <;> kernel_rfl
theorem laws_szStringS.text : Text Go.Proofs.Tryz.prog laws_szStringS.F laws_szStringS.spec := textOf Go.Proofs.Tryz.f44
theorem laws_szStringS.ok : CtrOK Go.Proofs.Tryz.prog gl laws_szStringS.spec :=
  ctr_okS tabs laws_szStringS.text laws_szStringS.seg_eq (fun n x => ⟨.p0 x.1 x.2.1, rfl, rfl, rfl⟩) (nilC)

/-! loop.example/g00039/laws.szQuery -/
def laws_szQuery.T : List Ctr := [laws_szMatcherS.spec, laws_szStringS.spec]
def laws_szQuery.md : List (Nat × List Md) := []
noncomputable def laws_szQuery.F : Fun := ⟨(Go.Proofs.Tryz.f20.body).getD .skip, [.v cU2, .v (.int .i64)], [(.tmp 4, (.int .i64))], [], 0, []⟩
inductive laws_szQuery.Pt where
  | p0 (a0 : tU1) (a1 : Int)
def laws_szQuery.lb : laws_szQuery.Pt → Nat
  | .p0 _ _ => 0
def laws_szQuery.st : laws_szQuery.Pt → St
  | .p0 a0 a1 => enter [.v cU2 a0, .v (.int .i64) a1] 0
def laws_szQuery.step (n : Nat) (K : laws_szQuery.Pt → Option (Tup [(.int .i64)])) : laws_szQuery.Pt → Option (Tup [(.int .i64)])
  | .p0 a0 a1 => cond (decide ((IntKind.wrap .i64 (a1 - ((ByteArray.size a0.2.2.2.1) : Int))) < (0 : Int))) (some (-(1 : Int))) ((laws_szMatcherS n a0.2.2.2.2.2.1 (IntKind.wrap .i64 (a1 - ((ByteArray.size a0.2.2.2.1) : Int)))).bind fun (r5 : Int) => cond (decide (r5 < (0 : Int))) (some (-(1 : Int))) ((laws_szStringS n a0.2.2.2.2.2.2.2.2.2.2.2.1 r5).bind fun (r6 : Int) => cond (decide (r6 < (0 : Int))) (some (-(1 : Int))) ((laws_szStringS n a0.2.2.2.2.2.2.2.2.2.2.2.2.2.1 r6).bind fun (r7 : Int) => cond (decide (r7 < (0 : Int))) (some (-(1 : Int))) (some r7))))
def laws_szQuery (n : Nat) (a0 : tU1) (a1 : Int) : Option (Tup [(.int .i64)]) := goRec laws_szQuery.step n (.p0 a0 a1)
def laws_szQuery.spec : Ctr := ⟨20, [.v cU2, .v (.int .i64)], [(.int .i64)], [], none, fun n x => laws_szQuery n x.1 x.2.1⟩
theorem laws_szQuery.seg_eq : SegEq ty gl laws_szQuery.F laws_szQuery.md laws_szQuery.T laws_szQuery.spec laws_szQuery.lb laws_szQuery.st laws_szQuery.step := by
  intro n goto y; cases y <;> kernel_rfl
theorem laws_szQuery.text : Text Go.Proofs.Tryz.prog laws_szQuery.F laws_szQuery.spec := textOf Go.Proofs.Tryz.f20
theorem laws_szQuery.ok : CtrOK Go.Proofs.Tryz.prog gl laws_szQuery.spec :=
  ctr_okS tabs laws_szQuery.text laws_szQuery.seg_eq (fun n x => ⟨.p0 x.1 x.2.1, rfl, rfl, rfl⟩) (consC laws_szMatcherS.ok (consC laws_szStringS.ok (nilC)))

/-! loop.example/g00039/laws.szQueryS -/
def laws_szQueryS.T : List Ctr := [laws_szQuery.spec]
def laws_szQueryS.md : List (Nat × List Md) := []
noncomputable def laws_szQueryS.F : Fun := ⟨(Go.Proofs.Tryz.f6.body).getD .skip, [.v (.sl false cU2), .v (.int .i64)], [(.tmp 4, (.int .i64))], [], 0, [(17, ⟨[0, 1, 5], [], [], false⟩)]⟩
inductive laws_szQueryS.Pt where
  | p0 (a0 : List (tU1)) (a1 : Int)
  | p17 (y1 : List (tU1)) (y2 : Int) (y3 : Int)
def laws_szQueryS.lb : laws_szQueryS.Pt → Nat
  | .p0 _ _ => 0
  | .p17 _ _ _ => 17
def laws_szQueryS.st : laws_szQueryS.Pt → St
  | .p0 a0 a1 => enter [.v (.sl false cU2) a0, .v (.int .i64) a1] 0
  | .p17 y1 y2 y3 => ⟨[(0, .im (.sl false cU2) y1), (1, .im (.int .i64) y2), (5, .im (.int .i64) y3)], [], 0⟩
def laws_szQueryS.step (n : Nat) (K : laws_szQueryS.Pt → Option (Tup [(.int .i64)])) : laws_szQueryS.Pt → Option (Tup [(.int .i64)])
  | .p0 a0 a1 => cond (decide ((IntKind.wrap .i64 (a1 - ((List.length a0) : Int))) < (0 : Int))) (some (-(1 : Int))) (K (.p17 a0 (IntKind.wrap .i64 (a1 - ((List.length a0) : Int))) (0 : Int)))
  | .p17 y1 y2 y3 => cond (decide (y3 < ((List.length y1) : Int))) (cond (inB y3 (List.length y1)) ((laws_szQuery n (List.getD y1 (Int.toNat y3) default) y2).bind fun (r6 : Int) => cond (decide (r6 < (0 : Int))) (some (-(1 : Int))) (K (.p17 y1 r6 (IntKind.wrap .i64 (y3 + (1 : Int)))))) (none)) (some y2)
def laws_szQueryS (n : Nat) (a0 : List (tU1)) (a1 : Int) : Option (Tup [(.int .i64)]) := goRec laws_szQueryS.step n (.p0 a0 a1)
def laws_szQueryS.spec : Ctr := ⟨6, [.v (.sl false cU2), .v (.int .i64)], [(.int .i64)], [], none, fun n x => laws_szQueryS n x.1 x.2.1⟩
theorem laws_szQueryS.seg_eq : SegEq ty gl laws_szQueryS.F laws_szQueryS.md laws_szQueryS.T laws_szQueryS.spec laws_szQueryS.lb laws_szQueryS.st laws_szQueryS.step := by
  intro n goto y; cases y <;> kernel_rfl
theorem laws_szQueryS.text : Text Go.Proofs.Tryz.prog laws_szQueryS.F laws_szQueryS.spec := textOf Go.Proofs.Tryz.f6
theorem laws_szQueryS.ok : CtrOK Go.Proofs.Tryz.prog gl laws_szQueryS.spec :=
  ctr_okS tabs laws_szQueryS.text laws_szQueryS.seg_eq (fun n x => ⟨.p0 x.1 x.2.1, rfl, rfl, rfl⟩) (consC laws_szQuery.ok (nilC))

/-! loop.example/g00039/laws.toMatcher -/
def laws_toMatcher.T : List Ctr := []
def laws_toMatcher.md : List (Nat × List Md) := []
noncomputable def laws_toMatcher.F : Fun := ⟨(Go.Proofs.Tryz.f84.body).getD .skip, [.v cU3], [(.cell 2 110, cU3)], [], 0, []⟩
inductive laws_toMatcher.Pt where
  | p0 (a0 : tU4)
def laws_toMatcher.lb : laws_toMatcher.Pt → Nat
  | .p0 _ => 0
def laws_toMatcher.st : laws_toMatcher.Pt → St
  | .p0 a0 => enter [.v cU3 a0] 0
def laws_toMatcher.step (n : Nat) (K : laws_toMatcher.Pt → Option (Tup [cU3])) : laws_toMatcher.Pt → Option (Tup [cU3])
  | .p0 a0 => some a0
def laws_toMatcher (n : Nat) (a0 : tU4) : Option (Tup [cU3]) := goRec laws_toMatcher.step n (.p0 a0)
def laws_toMatcher.spec : Ctr := ⟨84, [.v cU3], [cU3], [], none, fun n x => laws_toMatcher n x.1⟩
theorem laws_toMatcher.seg_eq : SegEq ty gl laws_toMatcher.F laws_toMatcher.md laws_toMatcher.T laws_toMatcher.spec laws_toMatcher.lb laws_toMatcher.st laws_toMatcher.step := by
  intro n goto y; cases y <;> kernel_rfl
theorem laws_toMatcher.text : Text Go.Proofs.Tryz.prog laws_toMatcher.F laws_toMatcher.spec := textOf Go.Proofs.Tryz.f84
theorem laws_toMatcher.ok : CtrOK Go.Proofs.Tryz.prog gl laws_toMatcher.spec :=
  ctr_okS tabs laws_toMatcher.text laws_toMatcher.seg_eq (fun n x => ⟨.p0 x.1, rfl, rfl, rfl⟩) (nilC)

/-! loop.example/g00039/laws.toMatcherS -/
def laws_toMatcherS.T : List Ctr := [laws_toMatcher.spec]
def laws_toMatcherS.md : List (Nat × List Md) := []
noncomputable def laws_toMatcherS.F : Fun := ⟨(Go.Proofs.Tryz.f48.body).getD .skip, [.v (.sl false cU3)], [(.tmp 2, (.sl false cU3))], [], 0, [(9, ⟨[0, 3, 4], [(3, cU3)], [], false⟩)]⟩
inductive laws_toMatcherS.Pt where
  | p0 (a0 : List (tU4))
  | p9 (y1 : List (tU4)) (y2 : Int) (y3 : List (tU4))
def laws_toMatcherS.lb : laws_toMatcherS.Pt → Nat
  | .p0 _ => 0
  | .p9 _ _ _ => 9
def laws_toMatcherS.st : laws_toMatcherS.Pt → St
  | .p0 a0 => enter [.v (.sl false cU3) a0] 0
  | .p9 y1 y2 y3 => ⟨[(0, .im (.sl false cU3) y1), (3, .hs 0 [] none 0), (4, .im (.int .i64) y2)], [(0, .arr false cU3 y3 0)], 1⟩
def laws_toMatcherS.step (n : Nat) (K : laws_toMatcherS.Pt → Option (Tup [(.sl false cU3)])) : laws_toMatcherS.Pt → Option (Tup [(.sl false cU3)])
  | .p0 a0 => cond (inC ((List.length a0) : Int) ((List.length a0) : Int) 1000000000) (K (.p9 a0 (0 : Int) (List.replicate (Int.toNat ((List.length a0) : Int)) (default : tU4)))) (none)
  | .p9 y1 y2 y3 => cond (decide (y2 < ((List.length y1) : Int))) (cond (inB y2 (List.length y1)) ((laws_toMatcher n (List.getD y1 (Int.toNat y2) default)).bind fun r6 => cond (inB y2 (List.length y3)) (K (.p9 y1 (IntKind.wrap .i64 (y2 + (1 : Int))) (List.set y3 (0 + (Int.toNat y2)) r6))) (none)) (none)) (some y3)
def laws_toMatcherS (n : Nat) (a0 : List (tU4)) : Option (Tup [(.sl false cU3)]) := goRec laws_toMatcherS.step n (.p0 a0)
def laws_toMatcherS.spec : Ctr := ⟨48, [.v (.sl false cU3)], [(.sl false cU3)], [], none, fun n x => laws_toMatcherS n x.1⟩
theorem laws_toMatcherS.seg_eq : SegEq ty gl laws_toMatcherS.F laws_toMatcherS.md laws_toMatcherS.T laws_toMatcherS.spec laws_toMatcherS.lb laws_toMatcherS.st laws_toMatcherS.step := by
  intro n goto y; cases y <;> kernel_rfl
theorem laws_toMatcherS.text : Text Go.Proofs.Tryz.prog laws_toMatcherS.F laws_toMatcherS.spec := textOf Go.Proofs.Tryz.f48
theorem laws_toMatcherS.ok : CtrOK Go.Proofs.Tryz.prog gl laws_toMatcherS.spec :=
  ctr_okS tabs laws_toMatcherS.text laws_toMatcherS.seg_eq (fun n x => ⟨.p0 x.1, rfl, rfl, rfl⟩) (consC laws_toMatcher.ok (nilC))

/-! loop.example/g00039/laws.toStringS -/
def laws_toStringS.T : List Ctr := []
def laws_toStringS.md : List (Nat × List Md) := []
noncomputable def laws_toStringS.F : Fun := ⟨(Go.Proofs.Tryz.f49.body).getD .skip, [.v (.sl false .str)], [(.tmp 2, (.sl false .str))], [], 0, [(9, ⟨[0, 3, 4], [(3, .str)], [], false⟩)]⟩
inductive laws_toStringS.Pt where
  | p0 (a0 : List (ByteArray))
  | p9 (y1 : List (ByteArray)) (y2 : Int) (y3 : List (ByteArray))
def laws_toStringS.lb : laws_toStringS.Pt → Nat
  | .p0 _ => 0
  | .p9 _ _ _ => 9
def laws_toStringS.st : laws_toStringS.Pt → St
  | .p0 a0 => enter [.v (.sl false .str) a0] 0
  | .p9 y1 y2 y3 => ⟨[(0, .im (.sl false .str) y1), (3, .hs 0 [] none 0), (4, .im (.int .i64) y2)], [(0, .arr false .str y3 0)], 1⟩
def laws_toStringS.step (n : Nat) (K : laws_toStringS.Pt → Option (Tup [(.sl false .str)])) : laws_toStringS.Pt → Option (Tup [(.sl false .str)])
  | .p0 a0 => cond (inC ((List.length a0) : Int) ((List.length a0) : Int) 1000000000) (K (.p9 a0 (0 : Int) (List.replicate (Int.toNat ((List.length a0) : Int)) (default : ByteArray)))) (none)
  | .p9 y1 y2 y3 => cond (decide (y2 < ((List.length y1) : Int))) (cond (inB y2 (List.length y1)) (cond (inB y2 (List.length y3)) (K (.p9 y1 (IntKind.wrap .i64 (y2 + (1 : Int))) (List.set y3 (0 + (Int.toNat y2)) (List.getD y1 (Int.toNat y2) default)))) (none)) (none)) (some y3)
def laws_toStringS (n : Nat) (a0 : List (ByteArray)) : Option (Tup [(.sl false .str)]) := goRec laws_toStringS.step n (.p0 a0)
def laws_toStringS.spec : Ctr := ⟨49, [.v (.sl false .str)], [(.sl false .str)], [], none, fun n x => laws_toStringS n x.1⟩
theorem laws_toStringS.seg_eq : SegEq ty gl laws_toStringS.F laws_toStringS.md laws_toStringS.T laws_toStringS.spec laws_toStringS.lb laws_toStringS.st laws_toStringS.step := by
  intro n goto y; cases y <;> kernel_rfl
theorem laws_toStringS.text : Text Go.Proofs.Tryz.prog laws_toStringS.F laws_toStringS.spec := textOf Go.Proofs.Tryz.f49
theorem laws_toStringS.ok : CtrOK Go.Proofs.Tryz.prog gl laws_toStringS.spec :=
  ctr_okS tabs laws_toStringS.text laws_toStringS.seg_eq (fun n x => ⟨.p0 x.1, rfl, rfl, rfl⟩) (nilC)

/-! loop.example/g00039/laws.toQuery -/
def laws_toQuery.T : List Ctr := [laws_toMatcherS.spec, laws_toStringS.spec]
def laws_toQuery.md : List (Nat × List Md) := []
noncomputable def laws_toQuery.F : Fun := ⟨(Go.Proofs.Tryz.f23.body).getD .skip, [.v cU2], [(.cell 2 49, cU2)], [], 0, []⟩
inductive laws_toQuery.Pt where
  | p0 (a0 : tU1)
def laws_toQuery.lb : laws_toQuery.Pt → Nat
  | .p0 _ => 0
def laws_toQuery.st : laws_toQuery.Pt → St
  | .p0 a0 => enter [.v cU2 a0] 0
def laws_toQuery.step (n : Nat) (K : laws_toQuery.Pt → Option (Tup [cU2])) : laws_toQuery.Pt → Option (Tup [cU2])
  | .p0 a0 => (laws_toMatcherS n a0.2.2.2.2.2.1).bind fun r4 => (laws_toStringS n a0.2.2.2.2.2.2.2.2.2.2.2.1).bind fun r5 => (laws_toStringS n a0.2.2.2.2.2.2.2.2.2.2.2.2.2.1).bind fun r6 => some (a0.1, (a0.2.1, (a0.2.2.1, (a0.2.2.2.1, (a0.2.2.2.2.1, (r4, (a0.2.2.2.2.2.2.1, (a0.2.2.2.2.2.2.2.1, (a0.2.2.2.2.2.2.2.2.1, (a0.2.2.2.2.2.2.2.2.2.1, (a0.2.2.2.2.2.2.2.2.2.2.1, (r5, (a0.2.2.2.2.2.2.2.2.2.2.2.2.1, (r6, a0.2.2.2.2.2.2.2.2.2.2.2.2.2.2))))))))))))))
def laws_toQuery (n : Nat) (a0 : tU1) : Option (Tup [cU2]) := goRec laws_toQuery.step n (.p0 a0)
def laws_toQuery.spec : Ctr := ⟨23, [.v cU2], [cU2], [], none, fun n x => laws_toQuery n x.1⟩
theorem laws_toQuery.seg_eq : SegEq ty gl laws_toQuery.F laws_toQuery.md laws_toQuery.T laws_toQuery.spec laws_toQuery.lb laws_toQuery.st laws_toQuery.step := by
  intro n goto y; cases y <;> kernel_rfl
theorem laws_toQuery.text : Text Go.Proofs.Tryz.prog laws_toQuery.F laws_toQuery.spec := textOf Go.Proofs.Tryz.f23
theorem laws_toQuery.ok : CtrOK Go.Proofs.Tryz.prog gl laws_toQuery.spec :=
  ctr_okS tabs laws_toQuery.text laws_toQuery.seg_eq (fun n x => ⟨.p0 x.1, rfl, rfl, rfl⟩) (consC laws_toMatcherS.ok (consC laws_toStringS.ok (nilC)))

/-! loop.example/g00039/laws.toQueryS -/
def laws_toQueryS.T : List Ctr := [laws_toQuery.spec]
def laws_toQueryS.md : List (Nat × List Md) := []
noncomputable def laws_toQueryS.F : Fun := ⟨(Go.Proofs.Tryz.f8.body).getD .skip, [.v (.sl false cU2)], [(.tmp 2, (.sl false cU2))], [], 0, [(9, ⟨[0, 3, 4], [(3, cU2)], [], false⟩)]⟩
inductive laws_toQueryS.Pt where
  | p0 (a0 : List (tU1))
  | p9 (y1 : List (tU1)) (y2 : Int) (y3 : List (tU1))
def laws_toQueryS.lb : laws_toQueryS.Pt → Nat
  | .p0 _ => 0
  | .p9 _ _ _ => 9
def laws_toQueryS.st : laws_toQueryS.Pt → St
  | .p0 a0 => enter [.v (.sl false cU2) a0] 0
  | .p9 y1 y2 y3 => ⟨[(0, .im (.sl false cU2) y1), (3, .hs 0 [] none 0), (4, .im (.int .i64) y2)], [(0, .arr false cU2 y3 0)], 1⟩
def laws_toQueryS.step (n : Nat) (K : laws_toQueryS.Pt → Option (Tup [(.sl false cU2)])) : laws_toQueryS.Pt → Option (Tup [(.sl false cU2)])
  | .p0 a0 => cond (inC ((List.length a0) : Int) ((List.length a0) : Int) 1000000000) (K (.p9 a0 (0 : Int) (List.replicate (Int.toNat ((List.length a0) : Int)) (default : tU1)))) (none)
  | .p9 y1 y2 y3 => cond (decide (y2 < ((List.length y1) : Int))) (cond (inB y2 (List.length y1)) ((laws_toQuery n (List.getD y1 (Int.toNat y2) default)).bind fun r6 => cond (inB y2 (List.length y3)) (K (.p9 y1 (IntKind.wrap .i64 (y2 + (1 : Int))) (List.set y3 (0 + (Int.toNat y2)) r6))) (none)) (none)) (some y3)
def laws_toQueryS (n : Nat) (a0 : List (tU1)) : Option (Tup [(.sl false cU2)]) := goRec laws_toQueryS.step n (.p0 a0)
def laws_toQueryS.spec : Ctr := ⟨8, [.v (.sl false cU2)], [(.sl false cU2)], [], none, fun n x => laws_toQueryS n x.1⟩
theorem laws_toQueryS.seg_eq : SegEq ty gl laws_toQueryS.F laws_toQueryS.md laws_toQueryS.T laws_toQueryS.spec laws_toQueryS.lb laws_toQueryS.st laws_toQueryS.step := by
  intro n goto y; cases y <;> kernel_rfl
theorem laws_toQueryS.text : Text Go.Proofs.Tryz.prog laws_toQueryS.F laws_toQueryS.spec := textOf Go.Proofs.Tryz.f8
theorem laws_toQueryS.ok : CtrOK Go.Proofs.Tryz.prog gl laws_toQueryS.spec :=
  ctr_okS tabs laws_toQueryS.text laws_toQueryS.seg_eq (fun n x => ⟨.p0 x.1, rfl, rfl, rfl⟩) (consC laws_toQuery.ok (nilC))

/-! loop.example/g00039/spec.l15Zero -/
def spec_l15Zero.T : List Ctr := []
def spec_l15Zero.md : List (Nat × List Md) := []
noncomputable def spec_l15Zero.F : Fun := ⟨(Go.Proofs.Tryz.f119.body).getD .skip, [.v cU0], [(.cell 2 49, cU0)], [], 0, [(13, ⟨[1, 2, 3, 10, 16], [], [(1, 5, (.bs cU3)), (1, 11, (.bs .str)), (1, 13, (.bs .str)), (2, 5, (.bs cU3)), (2, 11, (.bs .str)), (2, 13, (.bs .str)), (3, 5, (.bs cU3)), (3, 11, (.bs .str)), (3, 13, (.bs .str))], false⟩)]⟩
inductive spec_l15Zero.Pt where
  | p0 (a0 : tU1)
  | p13 (y1 : Int) (y2 : Bool) (y3 : Int) (y4 : Int) (y5 : Int) (y6 : ByteArray) (y7 : Int) (y8 : List (tU4)) (y9 : Int) (y10 : Bool) (y11 : Int) (y12 : Bool) (y13 : Int) (y14 : List (ByteArray)) (y15 : Int) (y16 : List (ByteArray)) (y17 : Int) (y18 : Int) (y19 : Int) (y20 : Int) (y21 : ByteArray) (y22 : Int) (y23 : List (tU4)) (y24 : Int) (y25 : Bool) (y26 : Int) (y27 : Bool) (y28 : Int) (y29 : List (ByteArray)) (y30 : Int) (y31 : List (ByteArray)) (y32 : Int) (y33 : Int) (y34 : Int) (y35 : Int) (y36 : ByteArray) (y37 : Int) (y38 : List (tU4)) (y39 : Int) (y40 : Bool) (y41 : Int) (y42 : Bool) (y43 : Int) (y44 : List (ByteArray)) (y45 : Int) (y46 : List (ByteArray)) (y47 : Int)
def spec_l15Zero.lb : spec_l15Zero.Pt → Nat
  | .p0 _ => 0
  | .p13 _ _ _ _ _ _ _ _ _ _ _ _ _ _ _ _ _ _ _ _ _ _ _ _ _ _ _ _ _ _ _ _ _ _ _ _ _ _ _ _ _ _ _ _ _ _ _ => 13
def spec_l15Zero.st : spec_l15Zero.Pt → St
  | .p0 a0 => enter [.v cU0 a0] 0
  | .p13 y1 y2 y3 y4 y5 y6 y7 y8 y9 y10 y11 y12 y13 y14 y15 y16 y17 y18 y19 y20 y21 y22 y23 y24 y25 y26 y27 y28 y29 y30 y31 y32 y33 y34 y35 y36 y37 y38 y39 y40 y41 y42 y43 y44 y45 y46 y47 => ⟨[(1, .po 0 0), (2, .po 1 0), (3, .po 2 0), (10, .im (.int .i64) y1), (16, .im .bool y2)], [(0, .obj [.im (.int .i64) y3, .im (.int .i64) y4, .im (.int .i64) y5, .im .str y6, .im (.int .i64) y7, .im (.bs cU3) y8, .im (.int .i64) y9, .im .bool y10, .im (.int .i64) y11, .im .bool y12, .im (.int .i64) y13, .im (.bs .str) y14, .im (.int .i64) y15, .im (.bs .str) y16, .im (.int .i64) y17]), (1, .obj [.im (.int .i64) y18, .im (.int .i64) y19, .im (.int .i64) y20, .im .str y21, .im (.int .i64) y22, .im (.bs cU3) y23, .im (.int .i64) y24, .im .bool y25, .im (.int .i64) y26, .im .bool y27, .im (.int .i64) y28, .im (.bs .str) y29, .im (.int .i64) y30, .im (.bs .str) y31, .im (.int .i64) y32]), (2, .obj [.im (.int .i64) y33, .im (.int .i64) y34, .im (.int .i64) y35, .im .str y36, .im (.int .i64) y37, .im (.bs cU3) y38, .im (.int .i64) y39, .im .bool y40, .im (.int .i64) y41, .im .bool y42, .im (.int .i64) y43, .im (.bs .str) y44, .im (.int .i64) y45, .im (.bs .str) y46, .im (.int .i64) y47])], 3⟩
def spec_l15Zero.step (n : Nat) (K : spec_l15Zero.Pt → Option (Tup [cU0])) : spec_l15Zero.Pt → Option (Tup [cU0])
  | .p0 a0 => cond (decide (a0.1 = (1 : Int))) (some (a0.1, (a0.2.1, ((default : Int), ((default : ByteArray), ((default : Int), ((default : List (tU4)), ((default : Int), ((default : Bool), ((default : Int), ((default : Bool), ((default : Int), ((default : List (ByteArray)), ((default : Int), ((default : List (ByteArray)), a0.2.2.2.2.2.2.2.2.2.2.2.2.2.2))))))))))))))) (cond (decide (a0.1 = (2 : Int))) (K (.p13 a0.1 (decide (a0.1 = (2 : Int))) a0.1 a0.2.1 a0.2.2.1 a0.2.2.2.1 a0.2.2.2.2.1 a0.2.2.2.2.2.1 a0.2.2.2.2.2.2.1 a0.2.2.2.2.2.2.2.1 a0.2.2.2.2.2.2.2.2.1 a0.2.2.2.2.2.2.2.2.2.1 a0.2.2.2.2.2.2.2.2.2.2.1 a0.2.2.2.2.2.2.2.2.2.2.2.1 a0.2.2.2.2.2.2.2.2.2.2.2.2.1 a0.2.2.2.2.2.2.2.2.2.2.2.2.2.1 a0.2.2.2.2.2.2.2.2.2.2.2.2.2.2.1 (default : Int) (default : Int) (default : Int) (default : ByteArray) (default : Int) (default : List (tU4)) (default : Int) (default : Bool) (default : Int) (default : Bool) (default : Int) (default : List (ByteArray)) (default : Int) (default : List (ByteArray)) (default : Int) a0.1 (default : Int) (default : Int) (default : ByteArray) (default : Int) (default : List (tU4)) (default : Int) (default : Bool) (default : Int) (default : Bool) (default : Int) (default : List (ByteArray)) (default : Int) (default : List (ByteArray)) a0.2.2.2.2.2.2.2.2.2.2.2.2.2.2.1)) (K (.p13 a0.1 (decide (a0.1 = (9 : Int))) a0.1 a0.2.1 a0.2.2.1 a0.2.2.2.1 a0.2.2.2.2.1 a0.2.2.2.2.2.1 a0.2.2.2.2.2.2.1 a0.2.2.2.2.2.2.2.1 a0.2.2.2.2.2.2.2.2.1 a0.2.2.2.2.2.2.2.2.2.1 a0.2.2.2.2.2.2.2.2.2.2.1 a0.2.2.2.2.2.2.2.2.2.2.2.1 a0.2.2.2.2.2.2.2.2.2.2.2.2.1 a0.2.2.2.2.2.2.2.2.2.2.2.2.2.1 a0.2.2.2.2.2.2.2.2.2.2.2.2.2.2.1 (default : Int) (default : Int) (default : Int) (default : ByteArray) (default : Int) (default : List (tU4)) (default : Int) (default : Bool) (default : Int) (default : Bool) (default : Int) (default : List (ByteArray)) (default : Int) (default : List (ByteArray)) (default : Int) a0.1 (default : Int) (default : Int) (default : ByteArray) (default : Int) (default : List (tU4)) (default : Int) (default : Bool) (default : Int) (default : Bool) (default : Int) (default : List (ByteArray)) (default : Int) (default : List (ByteArray)) a0.2.2.2.2.2.2.2.2.2.2.2.2.2.2.1)))
  | .p13 y1 y2 y3 y4 y5 y6 y7 y8 y9 y10 y11 y12 y13 y14 y15 y16 y17 y18 y19 y20 y21 y22 y23 y24 y25 y26 y27 y28 y29 y30 y31 y32 y33 y34 y35 y36 y37 y38 y39 y40 y41 y42 y43 y44 y45 y46 y47 => cond y2 (some (y33, (y34, (y35, (y6, (y37, (y38, (y39, (y40, (y41, (y42, (y43, (y44, (y45, (y46, (y47, ())))))))))))))))) (cond (decide (y1 = (3 : Int))) (some (y33, (y34, (y35, (y6, (y37, (y8, (y9, (y10, (y11, (y42, (y43, (y44, (y45, (y46, (y47, ())))))))))))))))) (cond (decide (y1 = (4 : Int))) (some (y33, (y4, (y35, (y36, (y37, (y38, (y39, (y40, (y41, (y42, (y43, (y44, (y45, (y46, (y47, ())))))))))))))))) (cond (decide (y1 = (5 : Int))) (some (y33, (y4, (y5, (y36, (y37, (y38, (y9, (y10, (y11, (y42, (y43, (y44, (y45, (y46, (y47, ())))))))))))))))) (cond (decide (y1 = (7 : Int))) (some (y33, (y34, (y35, (y36, (y7, (y38, (y39, (y40, (y41, (y12, (y13, (y14, (y15, (y16, (y47, ())))))))))))))))) (cond (decide (y1 = (8 : Int))) (some (y33, (y34, (y35, (y36, (y7, (y38, (y39, (y40, (y41, (y42, (y13, (y14, (y45, (y46, (y47, ())))))))))))))))) (some (y33, (y34, (y35, (y36, (y37, (y38, (y39, (y40, (y41, (y42, (y43, (y44, (y45, (y46, (y47, ())))))))))))))))))))))
def spec_l15Zero (n : Nat) (a0 : tU1) : Option (Tup [cU0]) := goRec spec_l15Zero.step n (.p0 a0)
def spec_l15Zero.spec : Ctr := ⟨119, [.v cU0], [cU0], [], none, fun n x => spec_l15Zero n x.1⟩
theorem spec_l15Zero.seg_eq : SegEq tyN gl spec_l15Zero.F spec_l15Zero.md spec_l15Zero.T spec_l15Zero.spec spec_l15Zero.lb spec_l15Zero.st spec_l15Zero.step := by
  intro n goto y; cases y <;> kernel_rfl
theorem spec_l15Zero.text : Text Go.Proofs.Tryz.prog spec_l15Zero.F spec_l15Zero.spec := textOf Go.Proofs.Tryz.f119
theorem spec_l15Zero.ok : CtrOK Go.Proofs.Tryz.prog gl spec_l15Zero.spec :=
  ctr_okS tabsN spec_l15Zero.text spec_l15Zero.seg_eq (fun n x => ⟨.p0 x.1, rfl, rfl, rfl⟩) (nilC)

/-! loop.example/g00039/spec.l15SameTexts -/
def spec_l15SameTexts.T : List Ctr := []
def spec_l15SameTexts.md : List (Nat × List Md) := []
noncomputable def spec_l15SameTexts.F : Fun := ⟨(Go.Proofs.Tryz.f148.body).getD .skip, [.v (.sl false .str), .v (.sl false .str)], [(.tmp 4, .bool)], [], 0, [(15, ⟨[0, 1, 12, 13], [], [], false⟩)]⟩
inductive spec_l15SameTexts.Pt where
  | p0 (a0 : List (ByteArray)) (a1 : List (ByteArray))
  | p15 (y1 : List (ByteArray)) (y2 : List (ByteArray)) (y3 : Int) (y4 : Int)
def spec_l15SameTexts.lb : spec_l15SameTexts.Pt → Nat
  | .p0 _ _ => 0
  | .p15 _ _ _ _ => 15
def spec_l15SameTexts.st : spec_l15SameTexts.Pt → St
  | .p0 a0 a1 => enter [.v (.sl false .str) a0, .v (.sl false .str) a1] 0
  | .p15 y1 y2 y3 y4 => ⟨[(0, .im (.sl false .str) y1), (1, .im (.sl false .str) y2), (12, .im (.int .i64) y3), (13, .im (.int .i64) y4)], [], 0⟩
def spec_l15SameTexts.step (n : Nat) (K : spec_l15SameTexts.Pt → Option (Tup [.bool])) : spec_l15SameTexts.Pt → Option (Tup [.bool])
  | .p0 a0 a1 => cond (!(decide (((List.length a0) : Int) = ((List.length a1) : Int)))) (some false) (K (.p15 a0 a1 ((List.length a0) : Int) (0 : Int)))
  | .p15 y1 y2 y3 y4 => cond (decide (y4 < y3)) (cond (inB y4 (List.length y1)) (cond (inB y4 (List.length y2)) (cond (!(seq (List.getD y1 (Int.toNat y4) default) (List.getD y2 (Int.toNat y4) default))) (some false) (K (.p15 y1 y2 y3 (IntKind.wrap .i64 (y4 + (1 : Int)))))) (none)) (none)) (some true)
def spec_l15SameTexts (n : Nat) (a0 : List (ByteArray)) (a1 : List (ByteArray)) : Option (Tup [.bool]) := goRec spec_l15SameTexts.step n (.p0 a0 a1)
def spec_l15SameTexts.spec : Ctr := ⟨148, [.v (.sl false .str), .v (.sl false .str)], [.bool], [], none, fun n x => spec_l15SameTexts n x.1 x.2.1⟩
theorem spec_l15SameTexts.seg_eq : SegEq tyN gl spec_l15SameTexts.F spec_l15SameTexts.md spec_l15SameTexts.T spec_l15SameTexts.spec spec_l15SameTexts.lb spec_l15SameTexts.st spec_l15SameTexts.step := by
  intro n goto y; cases y <;> kernel_rfl
theorem spec_l15SameTexts.text : Text Go.Proofs.Tryz.prog spec_l15SameTexts.F spec_l15SameTexts.spec := textOf Go.Proofs.Tryz.f148
theorem spec_l15SameTexts.ok : CtrOK Go.Proofs.Tryz.prog gl spec_l15SameTexts.spec :=
  ctr_okS tabsN spec_l15SameTexts.text spec_l15SameTexts.seg_eq (fun n x => ⟨.p0 x.1 x.2.1, rfl, rfl, rfl⟩) (nilC)

/-! loop.example/g00039/spec.l15SameNode -/
def spec_l15SameNode.T : List Ctr := [spec_l15SameTexts.spec]
def spec_l15SameNode.md : List (Nat × List Md) := []
noncomputable def spec_l15SameNode.F : Fun := ⟨(Go.Proofs.Tryz.f118.body).getD .skip, [.v cU0, .v cU0], [(.tmp 4, .bool)], [], 0, [(4, ⟨[2, 3, 28], [], [(2, 5, (.bs cU3)), (2, 11, (.bs .str)), (2, 13, (.bs .str)), (3, 5, (.bs cU3)), (3, 11, (.bs .str)), (3, 13, (.bs .str))], false⟩), (15, ⟨[2, 3, 31, 32], [], [(2, 5, (.bs cU3)), (2, 11, (.bs .str)), (2, 13, (.bs .str)), (3, 5, (.bs cU3)), (3, 11, (.bs .str)), (3, 13, (.bs .str))], false⟩)]⟩
inductive spec_l15SameNode.Pt where
  | p0 (a0 : tU1) (a1 : tU1)
  | p4 (y1 : Bool) (y2 : Int) (y3 : Int) (y4 : Int) (y5 : ByteArray) (y6 : Int) (y7 : List (tU4)) (y8 : Int) (y9 : Bool) (y10 : Int) (y11 : Bool) (y12 : Int) (y13 : List (ByteArray)) (y14 : Int) (y15 : List (ByteArray)) (y16 : Int) (y17 : Int) (y18 : Int) (y19 : Int) (y20 : ByteArray) (y21 : Int) (y22 : List (tU4)) (y23 : Int) (y24 : Bool) (y25 : Int) (y26 : Bool) (y27 : Int) (y28 : List (ByteArray)) (y29 : Int) (y30 : List (ByteArray)) (y31 : Int)
  | p15 (y1 : Int) (y2 : Int) (y3 : Int) (y4 : Int) (y5 : Int) (y6 : ByteArray) (y7 : Int) (y8 : List (tU4)) (y9 : Int) (y10 : Bool) (y11 : Int) (y12 : Bool) (y13 : Int) (y14 : List (ByteArray)) (y15 : Int) (y16 : List (ByteArray)) (y17 : Int) (y18 : Int) (y19 : Int) (y20 : Int) (y21 : ByteArray) (y22 : Int) (y23 : List (tU4)) (y24 : Int) (y25 : Bool) (y26 : Int) (y27 : Bool) (y28 : Int) (y29 : List (ByteArray)) (y30 : Int) (y31 : List (ByteArray)) (y32 : Int)
def spec_l15SameNode.lb : spec_l15SameNode.Pt → Nat
  | .p0 _ _ => 0
  | .p4 _ _ _ _ _ _ _ _ _ _ _ _ _ _ _ _ _ _ _ _ _ _ _ _ _ _ _ _ _ _ _ => 4
  | .p15 _ _ _ _ _ _ _ _ _ _ _ _ _ _ _ _ _ _ _ _ _ _ _ _ _ _ _ _ _ _ _ _ => 15
def spec_l15SameNode.st : spec_l15SameNode.Pt → St
  | .p0 a0 a1 => enter [.v cU0 a0, .v cU0 a1] 0
  | .p4 y1 y2 y3 y4 y5 y6 y7 y8 y9 y10 y11 y12 y13 y14 y15 y16 y17 y18 y19 y20 y21 y22 y23 y24 y25 y26 y27 y28 y29 y30 y31 => ⟨[(2, .po 0 0), (3, .po 1 0), (28, .im .bool y1)], [(0, .obj [.im (.int .i64) y2, .im (.int .i64) y3, .im (.int .i64) y4, .im .str y5, .im (.int .i64) y6, .im (.bs cU3) y7, .im (.int .i64) y8, .im .bool y9, .im (.int .i64) y10, .im .bool y11, .im (.int .i64) y12, .im (.bs .str) y13, .im (.int .i64) y14, .im (.bs .str) y15, .im (.int .i64) y16]), (1, .obj [.im (.int .i64) y17, .im (.int .i64) y18, .im (.int .i64) y19, .im .str y20, .im (.int .i64) y21, .im (.bs cU3) y22, .im (.int .i64) y23, .im .bool y24, .im (.int .i64) y25, .im .bool y26, .im (.int .i64) y27, .im (.bs .str) y28, .im (.int .i64) y29, .im (.bs .str) y30, .im (.int .i64) y31])], 2⟩
  | .p15 y1 y2 y3 y4 y5 y6 y7 y8 y9 y10 y11 y12 y13 y14 y15 y16 y17 y18 y19 y20 y21 y22 y23 y24 y25 y26 y27 y28 y29 y30 y31 y32 => ⟨[(2, .po 0 0), (3, .po 1 0), (31, .im (.int .i64) y1), (32, .im (.int .i64) y2)], [(0, .obj [.im (.int .i64) y3, .im (.int .i64) y4, .im (.int .i64) y5, .im .str y6, .im (.int .i64) y7, .im (.bs cU3) y8, .im (.int .i64) y9, .im .bool y10, .im (.int .i64) y11, .im .bool y12, .im (.int .i64) y13, .im (.bs .str) y14, .im (.int .i64) y15, .im (.bs .str) y16, .im (.int .i64) y17]), (1, .obj [.im (.int .i64) y18, .im (.int .i64) y19, .im (.int .i64) y20, .im .str y21, .im (.int .i64) y22, .im (.bs cU3) y23, .im (.int .i64) y24, .im .bool y25, .im (.int .i64) y26, .im .bool y27, .im (.int .i64) y28, .im (.bs .str) y29, .im (.int .i64) y30, .im (.bs .str) y31, .im (.int .i64) y32])], 2⟩
def spec_l15SameNode.step (n : Nat) (K : spec_l15SameNode.Pt → Option (Tup [.bool])) : spec_l15SameNode.Pt → Option (Tup [.bool])
  | .p0 a0 a1 => cond (!(decide (((List.length a0.2.2.2.2.2.1) : Int) = ((List.length a1.2.2.2.2.2.1) : Int)))) (K (.p4 true a0.1 a0.2.1 a0.2.2.1 a0.2.2.2.1 a0.2.2.2.2.1 a0.2.2.2.2.2.1 a0.2.2.2.2.2.2.1 a0.2.2.2.2.2.2.2.1 a0.2.2.2.2.2.2.2.2.1 a0.2.2.2.2.2.2.2.2.2.1 a0.2.2.2.2.2.2.2.2.2.2.1 a0.2.2.2.2.2.2.2.2.2.2.2.1 a0.2.2.2.2.2.2.2.2.2.2.2.2.1 a0.2.2.2.2.2.2.2.2.2.2.2.2.2.1 a0.2.2.2.2.2.2.2.2.2.2.2.2.2.2.1 a1.1 a1.2.1 a1.2.2.1 a1.2.2.2.1 a1.2.2.2.2.1 a1.2.2.2.2.2.1 a1.2.2.2.2.2.2.1 a1.2.2.2.2.2.2.2.1 a1.2.2.2.2.2.2.2.2.1 a1.2.2.2.2.2.2.2.2.2.1 a1.2.2.2.2.2.2.2.2.2.2.1 a1.2.2.2.2.2.2.2.2.2.2.2.1 a1.2.2.2.2.2.2.2.2.2.2.2.2.1 a1.2.2.2.2.2.2.2.2.2.2.2.2.2.1 a1.2.2.2.2.2.2.2.2.2.2.2.2.2.2.1)) ((spec_l15SameTexts n a0.2.2.2.2.2.2.2.2.2.2.2.1 a1.2.2.2.2.2.2.2.2.2.2.2.1).bind fun r5 => cond (!r5) (K (.p4 true a0.1 a0.2.1 a0.2.2.1 a0.2.2.2.1 a0.2.2.2.2.1 a0.2.2.2.2.2.1 a0.2.2.2.2.2.2.1 a0.2.2.2.2.2.2.2.1 a0.2.2.2.2.2.2.2.2.1 a0.2.2.2.2.2.2.2.2.2.1 a0.2.2.2.2.2.2.2.2.2.2.1 a0.2.2.2.2.2.2.2.2.2.2.2.1 a0.2.2.2.2.2.2.2.2.2.2.2.2.1 a0.2.2.2.2.2.2.2.2.2.2.2.2.2.1 a0.2.2.2.2.2.2.2.2.2.2.2.2.2.2.1 a1.1 a1.2.1 a1.2.2.1 a1.2.2.2.1 a1.2.2.2.2.1 a1.2.2.2.2.2.1 a1.2.2.2.2.2.2.1 a1.2.2.2.2.2.2.2.1 a1.2.2.2.2.2.2.2.2.1 a1.2.2.2.2.2.2.2.2.2.1 a1.2.2.2.2.2.2.2.2.2.2.1 a1.2.2.2.2.2.2.2.2.2.2.2.1 a1.2.2.2.2.2.2.2.2.2.2.2.2.1 a1.2.2.2.2.2.2.2.2.2.2.2.2.2.1 a1.2.2.2.2.2.2.2.2.2.2.2.2.2.2.1)) ((spec_l15SameTexts n a0.2.2.2.2.2.2.2.2.2.2.2.2.2.1 a1.2.2.2.2.2.2.2.2.2.2.2.2.2.1).bind fun r6 => K (.p4 (!r6) a0.1 a0.2.1 a0.2.2.1 a0.2.2.2.1 a0.2.2.2.2.1 a0.2.2.2.2.2.1 a0.2.2.2.2.2.2.1 a0.2.2.2.2.2.2.2.1 a0.2.2.2.2.2.2.2.2.1 a0.2.2.2.2.2.2.2.2.2.1 a0.2.2.2.2.2.2.2.2.2.2.1 a0.2.2.2.2.2.2.2.2.2.2.2.1 a0.2.2.2.2.2.2.2.2.2.2.2.2.1 a0.2.2.2.2.2.2.2.2.2.2.2.2.2.1 a0.2.2.2.2.2.2.2.2.2.2.2.2.2.2.1 a1.1 a1.2.1 a1.2.2.1 a1.2.2.2.1 a1.2.2.2.2.1 a1.2.2.2.2.2.1 a1.2.2.2.2.2.2.1 a1.2.2.2.2.2.2.2.1 a1.2.2.2.2.2.2.2.2.1 a1.2.2.2.2.2.2.2.2.2.1 a1.2.2.2.2.2.2.2.2.2.2.1 a1.2.2.2.2.2.2.2.2.2.2.2.1 a1.2.2.2.2.2.2.2.2.2.2.2.2.1 a1.2.2.2.2.2.2.2.2.2.2.2.2.2.1 a1.2.2.2.2.2.2.2.2.2.2.2.2.2.2.1)))
  | .p4 y1 y2 y3 y4 y5 y6 y7 y8 y9 y10 y11 y12 y13 y14 y15 y16 y17 y18 y19 y20 y21 y22 y23 y24 y25 y26 y27 y28 y29 y30 y31 => cond y1 (some false) (K (.p15 ((List.length y7) : Int) (0 : Int) y2 y3 y4 y5 y6 y7 y8 y9 y10 y11 y12 y13 y14 y15 y16 y17 y18 y19 y20 y21 y22 y23 y24 y25 y26 y27 y28 y29 y30 y31))
  | .p15 y1 y2 y3 y4 y5 y6 y7 y8 y9 y10 y11 y12 y13 y14 y15 y16 y17 y18 y19 y20 y21 y22 y23 y24 y25 y26 y27 y28 y29 y30 y31 y32 => cond (decide (y2 < y1)) (cond (inB y2 (List.length y8)) (cond (inB y2 (List.length y23)) (cond (!((seq (List.getD y8 (Int.toNat y2) default).1 (List.getD y23 (Int.toNat y2) default).1) && ((decide ((List.getD y8 (Int.toNat y2) default).2.1 = (List.getD y23 (Int.toNat y2) default).2.1)) && ((seq (List.getD y8 (Int.toNat y2) default).2.2.1 (List.getD y23 (Int.toNat y2) default).2.2.1) && true)))) (some false) (K (.p15 y1 (IntKind.wrap .i64 (y2 + (1 : Int))) y3 y4 y5 y6 y7 y8 y9 y10 y11 y12 y13 y14 y15 y16 y17 y18 y19 y20 y21 y22 y23 y24 y25 y26 y27 y28 y29 y30 y31 y32))) (none)) (none)) (cond (decide (y3 = y18)) (cond (decide (y4 = y19)) (cond (decide (y5 = y20)) (cond (seq y6 y21) (cond (decide (y7 = y22)) (cond (decide (y9 = y24)) (cond (y10 == y25) (cond (decide (y11 = y26)) (cond (y12 == y27) (cond (decide (y13 = y28)) (cond (decide (y15 = y30)) (some (decide (y17 = y32))) (some false)) (some false)) (some false)) (some false)) (some false)) (some false)) (some false)) (some false)) (some false)) (some false)) (some false))
def spec_l15SameNode (n : Nat) (a0 : tU1) (a1 : tU1) : Option (Tup [.bool]) := goRec spec_l15SameNode.step n (.p0 a0 a1)
def spec_l15SameNode.spec : Ctr := ⟨118, [.v cU0, .v cU0], [.bool], [], none, fun n x => spec_l15SameNode n x.1 x.2.1⟩
theorem spec_l15SameNode.seg_eq : SegEq tyN gl spec_l15SameNode.F spec_l15SameNode.md spec_l15SameNode.T spec_l15SameNode.spec spec_l15SameNode.lb spec_l15SameNode.st spec_l15SameNode.step := by
  intro n goto y; cases y <;> kernel_rfl
theorem spec_l15SameNode.text : Text Go.Proofs.Tryz.prog spec_l15SameNode.F spec_l15SameNode.spec := textOf Go.Proofs.Tryz.f118
theorem spec_l15SameNode.ok : CtrOK Go.Proofs.Tryz.prog gl spec_l15SameNode.spec :=
  ctr_okS tabsN spec_l15SameNode.text spec_l15SameNode.seg_eq (fun n x => ⟨.p0 x.1 x.2.1, rfl, rfl, rfl⟩) (consC spec_l15SameTexts.ok (nilC))

/-! loop.example/g00039/spec.l2Printed -/
def spec_l2Printed.T : List Ctr := []
def spec_l2Printed.md : List (Nat × List Md) := []
noncomputable def spec_l2Printed.F : Fun := ⟨(Go.Proofs.Tryz.f120.body).getD .skip, [.v .str], [(.tmp 2, .bool)], [], 0, [(7, ⟨[0, 3], [], [], false⟩)]⟩
inductive spec_l2Printed.Pt where
  | p0 (a0 : ByteArray)
  | p7 (y1 : ByteArray) (y2 : Int)
def spec_l2Printed.lb : spec_l2Printed.Pt → Nat
  | .p0 _ => 0
  | .p7 _ _ => 7
def spec_l2Printed.st : spec_l2Printed.Pt → St
  | .p0 a0 => enter [.v .str a0] 0
  | .p7 y1 y2 => ⟨[(0, .im .str y1), (3, .im (.int .i64) y2)], [], 0⟩
def spec_l2Printed.step (n : Nat) (K : spec_l2Printed.Pt → Option (Tup [.bool])) : spec_l2Printed.Pt → Option (Tup [.bool])
  | .p0 a0 => K (.p7 a0 (0 : Int))
  | .p7 y1 y2 => cond (decide (y2 < ((ByteArray.size y1) : Int))) (cond (inB y2 (ByteArray.size y1)) (cond (decide ((bt y1 y2) < (32 : Int))) (some false) (cond (inB y2 (ByteArray.size y1)) (cond (decide ((126 : Int) < (bt y1 y2))) (some false) (K (.p7 y1 (IntKind.wrap .i64 (y2 + (1 : Int)))))) (none))) (none)) (some true)
def spec_l2Printed (n : Nat) (a0 : ByteArray) : Option (Tup [.bool]) := goRec spec_l2Printed.step n (.p0 a0)
def spec_l2Printed.spec : Ctr := ⟨120, [.v .str], [.bool], [], none, fun n x => spec_l2Printed n x.1⟩
theorem spec_l2Printed.seg_eq : SegEq tyN gl spec_l2Printed.F spec_l2Printed.md spec_l2Printed.T spec_l2Printed.spec spec_l2Printed.lb spec_l2Printed.st spec_l2Printed.step := by
  intro n goto y; cases y <;> kernel_rfl
theorem spec_l2Printed.text : Text Go.Proofs.Tryz.prog spec_l2Printed.F spec_l2Printed.spec := textOf Go.Proofs.Tryz.f120
theorem spec_l2Printed.ok : CtrOK Go.Proofs.Tryz.prog gl spec_l2Printed.spec :=
  ctr_okS tabsN spec_l2Printed.text spec_l2Printed.seg_eq (fun n x => ⟨.p0 x.1, rfl, rfl, rfl⟩) (nilC)

/-! loop.example/g00039/spec.l2Digit -/
def spec_l2Digit.T : List Ctr := []
def spec_l2Digit.md : List (Nat × List Md) := []
noncomputable def spec_l2Digit.F : Fun := ⟨(Go.Proofs.Tryz.f99.body).getD .skip, [.v (.int .u8)], [(.tmp 2, .bool)], [], 0, []⟩
inductive spec_l2Digit.Pt where
  | p0 (a0 : Int)
def spec_l2Digit.lb : spec_l2Digit.Pt → Nat
  | .p0 _ => 0
def spec_l2Digit.st : spec_l2Digit.Pt → St
  | .p0 a0 => enter [.v (.int .u8) a0] 0
def spec_l2Digit.step (n : Nat) (K : spec_l2Digit.Pt → Option (Tup [.bool])) : spec_l2Digit.Pt → Option (Tup [.bool])
  | .p0 a0 => cond (decide ((48 : Int) ≤ a0)) (some (decide (a0 ≤ (57 : Int)))) (some false)
def spec_l2Digit (n : Nat) (a0 : Int) : Option (Tup [.bool]) := goRec spec_l2Digit.step n (.p0 a0)
def spec_l2Digit.spec : Ctr := ⟨99, [.v (.int .u8)], [.bool], [], none, fun n x => spec_l2Digit n x.1⟩
theorem spec_l2Digit.seg_eq : SegEq tyN gl spec_l2Digit.F spec_l2Digit.md spec_l2Digit.T spec_l2Digit.spec spec_l2Digit.lb spec_l2Digit.st spec_l2Digit.step := by
  intro n goto y; cases y <;> kernel_rfl
theorem spec_l2Digit.text : Text Go.Proofs.Tryz.prog spec_l2Digit.F spec_l2Digit.spec := textOf Go.Proofs.Tryz.f99
theorem spec_l2Digit.ok : CtrOK Go.Proofs.Tryz.prog gl spec_l2Digit.spec :=
  ctr_okS tabsN spec_l2Digit.text spec_l2Digit.seg_eq (fun n x => ⟨.p0 x.1, rfl, rfl, rfl⟩) (nilC)

/-! loop.example/g00039/spec.l2Letter -/
def spec_l2Letter.T : List Ctr := []
def spec_l2Letter.md : List (Nat × List Md) := []
noncomputable def spec_l2Letter.F : Fun := ⟨(Go.Proofs.Tryz.f100.body).getD .skip, [.v (.int .u8)], [(.tmp 2, .bool)], [], 0, []⟩
inductive spec_l2Letter.Pt where
  | p0 (a0 : Int)
def spec_l2Letter.lb : spec_l2Letter.Pt → Nat
  | .p0 _ => 0
def spec_l2Letter.st : spec_l2Letter.Pt → St
  | .p0 a0 => enter [.v (.int .u8) a0] 0
def spec_l2Letter.step (n : Nat) (K : spec_l2Letter.Pt → Option (Tup [.bool])) : spec_l2Letter.Pt → Option (Tup [.bool])
  | .p0 a0 => cond (decide ((97 : Int) ≤ a0)) (cond (decide (a0 ≤ (122 : Int))) (some true) (cond (decide ((65 : Int) ≤ a0)) (some (decide (a0 ≤ (90 : Int)))) (some false))) (cond (decide ((65 : Int) ≤ a0)) (some (decide (a0 ≤ (90 : Int)))) (some false))
def spec_l2Letter (n : Nat) (a0 : Int) : Option (Tup [.bool]) := goRec spec_l2Letter.step n (.p0 a0)
def spec_l2Letter.spec : Ctr := ⟨100, [.v (.int .u8)], [.bool], [], none, fun n x => spec_l2Letter n x.1⟩
theorem spec_l2Letter.seg_eq : SegEq tyN gl spec_l2Letter.F spec_l2Letter.md spec_l2Letter.T spec_l2Letter.spec spec_l2Letter.lb spec_l2Letter.st spec_l2Letter.step := by
  intro n goto y; cases y <;> kernel_rfl
theorem spec_l2Letter.text : Text Go.Proofs.Tryz.prog spec_l2Letter.F spec_l2Letter.spec := textOf Go.Proofs.Tryz.f100
theorem spec_l2Letter.ok : CtrOK Go.Proofs.Tryz.prog gl spec_l2Letter.spec :=
  ctr_okS tabsN spec_l2Letter.text spec_l2Letter.seg_eq (fun n x => ⟨.p0 x.1, rfl, rfl, rfl⟩) (nilC)

/-! loop.example/g00039/spec.l2Name -/
def spec_l2Name.T : List Ctr := [spec_l2Digit.spec, spec_l2Letter.spec]
def spec_l2Name.md : List (Nat × List Md) := []
noncomputable def spec_l2Name.F : Fun := ⟨(Go.Proofs.Tryz.f58.body).getD .skip, [.v .str], [(.tmp 2, .bool)], [], 0, [(4, ⟨[0, 16], [], [], false⟩), (15, ⟨[0, 3], [], [], false⟩), (24, ⟨[0, 3, 40], [], [], false⟩)]⟩
inductive spec_l2Name.Pt where
  | p0 (a0 : ByteArray)
  | p4 (y1 : ByteArray) (y2 : Bool)
  | p15 (y1 : ByteArray) (y2 : Int)
  | p24 (y1 : ByteArray) (y2 : Int) (y3 : Bool)
def spec_l2Name.lb : spec_l2Name.Pt → Nat
  | .p0 _ => 0
  | .p4 _ _ => 4
  | .p15 _ _ => 15
  | .p24 _ _ _ => 24
def spec_l2Name.st : spec_l2Name.Pt → St
  | .p0 a0 => enter [.v .str a0] 0
  | .p4 y1 y2 => ⟨[(0, .im .str y1), (16, .im .bool y2)], [], 0⟩
  | .p15 y1 y2 => ⟨[(0, .im .str y1), (3, .im (.int .i64) y2)], [], 0⟩
  | .p24 y1 y2 y3 => ⟨[(0, .im .str y1), (3, .im (.int .i64) y2), (40, .im .bool y3)], [], 0⟩
def spec_l2Name.step (n : Nat) (K : spec_l2Name.Pt → Option (Tup [.bool])) : spec_l2Name.Pt → Option (Tup [.bool])
  | .p0 a0 => cond (decide (((ByteArray.size a0) : Int) < (1 : Int))) (K (.p4 a0 true)) (cond (decide ((40 : Int) < ((ByteArray.size a0) : Int))) (K (.p4 a0 true)) (cond (inB (0 : Int) (ByteArray.size a0)) ((spec_l2Digit n (bt a0 (0 : Int))).bind fun r4 => K (.p4 a0 r4)) (none)))
  | .p4 y1 y2 => cond y2 (some false) (K (.p15 y1 (0 : Int)))
  | .p15 y1 y2 => cond (decide (y2 < ((ByteArray.size y1) : Int))) (cond (inB y2 (ByteArray.size y1)) ((spec_l2Letter n (bt y1 y2)).bind fun r5 => cond (!r5) (cond (inB y2 (ByteArray.size y1)) ((spec_l2Digit n (bt y1 y2)).bind fun r6 => cond (!r6) (cond (inB y2 (ByteArray.size y1)) (K (.p24 y1 y2 (!(decide ((bt y1 y2) = (95 : Int)))))) (none)) (K (.p24 y1 y2 false))) (none)) (K (.p24 y1 y2 false))) (none)) (some true)
  | .p24 y1 y2 y3 => cond y3 (some false) (K (.p15 y1 (IntKind.wrap .i64 (y2 + (1 : Int)))))
def spec_l2Name (n : Nat) (a0 : ByteArray) : Option (Tup [.bool]) := goRec spec_l2Name.step n (.p0 a0)
def spec_l2Name.spec : Ctr := ⟨58, [.v .str], [.bool], [], none, fun n x => spec_l2Name n x.1⟩
theorem spec_l2Name.seg_eq : SegEq tyN gl spec_l2Name.F spec_l2Name.md spec_l2Name.T spec_l2Name.spec spec_l2Name.lb spec_l2Name.st spec_l2Name.step := by
  intro n goto y; cases y <;> kernel_rfl
theorem spec_l2Name.text : Text Go.Proofs.Tryz.prog spec_l2Name.F spec_l2Name.spec := textOf Go.Proofs.Tryz.f58
theorem spec_l2Name.ok : CtrOK Go.Proofs.Tryz.prog gl spec_l2Name.spec :=
  ctr_okS tabsN spec_l2Name.text spec_l2Name.seg_eq (fun n x => ⟨.p0 x.1, rfl, rfl, rfl⟩) (consC spec_l2Digit.ok (consC spec_l2Letter.ok (nilC)))

/-! loop.example/g00039/spec.l15Functions -/
def spec_l15Functions.T : List Ctr := []
def spec_l15Functions.md : List (Nat × List Md) := []
noncomputable def spec_l15Functions.F : Fun := ⟨(Go.Proofs.Tryz.f127.body).getD .skip, [], [(.tmp 0, (.sl false .str))], [], 0, []⟩
inductive spec_l15Functions.Pt where
  | p0
def spec_l15Functions.lb : spec_l15Functions.Pt → Nat
  | .p0 => 0
def spec_l15Functions.st : spec_l15Functions.Pt → St
  | .p0 => enter [] 0
def spec_l15Functions.step (n : Nat) (K : spec_l15Functions.Pt → Option (Tup [(.sl false .str)])) : spec_l15Functions.Pt → Option (Tup [(.sl false .str)])
  | .p0 => some [(⟨#[97, 98, 115]⟩ : ByteArray), (⟨#[97, 98, 115, 101, 110, 116]⟩ : ByteArray), (⟨#[97, 118, 103, 95, 111, 118, 101, 114]⟩ : ByteArray), (⟨#[99, 104, 97, 110, 103, 101, 115]⟩ : ByteArray), (⟨#[99, 108, 97, 109, 112]⟩ : ByteArray), (⟨#[99, 111, 117, 110, 116, 95, 111, 118, 101, 114]⟩ : ByteArray), (⟨#[100, 101, 108, 116, 97]⟩ : ByteArray), (⟨#[104, 105, 115, 116, 95, 113, 117, 97, 110, 116, 105, 108, 101]⟩ : ByteArray), (⟨#[108, 97, 98, 101, 108, 95, 106, 111, 105, 110]⟩ : ByteArray), (⟨#[108, 97, 98, 101, 108, 95, 115, 101, 116]⟩ : ByteArray), (⟨#[108, 97, 115, 116, 95, 111, 118, 101, 114]⟩ : ByteArray), (⟨#[109, 97, 120, 95, 111, 118, 101, 114]⟩ : ByteArray), (⟨#[109, 105, 110, 95, 111, 118, 101, 114]⟩ : ByteArray), (⟨#[112, 114, 101, 100, 105, 99, 116]⟩ : ByteArray), (⟨#[113, 117, 97, 110, 116, 105, 108, 101, 95, 111, 118, 101, 114]⟩ : ByteArray), (⟨#[114, 97, 116, 101]⟩ : ByteArray), (⟨#[114, 101, 115, 101, 116, 115]⟩ : ByteArray), (⟨#[114, 105, 115, 101]⟩ : ByteArray), (⟨#[115, 99, 97, 108, 97, 114]⟩ : ByteArray), (⟨#[115, 117, 109, 95, 111, 118, 101, 114]⟩ : ByteArray), (⟨#[116, 105, 109, 101]⟩ : ByteArray), (⟨#[116, 105, 109, 101, 115, 116, 97, 109, 112]⟩ : ByteArray), (⟨#[118, 101, 99, 116, 111, 114]⟩ : ByteArray)]
def spec_l15Functions (n : Nat) : Option (Tup [(.sl false .str)]) := goRec spec_l15Functions.step n (.p0)
def spec_l15Functions.spec : Ctr := ⟨127, [], [(.sl false .str)], [], none, fun n x => spec_l15Functions n⟩
theorem spec_l15Functions.seg_eq : SegEq tyN gl spec_l15Functions.F spec_l15Functions.md spec_l15Functions.T spec_l15Functions.spec spec_l15Functions.lb spec_l15Functions.st spec_l15Functions.step := by
  intro n goto y; cases y <;> kernel_rfl
theorem spec_l15Functions.text : Text Go.Proofs.Tryz.prog spec_l15Functions.F spec_l15Functions.spec := textOf Go.Proofs.Tryz.f127
theorem spec_l15Functions.ok : CtrOK Go.Proofs.Tryz.prog gl spec_l15Functions.spec :=
  ctr_okS tabsN spec_l15Functions.text spec_l15Functions.seg_eq (fun n x => ⟨.p0, rfl, rfl, rfl⟩) (nilC)

/-! loop.example/g00039/spec.l2Has -/
def spec_l2Has.T : List Ctr := []
def spec_l2Has.md : List (Nat × List Md) := []
noncomputable def spec_l2Has.F : Fun := ⟨(Go.Proofs.Tryz.f126.body).getD .skip, [.v (.sl false .str), .v .str], [(.tmp 4, .bool)], [], 0, [(7, ⟨[1, 7, 8, 9], [(7, .str)], [], false⟩)]⟩
inductive spec_l2Has.Pt where
  | p0 (a0 : List (ByteArray)) (a1 : ByteArray)
  | p7 (y1 : ByteArray) (y2 : List (ByteArray)) (y3 : Int) (y4 : Int)
def spec_l2Has.lb : spec_l2Has.Pt → Nat
  | .p0 _ _ => 0
  | .p7 _ _ _ _ => 7
def spec_l2Has.st : spec_l2Has.Pt → St
  | .p0 a0 a1 => enter [.v (.sl false .str) a0, .v .str a1] 0
  | .p7 y1 y2 y3 y4 => ⟨[(1, .im .str y1), (7, .im (.sl false .str) y2), (8, .im (.int .i64) y3), (9, .im (.int .i64) y4)], [], 0⟩
def spec_l2Has.step (n : Nat) (K : spec_l2Has.Pt → Option (Tup [.bool])) : spec_l2Has.Pt → Option (Tup [.bool])
  | .p0 a0 a1 => K (.p7 a1 a0 ((List.length a0) : Int) (0 : Int))
  | .p7 y1 y2 y3 y4 => cond (decide (y4 < y3)) (cond (inB y4 (List.length y2)) (cond (seq (List.getD y2 (Int.toNat y4) default) y1) (some true) (K (.p7 y1 y2 y3 (IntKind.wrap .i64 (y4 + (1 : Int)))))) (none)) (some false)
def spec_l2Has (n : Nat) (a0 : List (ByteArray)) (a1 : ByteArray) : Option (Tup [.bool]) := goRec spec_l2Has.step n (.p0 a0 a1)
def spec_l2Has.spec : Ctr := ⟨126, [.v (.sl false .str), .v .str], [.bool], [], none, fun n x => spec_l2Has n x.1 x.2.1⟩
theorem spec_l2Has.seg_eq : SegEq tyN gl spec_l2Has.F spec_l2Has.md spec_l2Has.T spec_l2Has.spec spec_l2Has.lb spec_l2Has.st spec_l2Has.step := by
  intro n goto y; cases y <;> kernel_rfl
theorem spec_l2Has.text : Text Go.Proofs.Tryz.prog spec_l2Has.F spec_l2Has.spec := textOf Go.Proofs.Tryz.f126
theorem spec_l2Has.ok : CtrOK Go.Proofs.Tryz.prog gl spec_l2Has.spec :=
  ctr_okS tabsN spec_l2Has.text spec_l2Has.seg_eq (fun n x => ⟨.p0 x.1 x.2.1, rfl, rfl, rfl⟩) (nilC)

/-! loop.example/g00039/spec.l15Aggs -/
def spec_l15Aggs.T : List Ctr := []
def spec_l15Aggs.md : List (Nat × List Md) := []
noncomputable def spec_l15Aggs.F : Fun := ⟨(Go.Proofs.Tryz.f149.body).getD .skip, [], [(.tmp 0, (.sl false .str))], [], 0, []⟩
inductive spec_l15Aggs.Pt where
  | p0
def spec_l15Aggs.lb : spec_l15Aggs.Pt → Nat
  | .p0 => 0
def spec_l15Aggs.st : spec_l15Aggs.Pt → St
  | .p0 => enter [] 0
def spec_l15Aggs.step (n : Nat) (K : spec_l15Aggs.Pt → Option (Tup [(.sl false .str)])) : spec_l15Aggs.Pt → Option (Tup [(.sl false .str)])
  | .p0 => some [(⟨#[]⟩ : ByteArray), (⟨#[115, 117, 109]⟩ : ByteArray), (⟨#[109, 105, 110]⟩ : ByteArray), (⟨#[109, 97, 120]⟩ : ByteArray), (⟨#[97, 118, 103]⟩ : ByteArray), (⟨#[99, 111, 117, 110, 116]⟩ : ByteArray), (⟨#[116, 111, 112, 107]⟩ : ByteArray), (⟨#[98, 111, 116, 116, 111, 109, 107]⟩ : ByteArray), (⟨#[113, 117, 97, 110, 116, 105, 108, 101]⟩ : ByteArray)]
def spec_l15Aggs (n : Nat) : Option (Tup [(.sl false .str)]) := goRec spec_l15Aggs.step n (.p0)
def spec_l15Aggs.spec : Ctr := ⟨149, [], [(.sl false .str)], [], none, fun n x => spec_l15Aggs n⟩
theorem spec_l15Aggs.seg_eq : SegEq tyN gl spec_l15Aggs.F spec_l15Aggs.md spec_l15Aggs.T spec_l15Aggs.spec spec_l15Aggs.lb spec_l15Aggs.st spec_l15Aggs.step := by
  intro n goto y; cases y <;> kernel_rfl
theorem spec_l15Aggs.text : Text Go.Proofs.Tryz.prog spec_l15Aggs.F spec_l15Aggs.spec := textOf Go.Proofs.Tryz.f149
theorem spec_l15Aggs.ok : CtrOK Go.Proofs.Tryz.prog gl spec_l15Aggs.spec :=
  ctr_okS tabsN spec_l15Aggs.text spec_l15Aggs.seg_eq (fun n x => ⟨.p0, rfl, rfl, rfl⟩) (nilC)

/-! loop.example/g00039/spec.l15Word -/
def spec_l15Word.T : List Ctr := [spec_l15Functions.spec, spec_l2Has.spec, spec_l15Aggs.spec]
def spec_l15Word.md : List (Nat × List Md) := []
noncomputable def spec_l15Word.F : Fun := ⟨(Go.Proofs.Tryz.f121.body).getD .skip, [.v .str], [(.tmp 2, .bool)], [], 0, []⟩
inductive spec_l15Word.Pt where
  | p0 (a0 : ByteArray)
def spec_l15Word.lb : spec_l15Word.Pt → Nat
  | .p0 _ => 0
def spec_l15Word.st : spec_l15Word.Pt → St
  | .p0 a0 => enter [.v .str a0] 0
def spec_l15Word.step (n : Nat) (K : spec_l15Word.Pt → Option (Tup [.bool])) : spec_l15Word.Pt → Option (Tup [.bool])
  | .p0 a0 => (spec_l15Functions n).bind fun r4 => (spec_l2Has n r4 a0).bind fun r5 => cond r5 (some true) (cond (!(seq a0 (⟨#[]⟩ : ByteArray))) ((spec_l15Aggs n).bind fun r6 => (spec_l2Has n r6 a0).bind fun r7 => cond r7 (some true) ((spec_l2Has n [(⟨#[97, 110, 100]⟩ : ByteArray), (⟨#[98, 111, 111, 108]⟩ : ByteArray), (⟨#[98, 121]⟩ : ByteArray), (⟨#[103, 114, 111, 117, 112, 95, 108, 101, 102, 116]⟩ : ByteArray), (⟨#[103, 114, 111, 117, 112, 95, 114, 105, 103, 104, 116]⟩ : ByteArray), (⟨#[105, 103, 110, 111, 114, 105, 110, 103]⟩ : ByteArray), (⟨#[111, 102, 102, 115, 101, 116]⟩ : ByteArray), (⟨#[111, 110]⟩ : ByteArray), (⟨#[111, 114]⟩ : ByteArray), (⟨#[117, 110, 108, 101, 115, 115]⟩ : ByteArray), (⟨#[119, 105, 116, 104, 111, 117, 116]⟩ : ByteArray)] a0).bind fun r8 => some r8)) ((spec_l2Has n [(⟨#[97, 110, 100]⟩ : ByteArray), (⟨#[98, 111, 111, 108]⟩ : ByteArray), (⟨#[98, 121]⟩ : ByteArray), (⟨#[103, 114, 111, 117, 112, 95, 108, 101, 102, 116]⟩ : ByteArray), (⟨#[103, 114, 111, 117, 112, 95, 114, 105, 103, 104, 116]⟩ : ByteArray), (⟨#[105, 103, 110, 111, 114, 105, 110, 103]⟩ : ByteArray), (⟨#[111, 102, 102, 115, 101, 116]⟩ : ByteArray), (⟨#[111, 110]⟩ : ByteArray), (⟨#[111, 114]⟩ : ByteArray), (⟨#[117, 110, 108, 101, 115, 115]⟩ : ByteArray), (⟨#[119, 105, 116, 104, 111, 117, 116]⟩ : ByteArray)] a0).bind fun r6 => some r6))
def spec_l15Word (n : Nat) (a0 : ByteArray) : Option (Tup [.bool]) := goRec spec_l15Word.step n (.p0 a0)
def spec_l15Word.spec : Ctr := ⟨121, [.v .str], [.bool], [], none, fun n x => spec_l15Word n x.1⟩
theorem spec_l15Word.seg_eq : SegEq tyN gl spec_l15Word.F spec_l15Word.md spec_l15Word.T spec_l15Word.spec spec_l15Word.lb spec_l15Word.st spec_l15Word.step := by
  intro n goto y; cases y <;> kernel_rfl
theorem spec_l15Word.text : Text Go.Proofs.Tryz.prog spec_l15Word.F spec_l15Word.spec := textOf Go.Proofs.Tryz.f121
theorem spec_l15Word.ok : CtrOK Go.Proofs.Tryz.prog gl spec_l15Word.spec :=
  ctr_okS tabsN spec_l15Word.text spec_l15Word.seg_eq (fun n x => ⟨.p0 x.1, rfl, rfl, rfl⟩) (consC spec_l15Functions.ok (consC spec_l2Has.ok (consC spec_l15Aggs.ok (nilC))))

/-! loop.example/g00039/spec.l2Alternatives -/
def spec_l2Alternatives.T : List Ctr := [spec_l2Printed.spec]
def spec_l2Alternatives.md : List (Nat × List Md) := []
noncomputable def spec_l2Alternatives.F : Fun := ⟨(Go.Proofs.Tryz.f160.body).getD .skip, [.v .str], [(.tmp 2, (.sl false (.sl false (.int .i64)))), (.tmp 3, .bool)], [], 0, [(8, ⟨[0, 4, 5, 14], [(4, (.sl false (.int .i64))), (5, (.int .i64))], [], false⟩), (19, ⟨[0, 4, 5, 6], [(4, (.sl false (.int .i64))), (5, (.int .i64))], [], false⟩), (51, ⟨[0, 4, 5, 6, 78], [(4, (.sl false (.int .i64))), (5, (.int .i64))], [], false⟩)]⟩
inductive spec_l2Alternatives.Pt where
  | p0 (a0 : ByteArray)
  | p8 (y1 : ByteArray) (y2 : Bool) (y3 : List (List (Int))) (y4 : List (Int))
  | p19 (y1 : ByteArray) (y2 : Int) (y3 : List (List (Int))) (y4 : List (Int))
  | p51 (y1 : ByteArray) (y2 : Int) (y3 : Bool) (y4 : List (List (Int))) (y5 : List (Int))
def spec_l2Alternatives.lb : spec_l2Alternatives.Pt → Nat
  | .p0 _ => 0
  | .p8 _ _ _ _ => 8
  | .p19 _ _ _ _ => 19
  | .p51 _ _ _ _ _ => 51
def spec_l2Alternatives.st : spec_l2Alternatives.Pt → St
  | .p0 a0 => enter [.v .str a0] 0
  | .p8 y1 y2 y3 y4 => ⟨[(0, .im .str y1), (4, .hs 0 [] none 0), (5, .hs 1 [] none 0), (14, .im .bool y2)], [(0, .arr true (.sl false (.int .i64)) y3 0), (1, .arr true (.int .i64) y4 0)], 2⟩
  | .p19 y1 y2 y3 y4 => ⟨[(0, .im .str y1), (4, .hs 0 [] none 0), (5, .hs 1 [] none 0), (6, .im (.int .i64) y2)], [(0, .arr true (.sl false (.int .i64)) y3 0), (1, .arr true (.int .i64) y4 0)], 2⟩
  | .p51 y1 y2 y3 y4 y5 => ⟨[(0, .im .str y1), (4, .hs 0 [] none 0), (5, .hs 1 [] none 0), (6, .im (.int .i64) y2), (78, .im .bool y3)], [(0, .arr true (.sl false (.int .i64)) y4 0), (1, .arr true (.int .i64) y5 0)], 2⟩
def spec_l2Alternatives.step (n : Nat) (K : spec_l2Alternatives.Pt → Option (Tup [(.sl false (.sl false (.int .i64))), .bool])) : spec_l2Alternatives.Pt → Option (Tup [(.sl false (.sl false (.int .i64))), .bool])
  | .p0 a0 => cond (decide ((100 : Int) < ((ByteArray.size a0) : Int))) (K (.p8 a0 true ([] : List (List (Int))) ([] : List (Int)))) ((spec_l2Printed n a0).bind fun r4 => K (.p8 a0 (!r4) ([] : List (List (Int))) ([] : List (Int))))
  | .p8 y1 y2 y3 y4 => cond y2 (some (([] : List (List (Int))), false)) (K (.p19 y1 (0 : Int) y3 y4))
  | .p19 y1 y2 y3 y4 => cond (decide (y2 < ((ByteArray.size y1) : Int))) (cond (inB y2 (ByteArray.size y1)) (cond (decide ((bt y1 y2) = (124 : Int))) (cond (room ((List.length y3) + (List.length [y4]))) (K (.p19 y1 (IntKind.wrap .i64 (y2 + (1 : Int))) (y3 ++ [y4]) ([] : List (Int)))) (none)) (cond (decide ((bt y1 y2) = (42 : Int))) (cond (room ((List.length y4) + (List.length [(-(1 : Int))]))) (K (.p19 y1 (IntKind.wrap .i64 (y2 + (1 : Int))) y3 (y4 ++ [(-(1 : Int))]))) (none)) (cond (decide ((bt y1 y2) = (63 : Int))) (cond (room ((List.length y4) + (List.length [(-(2 : Int))]))) (K (.p19 y1 (IntKind.wrap .i64 (y2 + (1 : Int))) y3 (y4 ++ [(-(2 : Int))]))) (none)) (cond (decide ((bt y1 y2) = (92 : Int))) (cond (decide ((IntKind.wrap .i64 (y2 + (1 : Int))) = ((ByteArray.size y1) : Int))) (K (.p51 y1 (IntKind.wrap .i64 (y2 + (1 : Int))) true y3 y4)) (cond (inB (IntKind.wrap .i64 (y2 + (1 : Int))) (ByteArray.size y1)) (cond (!(decide ((bt y1 (IntKind.wrap .i64 (y2 + (1 : Int)))) = (42 : Int)))) (cond (inB (IntKind.wrap .i64 (y2 + (1 : Int))) (ByteArray.size y1)) (cond (!(decide ((bt y1 (IntKind.wrap .i64 (y2 + (1 : Int)))) = (63 : Int)))) (cond (inB (IntKind.wrap .i64 (y2 + (1 : Int))) (ByteArray.size y1)) (cond (!(decide ((bt y1 (IntKind.wrap .i64 (y2 + (1 : Int)))) = (124 : Int)))) (cond (inB (IntKind.wrap .i64 (y2 + (1 : Int))) (ByteArray.size y1)) (K (.p51 y1 (IntKind.wrap .i64 (y2 + (1 : Int))) (!(decide ((bt y1 (IntKind.wrap .i64 (y2 + (1 : Int)))) = (92 : Int)))) y3 y4)) (none)) (K (.p51 y1 (IntKind.wrap .i64 (y2 + (1 : Int))) false y3 y4))) (none)) (K (.p51 y1 (IntKind.wrap .i64 (y2 + (1 : Int))) false y3 y4))) (none)) (K (.p51 y1 (IntKind.wrap .i64 (y2 + (1 : Int))) false y3 y4))) (none))) (cond (inB y2 (ByteArray.size y1)) (cond (room ((List.length y4) + (List.length [(IntKind.wrap .i64 (bt y1 y2))]))) (K (.p19 y1 (IntKind.wrap .i64 (y2 + (1 : Int))) y3 (y4 ++ [(IntKind.wrap .i64 (bt y1 y2))]))) (none)) (none)))))) (none)) (cond (room ((List.length y3) + (List.length [y4]))) (some ((y3 ++ [y4]), true)) (none))
  | .p51 y1 y2 y3 y4 y5 => cond y3 (some (([] : List (List (Int))), false)) (cond (inB y2 (ByteArray.size y1)) (cond (room ((List.length y5) + (List.length [(IntKind.wrap .i64 (bt y1 y2))]))) (K (.p19 y1 (IntKind.wrap .i64 (y2 + (1 : Int))) y4 (y5 ++ [(IntKind.wrap .i64 (bt y1 y2))]))) (none)) (none))
def spec_l2Alternatives (n : Nat) (a0 : ByteArray) : Option (Tup [(.sl false (.sl false (.int .i64))), .bool]) := goRec spec_l2Alternatives.step n (.p0 a0)
def spec_l2Alternatives.spec : Ctr := ⟨160, [.v .str], [(.sl false (.sl false (.int .i64))), .bool], [], none, fun n x => spec_l2Alternatives n x.1⟩
theorem spec_l2Alternatives.seg_eq : SegEq tyN gl spec_l2Alternatives.F spec_l2Alternatives.md spec_l2Alternatives.T spec_l2Alternatives.spec spec_l2Alternatives.lb spec_l2Alternatives.st spec_l2Alternatives.step := by
  intro n goto y; cases y <;> kernel_rfl
theorem spec_l2Alternatives.text : Text Go.Proofs.Tryz.prog spec_l2Alternatives.F spec_l2Alternatives.spec := textOf Go.Proofs.Tryz.f160
theorem spec_l2Alternatives.ok : CtrOK Go.Proofs.Tryz.prog gl spec_l2Alternatives.spec :=
  ctr_okS tabsN spec_l2Alternatives.text spec_l2Alternatives.seg_eq (fun n x => ⟨.p0 x.1, rfl, rfl, rfl⟩) (consC spec_l2Printed.ok (nilC))

/-! loop.example/g00039/spec.GoodPattern -/
def spec_GoodPattern.T : List Ctr := [spec_l2Alternatives.spec]
def spec_GoodPattern.md : List (Nat × List Md) := []
noncomputable def spec_GoodPattern.F : Fun := ⟨(Go.Proofs.Tryz.f150.body).getD .skip, [.v .str], [(.tmp 2, .bool)], [], 0, []⟩
inductive spec_GoodPattern.Pt where
  | p0 (a0 : ByteArray)
def spec_GoodPattern.lb : spec_GoodPattern.Pt → Nat
  | .p0 _ => 0
def spec_GoodPattern.st : spec_GoodPattern.Pt → St
  | .p0 a0 => enter [.v .str a0] 0
def spec_GoodPattern.step (n : Nat) (K : spec_GoodPattern.Pt → Option (Tup [.bool])) : spec_GoodPattern.Pt → Option (Tup [.bool])
  | .p0 a0 => (spec_l2Alternatives n a0).bind fun r4 => some r4.2
def spec_GoodPattern (n : Nat) (a0 : ByteArray) : Option (Tup [.bool]) := goRec spec_GoodPattern.step n (.p0 a0)
def spec_GoodPattern.spec : Ctr := ⟨150, [.v .str], [.bool], [], none, fun n x => spec_GoodPattern n x.1⟩
theorem spec_GoodPattern.seg_eq : SegEq tyN gl spec_GoodPattern.F spec_GoodPattern.md spec_GoodPattern.T spec_GoodPattern.spec spec_GoodPattern.lb spec_GoodPattern.st spec_GoodPattern.step := by
  intro n goto y; cases y <;> kernel_rfl
theorem spec_GoodPattern.text : Text Go.Proofs.Tryz.prog spec_GoodPattern.F spec_GoodPattern.spec := textOf Go.Proofs.Tryz.f150
theorem spec_GoodPattern.ok : CtrOK Go.Proofs.Tryz.prog gl spec_GoodPattern.spec :=
  ctr_okS tabsN spec_GoodPattern.text spec_GoodPattern.seg_eq (fun n x => ⟨.p0 x.1, rfl, rfl, rfl⟩) (consC spec_l2Alternatives.ok (nilC))

/-! loop.example/g00039/spec.GoodMatchers -/
def spec_GoodMatchers.T : List Ctr := [spec_l2Printed.spec, spec_l2Name.spec, spec_GoodPattern.spec]
def spec_GoodMatchers.md : List (Nat × List Md) := []
noncomputable def spec_GoodMatchers.F : Fun := ⟨(Go.Proofs.Tryz.f122.body).getD .skip, [.v (.sl false cU3)], [(.tmp 2, .bool)], [], 0, [(15, ⟨[8, 9, 10], [(8, cU3)], [], false⟩), (26, ⟨[8, 9, 10, 50], [(8, cU3)], [], false⟩)]⟩
inductive spec_GoodMatchers.Pt where
  | p0 (a0 : List (tU4))
  | p15 (y1 : List (tU4)) (y2 : Int) (y3 : Int)
  | p26 (y1 : List (tU4)) (y2 : Int) (y3 : Int) (y4 : Bool)
def spec_GoodMatchers.lb : spec_GoodMatchers.Pt → Nat
  | .p0 _ => 0
  | .p15 _ _ _ => 15
  | .p26 _ _ _ _ => 26
def spec_GoodMatchers.st : spec_GoodMatchers.Pt → St
  | .p0 a0 => enter [.v (.sl false cU3) a0] 0
  | .p15 y1 y2 y3 => ⟨[(8, .im (.sl false cU3) y1), (9, .im (.int .i64) y2), (10, .im (.int .i64) y3)], [], 0⟩
  | .p26 y1 y2 y3 y4 => ⟨[(8, .im (.sl false cU3) y1), (9, .im (.int .i64) y2), (10, .im (.int .i64) y3), (50, .im .bool y4)], [], 0⟩
def spec_GoodMatchers.step (n : Nat) (K : spec_GoodMatchers.Pt → Option (Tup [.bool])) : spec_GoodMatchers.Pt → Option (Tup [.bool])
  | .p0 a0 => cond (decide ((10 : Int) < ((List.length a0) : Int))) (some false) (K (.p15 a0 ((List.length a0) : Int) (0 : Int)))
  | .p15 y1 y2 y3 => cond (decide (y3 < y2)) (cond (inB y3 (List.length y1)) ((spec_l2Name n (List.getD y1 (Int.toNat y3) default).1).bind fun r6 => cond (!r6) (K (.p26 y1 y2 y3 true)) (cond (decide ((List.getD y1 (Int.toNat y3) default).2.1 < (1 : Int))) (K (.p26 y1 y2 y3 true)) (cond (decide ((4 : Int) < (List.getD y1 (Int.toNat y3) default).2.1)) (K (.p26 y1 y2 y3 true)) (cond (decide ((100 : Int) < ((ByteArray.size (List.getD y1 (Int.toNat y3) default).2.2.1) : Int))) (K (.p26 y1 y2 y3 true)) ((spec_l2Printed n (List.getD y1 (Int.toNat y3) default).2.2.1).bind fun r7 => cond (!r7) (K (.p26 y1 y2 y3 true)) (cond (decide ((3 : Int) ≤ (List.getD y1 (Int.toNat y3) default).2.1)) ((spec_GoodPattern n (List.getD y1 (Int.toNat y3) default).2.2.1).bind fun r8 => K (.p26 y1 y2 y3 (!r8))) (K (.p26 y1 y2 y3 false)))))))) (none)) (some true)
  | .p26 y1 y2 y3 y4 => cond y4 (some false) (K (.p15 y1 y2 (IntKind.wrap .i64 (y3 + (1 : Int)))))
def spec_GoodMatchers (n : Nat) (a0 : List (tU4)) : Option (Tup [.bool]) := goRec spec_GoodMatchers.step n (.p0 a0)
def spec_GoodMatchers.spec : Ctr := ⟨122, [.v (.sl false cU3)], [.bool], [], none, fun n x => spec_GoodMatchers n x.1⟩
theorem spec_GoodMatchers.seg_eq : SegEq tyN gl spec_GoodMatchers.F spec_GoodMatchers.md spec_GoodMatchers.T spec_GoodMatchers.spec spec_GoodMatchers.lb spec_GoodMatchers.st spec_GoodMatchers.step := by
  intro n goto y; cases y <;> kernel_rfl
theorem spec_GoodMatchers.text : Text Go.Proofs.Tryz.prog spec_GoodMatchers.F spec_GoodMatchers.spec := textOf Go.Proofs.Tryz.f122
theorem spec_GoodMatchers.ok : CtrOK Go.Proofs.Tryz.prog gl spec_GoodMatchers.spec :=
  ctr_okS tabsN spec_GoodMatchers.text spec_GoodMatchers.seg_eq (fun n x => ⟨.p0 x.1, rfl, rfl, rfl⟩) (consC spec_l2Printed.ok (consC spec_l2Name.ok (consC spec_GoodPattern.ok (nilC))))

/-! loop.example/g00039/spec.l3Time -/
def spec_l3Time.T : List Ctr := []
def spec_l3Time.md : List (Nat × List Md) := []
noncomputable def spec_l3Time.F : Fun := ⟨(Go.Proofs.Tryz.f61.body).getD .skip, [.v (.int .i64)], [(.tmp 2, .bool)], [], 0, []⟩
inductive spec_l3Time.Pt where
  | p0 (a0 : Int)
def spec_l3Time.lb : spec_l3Time.Pt → Nat
  | .p0 _ => 0
def spec_l3Time.st : spec_l3Time.Pt → St
  | .p0 a0 => enter [.v (.int .i64) a0] 0
def spec_l3Time.step (n : Nat) (K : spec_l3Time.Pt → Option (Tup [.bool])) : spec_l3Time.Pt → Option (Tup [.bool])
  | .p0 a0 => cond (decide ((0 : Int) ≤ a0)) (some (decide (a0 ≤ (1000000000000 : Int)))) (some false)
def spec_l3Time (n : Nat) (a0 : Int) : Option (Tup [.bool]) := goRec spec_l3Time.step n (.p0 a0)
def spec_l3Time.spec : Ctr := ⟨61, [.v (.int .i64)], [.bool], [], none, fun n x => spec_l3Time n x.1⟩
theorem spec_l3Time.seg_eq : SegEq tyN gl spec_l3Time.F spec_l3Time.md spec_l3Time.T spec_l3Time.spec spec_l3Time.lb spec_l3Time.st spec_l3Time.step := by
  intro n goto y; cases y <;> kernel_rfl
theorem spec_l3Time.text : Text Go.Proofs.Tryz.prog spec_l3Time.F spec_l3Time.spec := textOf Go.Proofs.Tryz.f61
theorem spec_l3Time.ok : CtrOK Go.Proofs.Tryz.prog gl spec_l3Time.spec :=
  ctr_okS tabsN spec_l3Time.text spec_l3Time.seg_eq (fun n x => ⟨.p0 x.1, rfl, rfl, rfl⟩) (nilC)

/-! loop.example/g00039/spec.l15Place -/
def spec_l15Place.T : List Ctr := [spec_l3Time.spec]
def spec_l15Place.md : List (Nat × List Md) := []
noncomputable def spec_l15Place.F : Fun := ⟨(Go.Proofs.Tryz.f123.body).getD .skip, [.v cU0], [(.tmp 2, .bool)], [], 0, []⟩
inductive spec_l15Place.Pt where
  | p0 (a0 : tU1)
def spec_l15Place.lb : spec_l15Place.Pt → Nat
  | .p0 _ => 0
def spec_l15Place.st : spec_l15Place.Pt → St
  | .p0 a0 => enter [.v cU0 a0] 0
def spec_l15Place.step (n : Nat) (K : spec_l15Place.Pt → Option (Tup [.bool])) : spec_l15Place.Pt → Option (Tup [.bool])
  | .p0 a0 => (spec_l3Time n a0.2.2.2.2.2.2.1).bind fun r4 => cond r4 (cond a0.2.2.2.2.2.2.2.1 ((spec_l3Time n a0.2.2.2.2.2.2.2.2.1).bind fun r5 => cond r5 (some true) (cond (!a0.2.2.2.2.2.2.2.1) (some (decide (a0.2.2.2.2.2.2.2.2.1 = (0 : Int)))) (some false))) (cond (!a0.2.2.2.2.2.2.2.1) (some (decide (a0.2.2.2.2.2.2.2.2.1 = (0 : Int)))) (some false))) (some false)
def spec_l15Place (n : Nat) (a0 : tU1) : Option (Tup [.bool]) := goRec spec_l15Place.step n (.p0 a0)
def spec_l15Place.spec : Ctr := ⟨123, [.v cU0], [.bool], [], none, fun n x => spec_l15Place n x.1⟩
theorem spec_l15Place.seg_eq : SegEq tyN gl spec_l15Place.F spec_l15Place.md spec_l15Place.T spec_l15Place.spec spec_l15Place.lb spec_l15Place.st spec_l15Place.step := by
  intro n goto y; cases y <;> kernel_rfl
theorem spec_l15Place.text : Text Go.Proofs.Tryz.prog spec_l15Place.F spec_l15Place.spec := textOf Go.Proofs.Tryz.f123
theorem spec_l15Place.ok : CtrOK Go.Proofs.Tryz.prog gl spec_l15Place.spec :=
  ctr_okS tabsN spec_l15Place.text spec_l15Place.seg_eq (fun n x => ⟨.p0 x.1, rfl, rfl, rfl⟩) (consC spec_l3Time.ok (nilC))

/-! loop.example/g00039/spec.l15Compare -/
def spec_l15Compare.T : List Ctr := []
def spec_l15Compare.md : List (Nat × List Md) := []
noncomputable def spec_l15Compare.F : Fun := ⟨(Go.Proofs.Tryz.f82.body).getD .skip, [.v (.int .i64)], [(.tmp 2, .bool)], [], 0, []⟩
inductive spec_l15Compare.Pt where
  | p0 (a0 : Int)
def spec_l15Compare.lb : spec_l15Compare.Pt → Nat
  | .p0 _ => 0
def spec_l15Compare.st : spec_l15Compare.Pt → St
  | .p0 a0 => enter [.v (.int .i64) a0] 0
def spec_l15Compare.step (n : Nat) (K : spec_l15Compare.Pt → Option (Tup [.bool])) : spec_l15Compare.Pt → Option (Tup [.bool])
  | .p0 a0 => cond (decide ((6 : Int) ≤ a0)) (some (decide (a0 ≤ (11 : Int)))) (some false)
def spec_l15Compare (n : Nat) (a0 : Int) : Option (Tup [.bool]) := goRec spec_l15Compare.step n (.p0 a0)
def spec_l15Compare.spec : Ctr := ⟨82, [.v (.int .i64)], [.bool], [], none, fun n x => spec_l15Compare n x.1⟩
theorem spec_l15Compare.seg_eq : SegEq tyN gl spec_l15Compare.F spec_l15Compare.md spec_l15Compare.T spec_l15Compare.spec spec_l15Compare.lb spec_l15Compare.st spec_l15Compare.step := by
  intro n goto y; cases y <;> kernel_rfl
theorem spec_l15Compare.text : Text Go.Proofs.Tryz.prog spec_l15Compare.F spec_l15Compare.spec := textOf Go.Proofs.Tryz.f82
theorem spec_l15Compare.ok : CtrOK Go.Proofs.Tryz.prog gl spec_l15Compare.spec :=
  ctr_okS tabsN spec_l15Compare.text spec_l15Compare.seg_eq (fun n x => ⟨.p0 x.1, rfl, rfl, rfl⟩) (nilC)

/-! loop.example/g00039/spec.l2CmpNum -/
def spec_l2CmpNum.T : List Ctr := []
def spec_l2CmpNum.md : List (Nat × List Md) := []
noncomputable def spec_l2CmpNum.F : Fun := ⟨(Go.Proofs.Tryz.f142.body).getD .skip, [.v (.int .i64), .v (.int .i64)], [(.tmp 4, (.int .i64))], [], 0, []⟩
inductive spec_l2CmpNum.Pt where
  | p0 (a0 : Int) (a1 : Int)
def spec_l2CmpNum.lb : spec_l2CmpNum.Pt → Nat
  | .p0 _ _ => 0
def spec_l2CmpNum.st : spec_l2CmpNum.Pt → St
  | .p0 a0 a1 => enter [.v (.int .i64) a0, .v (.int .i64) a1] 0
def spec_l2CmpNum.step (n : Nat) (K : spec_l2CmpNum.Pt → Option (Tup [(.int .i64)])) : spec_l2CmpNum.Pt → Option (Tup [(.int .i64)])
  | .p0 a0 a1 => cond (decide (a0 < a1)) (some (-(1 : Int))) (cond (decide (a1 < a0)) (some (1 : Int)) (some (0 : Int)))
def spec_l2CmpNum (n : Nat) (a0 : Int) (a1 : Int) : Option (Tup [(.int .i64)]) := goRec spec_l2CmpNum.step n (.p0 a0 a1)
def spec_l2CmpNum.spec : Ctr := ⟨142, [.v (.int .i64), .v (.int .i64)], [(.int .i64)], [], none, fun n x => spec_l2CmpNum n x.1 x.2.1⟩
theorem spec_l2CmpNum.seg_eq : SegEq tyN gl spec_l2CmpNum.F spec_l2CmpNum.md spec_l2CmpNum.T spec_l2CmpNum.spec spec_l2CmpNum.lb spec_l2CmpNum.st spec_l2CmpNum.step := by
  intro n goto y; cases y <;> kernel_rfl
theorem spec_l2CmpNum.text : Text Go.Proofs.Tryz.prog spec_l2CmpNum.F spec_l2CmpNum.spec := textOf Go.Proofs.Tryz.f142
theorem spec_l2CmpNum.ok : CtrOK Go.Proofs.Tryz.prog gl spec_l2CmpNum.spec :=
  ctr_okS tabsN spec_l2CmpNum.text spec_l2CmpNum.seg_eq (fun n x => ⟨.p0 x.1 x.2.1, rfl, rfl, rfl⟩) (nilC)

/-! loop.example/g00039/spec.l2CmpText -/
def spec_l2CmpText.T : List Ctr := [spec_l2CmpNum.spec]
def spec_l2CmpText.md : List (Nat × List Md) := []
noncomputable def spec_l2CmpText.F : Fun := ⟨(Go.Proofs.Tryz.f102.body).getD .skip, [.v .str, .v .str], [(.tmp 4, (.int .i64))], [], 0, [(7, ⟨[0, 1, 5], [], [], false⟩), (9, ⟨[0, 1, 5, 15], [], [], false⟩)]⟩
inductive spec_l2CmpText.Pt where
  | p0 (a0 : ByteArray) (a1 : ByteArray)
  | p7 (y1 : ByteArray) (y2 : ByteArray) (y3 : Int)
  | p9 (y1 : ByteArray) (y2 : ByteArray) (y3 : Int) (y4 : Bool)
def spec_l2CmpText.lb : spec_l2CmpText.Pt → Nat
  | .p0 _ _ => 0
  | .p7 _ _ _ => 7
  | .p9 _ _ _ _ => 9
def spec_l2CmpText.st : spec_l2CmpText.Pt → St
  | .p0 a0 a1 => enter [.v .str a0, .v .str a1] 0
  | .p7 y1 y2 y3 => ⟨[(0, .im .str y1), (1, .im .str y2), (5, .im (.int .i64) y3)], [], 0⟩
  | .p9 y1 y2 y3 y4 => ⟨[(0, .im .str y1), (1, .im .str y2), (5, .im (.int .i64) y3), (15, .im .bool y4)], [], 0⟩
def spec_l2CmpText.step (n : Nat) (K : spec_l2CmpText.Pt → Option (Tup [(.int .i64)])) : spec_l2CmpText.Pt → Option (Tup [(.int .i64)])
  | .p0 a0 a1 => K (.p7 a0 a1 (0 : Int))
  | .p7 y1 y2 y3 => cond (decide (y3 < ((ByteArray.size y1) : Int))) (K (.p9 y1 y2 y3 (decide (y3 < ((ByteArray.size y2) : Int))))) (K (.p9 y1 y2 y3 false))
  | .p9 y1 y2 y3 y4 => cond y4 (cond (inB y3 (ByteArray.size y1)) (cond (inB y3 (ByteArray.size y2)) (cond (!(decide ((bt y1 y3) = (bt y2 y3)))) (cond (inB y3 (ByteArray.size y1)) (cond (inB y3 (ByteArray.size y2)) ((spec_l2CmpNum n (IntKind.wrap .i64 (bt y1 y3)) (IntKind.wrap .i64 (bt y2 y3))).bind fun (r7 : Int) => some r7) (none)) (none)) (K (.p7 y1 y2 (IntKind.wrap .i64 (y3 + (1 : Int)))))) (none)) (none)) ((spec_l2CmpNum n ((ByteArray.size y1) : Int) ((ByteArray.size y2) : Int)).bind fun (r7 : Int) => some r7)
def spec_l2CmpText (n : Nat) (a0 : ByteArray) (a1 : ByteArray) : Option (Tup [(.int .i64)]) := goRec spec_l2CmpText.step n (.p0 a0 a1)
def spec_l2CmpText.spec : Ctr := ⟨102, [.v .str, .v .str], [(.int .i64)], [], none, fun n x => spec_l2CmpText n x.1 x.2.1⟩
theorem spec_l2CmpText.seg_eq : SegEq tyN gl spec_l2CmpText.F spec_l2CmpText.md spec_l2CmpText.T spec_l2CmpText.spec spec_l2CmpText.lb spec_l2CmpText.st spec_l2CmpText.step := by
  intro n goto y; cases y <;> kernel_rfl
theorem spec_l2CmpText.text : Text Go.Proofs.Tryz.prog spec_l2CmpText.F spec_l2CmpText.spec := textOf Go.Proofs.Tryz.f102
theorem spec_l2CmpText.ok : CtrOK Go.Proofs.Tryz.prog gl spec_l2CmpText.spec :=
  ctr_okS tabsN spec_l2CmpText.text spec_l2CmpText.seg_eq (fun n x => ⟨.p0 x.1 x.2.1, rfl, rfl, rfl⟩) (consC spec_l2CmpNum.ok (nilC))

/-! loop.example/g00039/spec.l2Rising -/
def spec_l2Rising.T : List Ctr := [spec_l2CmpText.spec]
def spec_l2Rising.md : List (Nat × List Md) := []
noncomputable def spec_l2Rising.F : Fun := ⟨(Go.Proofs.Tryz.f151.body).getD .skip, [.v (.sl false .str)], [(.tmp 2, .bool)], [], 0, [(7, ⟨[0, 3], [], [], false⟩)]⟩
inductive spec_l2Rising.Pt where
  | p0 (a0 : List (ByteArray))
  | p7 (y1 : List (ByteArray)) (y2 : Int)
def spec_l2Rising.lb : spec_l2Rising.Pt → Nat
  | .p0 _ => 0
  | .p7 _ _ => 7
def spec_l2Rising.st : spec_l2Rising.Pt → St
  | .p0 a0 => enter [.v (.sl false .str) a0] 0
  | .p7 y1 y2 => ⟨[(0, .im (.sl false .str) y1), (3, .im (.int .i64) y2)], [], 0⟩
def spec_l2Rising.step (n : Nat) (K : spec_l2Rising.Pt → Option (Tup [.bool])) : spec_l2Rising.Pt → Option (Tup [.bool])
  | .p0 a0 => K (.p7 a0 (1 : Int))
  | .p7 y1 y2 => cond (decide (y2 < ((List.length y1) : Int))) (cond (inB (IntKind.wrap .i64 (y2 - (1 : Int))) (List.length y1)) (cond (inB y2 (List.length y1)) ((spec_l2CmpText n (List.getD y1 (Int.toNat (IntKind.wrap .i64 (y2 - (1 : Int)))) default) (List.getD y1 (Int.toNat y2) default)).bind fun (r5 : Int) => cond (decide ((0 : Int) ≤ r5)) (some false) (K (.p7 y1 (IntKind.wrap .i64 (y2 + (1 : Int)))))) (none)) (none)) (some true)
def spec_l2Rising (n : Nat) (a0 : List (ByteArray)) : Option (Tup [.bool]) := goRec spec_l2Rising.step n (.p0 a0)
def spec_l2Rising.spec : Ctr := ⟨151, [.v (.sl false .str)], [.bool], [], none, fun n x => spec_l2Rising n x.1⟩
theorem spec_l2Rising.seg_eq : SegEq tyN gl spec_l2Rising.F spec_l2Rising.md spec_l2Rising.T spec_l2Rising.spec spec_l2Rising.lb spec_l2Rising.st spec_l2Rising.step := by
  intro n goto y; cases y <;> kernel_rfl
theorem spec_l2Rising.text : Text Go.Proofs.Tryz.prog spec_l2Rising.F spec_l2Rising.spec := textOf Go.Proofs.Tryz.f151
theorem spec_l2Rising.ok : CtrOK Go.Proofs.Tryz.prog gl spec_l2Rising.spec :=
  ctr_okS tabsN spec_l2Rising.text spec_l2Rising.seg_eq (fun n x => ⟨.p0 x.1, rfl, rfl, rfl⟩) (consC spec_l2CmpText.ok (nilC))

/-! loop.example/g00039/spec.l15Names -/
def spec_l15Names.T : List Ctr := [spec_l2Name.spec, spec_l2Rising.spec]
def spec_l15Names.md : List (Nat × List Md) := []
noncomputable def spec_l15Names.F : Fun := ⟨(Go.Proofs.Tryz.f125.body).getD .skip, [.v (.sl false .str)], [(.tmp 2, .bool)], [], 0, [(7, ⟨[0, 5, 6, 7], [(5, .str)], [], false⟩)]⟩
inductive spec_l15Names.Pt where
  | p0 (a0 : List (ByteArray))
  | p7 (y1 : List (ByteArray)) (y2 : List (ByteArray)) (y3 : Int) (y4 : Int)
def spec_l15Names.lb : spec_l15Names.Pt → Nat
  | .p0 _ => 0
  | .p7 _ _ _ _ => 7
def spec_l15Names.st : spec_l15Names.Pt → St
  | .p0 a0 => enter [.v (.sl false .str) a0] 0
  | .p7 y1 y2 y3 y4 => ⟨[(0, .im (.sl false .str) y1), (5, .im (.sl false .str) y2), (6, .im (.int .i64) y3), (7, .im (.int .i64) y4)], [], 0⟩
def spec_l15Names.step (n : Nat) (K : spec_l15Names.Pt → Option (Tup [.bool])) : spec_l15Names.Pt → Option (Tup [.bool])
  | .p0 a0 => K (.p7 a0 a0 ((List.length a0) : Int) (0 : Int))
  | .p7 y1 y2 y3 y4 => cond (decide (y4 < y3)) (cond (inB y4 (List.length y2)) ((spec_l2Name n (List.getD y2 (Int.toNat y4) default)).bind fun r7 => cond (!r7) (some false) (K (.p7 y1 y2 y3 (IntKind.wrap .i64 (y4 + (1 : Int)))))) (none)) (cond (decide (((List.length y1) : Int) ≤ (10 : Int))) ((spec_l2Rising n y1).bind fun r7 => some r7) (some false))
def spec_l15Names (n : Nat) (a0 : List (ByteArray)) : Option (Tup [.bool]) := goRec spec_l15Names.step n (.p0 a0)
def spec_l15Names.spec : Ctr := ⟨125, [.v (.sl false .str)], [.bool], [], none, fun n x => spec_l15Names n x.1⟩
theorem spec_l15Names.seg_eq : SegEq tyN gl spec_l15Names.F spec_l15Names.md spec_l15Names.T spec_l15Names.spec spec_l15Names.lb spec_l15Names.st spec_l15Names.step := by
  intro n goto y; cases y <;> kernel_rfl
theorem spec_l15Names.text : Text Go.Proofs.Tryz.prog spec_l15Names.F spec_l15Names.spec := textOf Go.Proofs.Tryz.f125
theorem spec_l15Names.ok : CtrOK Go.Proofs.Tryz.prog gl spec_l15Names.spec :=
  ctr_okS tabsN spec_l15Names.text spec_l15Names.seg_eq (fun n x => ⟨.p0 x.1, rfl, rfl, rfl⟩) (consC spec_l2Name.ok (consC spec_l2Rising.ok (nilC)))

/-! loop.example/g00039/spec.l15By -/
def spec_l15By.T : List Ctr := [spec_l15Names.spec]
def spec_l15By.md : List (Nat × List Md) := []
noncomputable def spec_l15By.F : Fun := ⟨(Go.Proofs.Tryz.f124.body).getD .skip, [.v cU0], [(.tmp 2, .bool)], [], 0, []⟩
inductive spec_l15By.Pt where
  | p0 (a0 : tU1)
def spec_l15By.lb : spec_l15By.Pt → Nat
  | .p0 _ => 0
def spec_l15By.st : spec_l15By.Pt → St
  | .p0 a0 => enter [.v cU0 a0] 0
def spec_l15By.step (n : Nat) (K : spec_l15By.Pt → Option (Tup [.bool])) : spec_l15By.Pt → Option (Tup [.bool])
  | .p0 a0 => cond (decide ((0 : Int) ≤ a0.2.2.2.2.2.2.2.2.2.2.1)) (cond (decide (a0.2.2.2.2.2.2.2.2.2.2.1 ≤ (2 : Int))) ((spec_l15Names n a0.2.2.2.2.2.2.2.2.2.2.2.1).bind fun r4 => cond r4 (cond (!(decide (a0.2.2.2.2.2.2.2.2.2.2.1 = (0 : Int)))) (some true) (some (decide (((List.length a0.2.2.2.2.2.2.2.2.2.2.2.1) : Int) = (0 : Int))))) (some false)) (some false)) (some false)
def spec_l15By (n : Nat) (a0 : tU1) : Option (Tup [.bool]) := goRec spec_l15By.step n (.p0 a0)
def spec_l15By.spec : Ctr := ⟨124, [.v cU0], [.bool], [], none, fun n x => spec_l15By n x.1⟩
theorem spec_l15By.seg_eq : SegEq tyN gl spec_l15By.F spec_l15By.md spec_l15By.T spec_l15By.spec spec_l15By.lb spec_l15By.st spec_l15By.step := by
  intro n goto y; cases y <;> kernel_rfl
theorem spec_l15By.text : Text Go.Proofs.Tryz.prog spec_l15By.F spec_l15By.spec := textOf Go.Proofs.Tryz.f124
theorem spec_l15By.ok : CtrOK Go.Proofs.Tryz.prog gl spec_l15By.spec :=
  ctr_okS tabsN spec_l15By.text spec_l15By.seg_eq (fun n x => ⟨.p0 x.1, rfl, rfl, rfl⟩) (consC spec_l15Names.ok (nilC))

/-! loop.example/g00039/spec.l15Node -/
def spec_l15Node.T : List Ctr := [spec_l15Zero.spec, spec_l15SameNode.spec, spec_l2Printed.spec, spec_l2Name.spec, spec_l15Functions.spec, spec_l2Has.spec, spec_l15Word.spec, spec_GoodMatchers.spec, spec_l15Place.spec, spec_l15Compare.spec, spec_l15Names.spec, spec_l15By.spec]
def spec_l15Node.md : List (Nat × List Md) := []
noncomputable def spec_l15Node.F : Fun := ⟨(Go.Proofs.Tryz.f80.body).getD .skip, [.v cU0], [(.tmp 2, .bool)], [], 0, [(93, ⟨[1, 5], [], [(1, 5, (.bs cU3)), (1, 11, (.bs .str)), (1, 13, (.bs .str))], false⟩), (78, ⟨[1, 182], [], [(1, 5, (.bs cU3)), (1, 11, (.bs .str)), (1, 13, (.bs .str))], false⟩), (34, ⟨[1, 42, 43, 44], [(42, cU3)], [(1, 5, (.bs cU3)), (1, 11, (.bs .str)), (1, 13, (.bs .str))], false⟩)]⟩
inductive spec_l15Node.Pt where
  | p0 (a0 : tU1)
  | p34 (y1 : List (tU4)) (y2 : Int) (y3 : Int) (y4 : Int) (y5 : Int) (y6 : Int) (y7 : ByteArray) (y8 : Int) (y9 : List (tU4)) (y10 : Int) (y11 : Bool) (y12 : Int) (y13 : Bool) (y14 : Int) (y15 : List (ByteArray)) (y16 : Int) (y17 : List (ByteArray)) (y18 : Int)
  | p78 (y1 : Bool) (y2 : Int) (y3 : Int) (y4 : Int) (y5 : ByteArray) (y6 : Int) (y7 : List (tU4)) (y8 : Int) (y9 : Bool) (y10 : Int) (y11 : Bool) (y12 : Int) (y13 : List (ByteArray)) (y14 : Int) (y15 : List (ByteArray)) (y16 : Int)
  | p93 (y1 : Int) (y2 : Int) (y3 : Int) (y4 : Int) (y5 : ByteArray) (y6 : Int) (y7 : List (tU4)) (y8 : Int) (y9 : Bool) (y10 : Int) (y11 : Bool) (y12 : Int) (y13 : List (ByteArray)) (y14 : Int) (y15 : List (ByteArray)) (y16 : Int)
def spec_l15Node.lb : spec_l15Node.Pt → Nat
  | .p0 _ => 0
  | .p34 _ _ _ _ _ _ _ _ _ _ _ _ _ _ _ _ _ _ => 34
  | .p78 _ _ _ _ _ _ _ _ _ _ _ _ _ _ _ _ => 78
  | .p93 _ _ _ _ _ _ _ _ _ _ _ _ _ _ _ _ => 93
def spec_l15Node.st : spec_l15Node.Pt → St
  | .p0 a0 => enter [.v cU0 a0] 0
  | .p34 y1 y2 y3 y4 y5 y6 y7 y8 y9 y10 y11 y12 y13 y14 y15 y16 y17 y18 => ⟨[(1, .po 0 0), (42, .im (.bs cU3) y1), (43, .im (.int .i64) y2), (44, .im (.int .i64) y3)], [(0, .obj [.im (.int .i64) y4, .im (.int .i64) y5, .im (.int .i64) y6, .im .str y7, .im (.int .i64) y8, .im (.bs cU3) y9, .im (.int .i64) y10, .im .bool y11, .im (.int .i64) y12, .im .bool y13, .im (.int .i64) y14, .im (.bs .str) y15, .im (.int .i64) y16, .im (.bs .str) y17, .im (.int .i64) y18])], 1⟩
  | .p78 y1 y2 y3 y4 y5 y6 y7 y8 y9 y10 y11 y12 y13 y14 y15 y16 => ⟨[(1, .po 0 0), (182, .im .bool y1)], [(0, .obj [.im (.int .i64) y2, .im (.int .i64) y3, .im (.int .i64) y4, .im .str y5, .im (.int .i64) y6, .im (.bs cU3) y7, .im (.int .i64) y8, .im .bool y9, .im (.int .i64) y10, .im .bool y11, .im (.int .i64) y12, .im (.bs .str) y13, .im (.int .i64) y14, .im (.bs .str) y15, .im (.int .i64) y16])], 1⟩
  | .p93 y1 y2 y3 y4 y5 y6 y7 y8 y9 y10 y11 y12 y13 y14 y15 y16 => ⟨[(1, .po 0 0), (5, .im (.int .i64) y1)], [(0, .obj [.im (.int .i64) y2, .im (.int .i64) y3, .im (.int .i64) y4, .im .str y5, .im (.int .i64) y6, .im (.bs cU3) y7, .im (.int .i64) y8, .im .bool y9, .im (.int .i64) y10, .im .bool y11, .im (.int .i64) y12, .im (.bs .str) y13, .im (.int .i64) y14, .im (.bs .str) y15, .im (.int .i64) y16])], 1⟩
def spec_l15Node.step (n : Nat) (K : spec_l15Node.Pt → Option (Tup [.bool])) : spec_l15Node.Pt → Option (Tup [.bool])
  | .p0 a0 => (spec_l15Zero n a0).bind fun r4 => (spec_l15SameNode n a0 r4).bind fun r5 => cond (!r5) (some false) (cond (decide (a0.1 = (1 : Int))) (cond (decide ((0 : Int) ≤ a0.2.1)) (some (decide (a0.2.2.2.2.2.2.2.2.2.2.2.2.2.2.1 = (0 : Int)))) (some false)) (cond (decide (a0.1 = (2 : Int))) (cond (decide (((ByteArray.size a0.2.2.2.1) : Int) ≤ (100 : Int))) ((spec_l2Printed n a0.2.2.2.1).bind fun r6 => cond r6 (some (decide (a0.2.2.2.2.2.2.2.2.2.2.2.2.2.2.1 = (0 : Int)))) (some false)) (some false)) (cond (decide (a0.1 = (3 : Int))) (K (.p34 a0.2.2.2.2.2.1 ((List.length a0.2.2.2.2.2.1) : Int) (0 : Int) a0.1 a0.2.1 a0.2.2.1 a0.2.2.2.1 a0.2.2.2.2.1 a0.2.2.2.2.2.1 a0.2.2.2.2.2.2.1 a0.2.2.2.2.2.2.2.1 a0.2.2.2.2.2.2.2.2.1 a0.2.2.2.2.2.2.2.2.2.1 a0.2.2.2.2.2.2.2.2.2.2.1 a0.2.2.2.2.2.2.2.2.2.2.2.1 a0.2.2.2.2.2.2.2.2.2.2.2.2.1 a0.2.2.2.2.2.2.2.2.2.2.2.2.2.1 a0.2.2.2.2.2.2.2.2.2.2.2.2.2.2.1)) (cond (decide (a0.1 = (4 : Int))) (cond (decide (a0.2.2.2.2.2.2.2.2.2.2.2.2.2.2.1 = (1 : Int))) (cond (decide ((1 : Int) ≤ a0.2.1)) (some (decide (a0.2.1 ≤ (1000000000000 : Int)))) (some false)) (some false)) (cond (decide (a0.1 = (5 : Int))) (cond (decide (a0.2.2.2.2.2.2.2.2.2.2.2.2.2.2.1 = (1 : Int))) (cond (decide ((1 : Int) ≤ a0.2.1)) (cond (decide (a0.2.1 ≤ (1000000000000 : Int))) (cond (decide ((1 : Int) ≤ a0.2.2.1)) (cond (decide (a0.2.2.1 ≤ a0.2.1)) ((spec_l15Place n a0).bind fun r6 => some r6) (some false)) (some false)) (some false)) (some false)) (some false)) (cond (decide (a0.1 = (6 : Int))) (some (decide (a0.2.2.2.2.2.2.2.2.2.2.2.2.2.2.1 = (1 : Int)))) (cond (decide (a0.1 = (7 : Int))) (cond (!(decide (a0.2.2.2.2.2.2.2.2.2.2.2.2.2.2.1 = (2 : Int)))) (K (.p78 true a0.1 a0.2.1 a0.2.2.1 a0.2.2.2.1 a0.2.2.2.2.1 a0.2.2.2.2.2.1 a0.2.2.2.2.2.2.1 a0.2.2.2.2.2.2.2.1 a0.2.2.2.2.2.2.2.2.1 a0.2.2.2.2.2.2.2.2.2.1 a0.2.2.2.2.2.2.2.2.2.2.1 a0.2.2.2.2.2.2.2.2.2.2.2.1 a0.2.2.2.2.2.2.2.2.2.2.2.2.1 a0.2.2.2.2.2.2.2.2.2.2.2.2.2.1 a0.2.2.2.2.2.2.2.2.2.2.2.2.2.2.1)) (cond (decide (a0.2.2.2.2.1 < (1 : Int))) (K (.p78 true a0.1 a0.2.1 a0.2.2.1 a0.2.2.2.1 a0.2.2.2.2.1 a0.2.2.2.2.2.1 a0.2.2.2.2.2.2.1 a0.2.2.2.2.2.2.2.1 a0.2.2.2.2.2.2.2.2.1 a0.2.2.2.2.2.2.2.2.2.1 a0.2.2.2.2.2.2.2.2.2.2.1 a0.2.2.2.2.2.2.2.2.2.2.2.1 a0.2.2.2.2.2.2.2.2.2.2.2.2.1 a0.2.2.2.2.2.2.2.2.2.2.2.2.2.1 a0.2.2.2.2.2.2.2.2.2.2.2.2.2.2.1)) (cond (decide ((14 : Int) < a0.2.2.2.2.1)) (K (.p78 true a0.1 a0.2.1 a0.2.2.1 a0.2.2.2.1 a0.2.2.2.2.1 a0.2.2.2.2.2.1 a0.2.2.2.2.2.2.1 a0.2.2.2.2.2.2.2.1 a0.2.2.2.2.2.2.2.2.1 a0.2.2.2.2.2.2.2.2.2.1 a0.2.2.2.2.2.2.2.2.2.2.1 a0.2.2.2.2.2.2.2.2.2.2.2.1 a0.2.2.2.2.2.2.2.2.2.2.2.2.1 a0.2.2.2.2.2.2.2.2.2.2.2.2.2.1 a0.2.2.2.2.2.2.2.2.2.2.2.2.2.2.1)) (cond a0.2.2.2.2.2.2.2.2.2.1 ((spec_l15Compare n a0.2.2.2.2.1).bind fun r6 => cond (!r6) (K (.p78 true a0.1 a0.2.1 a0.2.2.1 a0.2.2.2.1 a0.2.2.2.2.1 a0.2.2.2.2.2.1 a0.2.2.2.2.2.2.1 a0.2.2.2.2.2.2.2.1 a0.2.2.2.2.2.2.2.2.1 a0.2.2.2.2.2.2.2.2.2.1 a0.2.2.2.2.2.2.2.2.2.2.1 a0.2.2.2.2.2.2.2.2.2.2.2.1 a0.2.2.2.2.2.2.2.2.2.2.2.2.1 a0.2.2.2.2.2.2.2.2.2.2.2.2.2.1 a0.2.2.2.2.2.2.2.2.2.2.2.2.2.2.1)) ((spec_l15By n a0).bind fun r7 => cond (!r7) (K (.p78 true a0.1 a0.2.1 a0.2.2.1 a0.2.2.2.1 a0.2.2.2.2.1 a0.2.2.2.2.2.1 a0.2.2.2.2.2.2.1 a0.2.2.2.2.2.2.2.1 a0.2.2.2.2.2.2.2.2.1 a0.2.2.2.2.2.2.2.2.2.1 a0.2.2.2.2.2.2.2.2.2.2.1 a0.2.2.2.2.2.2.2.2.2.2.2.1 a0.2.2.2.2.2.2.2.2.2.2.2.2.1 a0.2.2.2.2.2.2.2.2.2.2.2.2.2.1 a0.2.2.2.2.2.2.2.2.2.2.2.2.2.2.1)) (cond (decide (a0.2.2.2.2.2.2.2.2.2.2.2.2.1 < (0 : Int))) (K (.p78 true a0.1 a0.2.1 a0.2.2.1 a0.2.2.2.1 a0.2.2.2.2.1 a0.2.2.2.2.2.1 a0.2.2.2.2.2.2.1 a0.2.2.2.2.2.2.2.1 a0.2.2.2.2.2.2.2.2.1 a0.2.2.2.2.2.2.2.2.2.1 a0.2.2.2.2.2.2.2.2.2.2.1 a0.2.2.2.2.2.2.2.2.2.2.2.1 a0.2.2.2.2.2.2.2.2.2.2.2.2.1 a0.2.2.2.2.2.2.2.2.2.2.2.2.2.1 a0.2.2.2.2.2.2.2.2.2.2.2.2.2.2.1)) (K (.p78 (decide ((2 : Int) < a0.2.2.2.2.2.2.2.2.2.2.2.2.1)) a0.1 a0.2.1 a0.2.2.1 a0.2.2.2.1 a0.2.2.2.2.1 a0.2.2.2.2.2.1 a0.2.2.2.2.2.2.1 a0.2.2.2.2.2.2.2.1 a0.2.2.2.2.2.2.2.2.1 a0.2.2.2.2.2.2.2.2.2.1 a0.2.2.2.2.2.2.2.2.2.2.1 a0.2.2.2.2.2.2.2.2.2.2.2.1 a0.2.2.2.2.2.2.2.2.2.2.2.2.1 a0.2.2.2.2.2.2.2.2.2.2.2.2.2.1 a0.2.2.2.2.2.2.2.2.2.2.2.2.2.2.1))))) ((spec_l15By n a0).bind fun r6 => cond (!r6) (K (.p78 true a0.1 a0.2.1 a0.2.2.1 a0.2.2.2.1 a0.2.2.2.2.1 a0.2.2.2.2.2.1 a0.2.2.2.2.2.2.1 a0.2.2.2.2.2.2.2.1 a0.2.2.2.2.2.2.2.2.1 a0.2.2.2.2.2.2.2.2.2.1 a0.2.2.2.2.2.2.2.2.2.2.1 a0.2.2.2.2.2.2.2.2.2.2.2.1 a0.2.2.2.2.2.2.2.2.2.2.2.2.1 a0.2.2.2.2.2.2.2.2.2.2.2.2.2.1 a0.2.2.2.2.2.2.2.2.2.2.2.2.2.2.1)) (cond (decide (a0.2.2.2.2.2.2.2.2.2.2.2.2.1 < (0 : Int))) (K (.p78 true a0.1 a0.2.1 a0.2.2.1 a0.2.2.2.1 a0.2.2.2.2.1 a0.2.2.2.2.2.1 a0.2.2.2.2.2.2.1 a0.2.2.2.2.2.2.2.1 a0.2.2.2.2.2.2.2.2.1 a0.2.2.2.2.2.2.2.2.2.1 a0.2.2.2.2.2.2.2.2.2.2.1 a0.2.2.2.2.2.2.2.2.2.2.2.1 a0.2.2.2.2.2.2.2.2.2.2.2.2.1 a0.2.2.2.2.2.2.2.2.2.2.2.2.2.1 a0.2.2.2.2.2.2.2.2.2.2.2.2.2.2.1)) (K (.p78 (decide ((2 : Int) < a0.2.2.2.2.2.2.2.2.2.2.2.2.1)) a0.1 a0.2.1 a0.2.2.1 a0.2.2.2.1 a0.2.2.2.2.1 a0.2.2.2.2.2.1 a0.2.2.2.2.2.2.1 a0.2.2.2.2.2.2.2.1 a0.2.2.2.2.2.2.2.2.1 a0.2.2.2.2.2.2.2.2.2.1 a0.2.2.2.2.2.2.2.2.2.2.1 a0.2.2.2.2.2.2.2.2.2.2.2.1 a0.2.2.2.2.2.2.2.2.2.2.2.2.1 a0.2.2.2.2.2.2.2.2.2.2.2.2.2.1 a0.2.2.2.2.2.2.2.2.2.2.2.2.2.2.1)))))))) (cond (decide (a0.1 = (8 : Int))) (cond (decide ((6 : Int) ≤ a0.2.2.2.2.1)) (K (.p93 (2 : Int) a0.1 a0.2.1 a0.2.2.1 a0.2.2.2.1 a0.2.2.2.2.1 a0.2.2.2.2.2.1 a0.2.2.2.2.2.2.1 a0.2.2.2.2.2.2.2.1 a0.2.2.2.2.2.2.2.2.1 a0.2.2.2.2.2.2.2.2.2.1 a0.2.2.2.2.2.2.2.2.2.2.1 a0.2.2.2.2.2.2.2.2.2.2.2.1 a0.2.2.2.2.2.2.2.2.2.2.2.2.1 a0.2.2.2.2.2.2.2.2.2.2.2.2.2.1 a0.2.2.2.2.2.2.2.2.2.2.2.2.2.2.1)) (K (.p93 (1 : Int) a0.1 a0.2.1 a0.2.2.1 a0.2.2.2.1 a0.2.2.2.2.1 a0.2.2.2.2.2.1 a0.2.2.2.2.2.2.1 a0.2.2.2.2.2.2.2.1 a0.2.2.2.2.2.2.2.2.1 a0.2.2.2.2.2.2.2.2.2.1 a0.2.2.2.2.2.2.2.2.2.2.1 a0.2.2.2.2.2.2.2.2.2.2.2.1 a0.2.2.2.2.2.2.2.2.2.2.2.2.1 a0.2.2.2.2.2.2.2.2.2.2.2.2.2.1 a0.2.2.2.2.2.2.2.2.2.2.2.2.2.2.1))) (cond (decide (a0.1 = (9 : Int))) ((spec_l15Functions n).bind fun r6 => (spec_l2Has n r6 a0.2.2.2.1).bind fun r7 => cond r7 (cond (decide ((0 : Int) ≤ a0.2.2.2.2.2.2.2.2.2.2.2.2.2.2.1)) (some (decide (a0.2.2.2.2.2.2.2.2.2.2.2.2.2.2.1 ≤ (10 : Int)))) (some false)) (some false)) (some false))))))))))
  | .p34 y1 y2 y3 y4 y5 y6 y7 y8 y9 y10 y11 y12 y13 y14 y15 y16 y17 y18 => cond (decide (y3 < y2)) (cond (inB y3 (List.length y1)) (cond (seq (List.getD y1 (Int.toNat y3) default).1 (⟨#[95, 110, 97, 109, 101]⟩ : ByteArray)) (some false) (K (.p34 y1 y2 (IntKind.wrap .i64 (y3 + (1 : Int))) y4 y5 y6 y7 y8 y9 y10 y11 y12 y13 y14 y15 y16 y17 y18))) (none)) (cond (decide (y18 = (0 : Int))) (cond (seq y7 (⟨#[]⟩ : ByteArray)) (cond (decide ((0 : Int) < ((List.length y9) : Int))) ((spec_GoodMatchers n y9).bind fun r21 => cond r21 (cond (decide (((List.length y9) : Int) < (10 : Int))) ((spec_l15Place n (y4, (y5, (y6, (y7, (y8, (y9, (y10, (y11, (y12, (y13, (y14, (y15, (y16, (y17, (y18, ())))))))))))))))).bind fun r22 => some r22) (some false)) (some false)) ((spec_l2Name n y7).bind fun r21 => cond r21 ((spec_l15Word n y7).bind fun r22 => cond (!r22) ((spec_GoodMatchers n y9).bind fun r23 => cond r23 (cond (decide (((List.length y9) : Int) < (10 : Int))) ((spec_l15Place n (y4, (y5, (y6, (y7, (y8, (y9, (y10, (y11, (y12, (y13, (y14, (y15, (y16, (y17, (y18, ())))))))))))))))).bind fun r24 => some r24) (some false)) (some false)) (some false)) (some false))) ((spec_l2Name n y7).bind fun r21 => cond r21 ((spec_l15Word n y7).bind fun r22 => cond (!r22) ((spec_GoodMatchers n y9).bind fun r23 => cond r23 (cond (decide (((List.length y9) : Int) < (10 : Int))) ((spec_l15Place n (y4, (y5, (y6, (y7, (y8, (y9, (y10, (y11, (y12, (y13, (y14, (y15, (y16, (y17, (y18, ())))))))))))))))).bind fun r24 => some r24) (some false)) (some false)) (some false)) (some false))) (some false))
  | .p78 y1 y2 y3 y4 y5 y6 y7 y8 y9 y10 y11 y12 y13 y14 y15 y16 => cond y1 (some false) ((spec_l15Names n y15).bind fun r19 => cond r19 (cond (!(decide (y14 = (0 : Int)))) (cond (decide (y14 = (0 : Int))) (some true) (cond (!(decide (y12 = (0 : Int)))) (some (decide (y6 ≤ (11 : Int)))) (some false))) (cond (decide (((List.length y15) : Int) = (0 : Int))) (cond (decide (y14 = (0 : Int))) (some true) (cond (!(decide (y12 = (0 : Int)))) (some (decide (y6 ≤ (11 : Int)))) (some false))) (some false))) (some false))
  | .p93 y1 y2 y3 y4 y5 y6 y7 y8 y9 y10 y11 y12 y13 y14 y15 y16 => cond (decide ((1 : Int) ≤ y6)) (cond (decide (y6 ≤ (8 : Int))) (cond (decide (y16 = y1)) ((spec_l15By n (y2, (y3, (y4, (y5, (y6, (y7, (y8, (y9, (y10, (y11, (y12, (y13, (y14, (y15, (y16, ())))))))))))))))).bind fun r19 => some r19) (some false)) (some false)) (some false)
def spec_l15Node (n : Nat) (a0 : tU1) : Option (Tup [.bool]) := goRec spec_l15Node.step n (.p0 a0)
def spec_l15Node.spec : Ctr := ⟨80, [.v cU0], [.bool], [], none, fun n x => spec_l15Node n x.1⟩
theorem spec_l15Node.seg_eq : SegEq tyN gl spec_l15Node.F spec_l15Node.md spec_l15Node.T spec_l15Node.spec spec_l15Node.lb spec_l15Node.st spec_l15Node.step := by
  intro n goto y; cases y <;> kernel_rfl
theorem spec_l15Node.text : Text Go.Proofs.Tryz.prog spec_l15Node.F spec_l15Node.spec := textOf Go.Proofs.Tryz.f80
theorem spec_l15Node.ok : CtrOK Go.Proofs.Tryz.prog gl spec_l15Node.spec :=
  ctr_okS tabsN spec_l15Node.text spec_l15Node.seg_eq (fun n x => ⟨.p0 x.1, rfl, rfl, rfl⟩) (consC spec_l15Zero.ok (consC spec_l15SameNode.ok (consC spec_l2Printed.ok (consC spec_l2Name.ok (consC spec_l15Functions.ok (consC spec_l2Has.ok (consC spec_l15Word.ok (consC spec_GoodMatchers.ok (consC spec_l15Place.ok (consC spec_l15Compare.ok (consC spec_l15Names.ok (consC spec_l15By.ok (nilC)))))))))))))

/-! loop.example/g00039/spec.l15Take -/
def spec_l15Take.T : List Ctr := [spec_l15Node.spec]
def spec_l15Take.md : List (Nat × List Md) := []
noncomputable def spec_l15Take.F : Fun := ⟨(Go.Proofs.Tryz.f45.body).getD .skip, [.v (.sl false cU0), .v (.int .i64), .v (.int .i64)], [(.cell 6 52, (.tr cU0)), (.tmp 7, (.int .i64))], [], 0, [(4, ⟨[0, 1, 2, 6, 27], [], [(6, 15, (.tr cU0))], false⟩), (19, ⟨[0, 1, 2, 6, 8, 9], [], [(6, 15, (.tr cU0)), (8, 15, (.tr cU0))], false⟩), (31, ⟨[0, 2, 6, 8, 9, 10, 11, 64], [], [(6, 15, (.tr cU0)), (8, 15, (.tr cU0)), (10, 15, (.tr cU0))], false⟩)]⟩
inductive spec_l15Take.Pt where
  | p0 (a0 : List (tU1)) (a1 : Int) (a2 : Int)
  | p4 (y1 : List (tU1)) (y2 : Int) (y3 : Int) (y4 : Bool) (y5 : Int) (y6 : Int) (y7 : Int) (y8 : ByteArray) (y9 : Int) (y10 : List (tU4)) (y11 : Int) (y12 : Bool) (y13 : Int) (y14 : Bool) (y15 : Int) (y16 : List (ByteArray)) (y17 : Int) (y18 : List (ByteArray)) (y19 : Int) (y20 : List (Tr (tU1)))
  | p19 (y1 : List (tU1)) (y2 : Int) (y3 : Int) (y4 : Int) (y5 : Int) (y6 : Int) (y7 : Int) (y8 : ByteArray) (y9 : Int) (y10 : List (tU4)) (y11 : Int) (y12 : Bool) (y13 : Int) (y14 : Bool) (y15 : Int) (y16 : List (ByteArray)) (y17 : Int) (y18 : List (ByteArray)) (y19 : Int) (y20 : Int) (y21 : Int) (y22 : Int) (y23 : ByteArray) (y24 : Int) (y25 : List (tU4)) (y26 : Int) (y27 : Bool) (y28 : Int) (y29 : Bool) (y30 : Int) (y31 : List (ByteArray)) (y32 : Int) (y33 : List (ByteArray)) (y34 : Int) (y35 : List (Tr (tU1))) (y36 : List (Tr (tU1)))
  | p31 (y1 : List (tU1)) (y2 : Int) (y3 : Int) (y4 : Int) (y5 : Bool) (y6 : Int) (y7 : Int) (y8 : Int) (y9 : ByteArray) (y10 : Int) (y11 : List (tU4)) (y12 : Int) (y13 : Bool) (y14 : Int) (y15 : Bool) (y16 : Int) (y17 : List (ByteArray)) (y18 : Int) (y19 : List (ByteArray)) (y20 : Int) (y21 : Int) (y22 : Int) (y23 : Int) (y24 : ByteArray) (y25 : Int) (y26 : List (tU4)) (y27 : Int) (y28 : Bool) (y29 : Int) (y30 : Bool) (y31 : Int) (y32 : List (ByteArray)) (y33 : Int) (y34 : List (ByteArray)) (y35 : Int) (y36 : Int) (y37 : Int) (y38 : Int) (y39 : ByteArray) (y40 : Int) (y41 : List (tU4)) (y42 : Int) (y43 : Bool) (y44 : Int) (y45 : Bool) (y46 : Int) (y47 : List (ByteArray)) (y48 : Int) (y49 : List (ByteArray)) (y50 : Int) (y51 : List (Tr (tU1))) (y52 : List (Tr (tU1))) (y53 : List (Tr (tU1)))
def spec_l15Take.lb : spec_l15Take.Pt → Nat
  | .p0 _ _ _ => 0
  | .p4 _ _ _ _ _ _ _ _ _ _ _ _ _ _ _ _ _ _ _ _ => 4
  | .p19 _ _ _ _ _ _ _ _ _ _ _ _ _ _ _ _ _ _ _ _ _ _ _ _ _ _ _ _ _ _ _ _ _ _ _ _ => 19
  | .p31 _ _ _ _ _ _ _ _ _ _ _ _ _ _ _ _ _ _ _ _ _ _ _ _ _ _ _ _ _ _ _ _ _ _ _ _ _ _ _ _ _ _ _ _ _ _ _ _ _ _ _ _ _ => 31
def spec_l15Take.st : spec_l15Take.Pt → St
  | .p0 a0 a1 a2 => enter [.v (.sl false cU0) a0, .v (.int .i64) a1, .v (.int .i64) a2] 0
  | .p4 y1 y2 y3 y4 y5 y6 y7 y8 y9 y10 y11 y12 y13 y14 y15 y16 y17 y18 y19 y20 => ⟨[(0, .im (.sl false cU0) y1), (1, .im (.int .i64) y2), (2, .im (.int .i64) y3), (6, .po 0 0), (27, .im .bool y4)], [(0, .obj [.im (.int .i64) y5, .im (.int .i64) y6, .im (.int .i64) y7, .im .str y8, .im (.int .i64) y9, .im (.bs cU3) y10, .im (.int .i64) y11, .im .bool y12, .im (.int .i64) y13, .im .bool y14, .im (.int .i64) y15, .im (.bs .str) y16, .im (.int .i64) y17, .im (.bs .str) y18, .im (.int .i64) y19, .hs 1 [] none 0]), (1, .arr true (.tr cU0) y20 0)], 2⟩
  | .p19 y1 y2 y3 y4 y5 y6 y7 y8 y9 y10 y11 y12 y13 y14 y15 y16 y17 y18 y19 y20 y21 y22 y23 y24 y25 y26 y27 y28 y29 y30 y31 y32 y33 y34 y35 y36 => ⟨[(0, .im (.sl false cU0) y1), (1, .im (.int .i64) y2), (2, .im (.int .i64) y3), (6, .po 0 0), (8, .po 1 0), (9, .im (.int .i64) y4)], [(0, .obj [.im (.int .i64) y5, .im (.int .i64) y6, .im (.int .i64) y7, .im .str y8, .im (.int .i64) y9, .im (.bs cU3) y10, .im (.int .i64) y11, .im .bool y12, .im (.int .i64) y13, .im .bool y14, .im (.int .i64) y15, .im (.bs .str) y16, .im (.int .i64) y17, .im (.bs .str) y18, .im (.int .i64) y19, .hs 2 [] none 0]), (1, .obj [.im (.int .i64) y20, .im (.int .i64) y21, .im (.int .i64) y22, .im .str y23, .im (.int .i64) y24, .im (.bs cU3) y25, .im (.int .i64) y26, .im .bool y27, .im (.int .i64) y28, .im .bool y29, .im (.int .i64) y30, .im (.bs .str) y31, .im (.int .i64) y32, .im (.bs .str) y33, .im (.int .i64) y34, .hs 3 [] none 0]), (2, .arr true (.tr cU0) y35 0), (3, .arr true (.tr cU0) y36 0)], 4⟩
  | .p31 y1 y2 y3 y4 y5 y6 y7 y8 y9 y10 y11 y12 y13 y14 y15 y16 y17 y18 y19 y20 y21 y22 y23 y24 y25 y26 y27 y28 y29 y30 y31 y32 y33 y34 y35 y36 y37 y38 y39 y40 y41 y42 y43 y44 y45 y46 y47 y48 y49 y50 y51 y52 y53 => ⟨[(0, .im (.sl false cU0) y1), (2, .im (.int .i64) y2), (6, .po 0 0), (8, .po 1 0), (9, .im (.int .i64) y3), (10, .po 2 0), (11, .im (.int .i64) y4), (64, .im .bool y5)], [(0, .obj [.im (.int .i64) y6, .im (.int .i64) y7, .im (.int .i64) y8, .im .str y9, .im (.int .i64) y10, .im (.bs cU3) y11, .im (.int .i64) y12, .im .bool y13, .im (.int .i64) y14, .im .bool y15, .im (.int .i64) y16, .im (.bs .str) y17, .im (.int .i64) y18, .im (.bs .str) y19, .im (.int .i64) y20, .hs 3 [] none 0]), (1, .obj [.im (.int .i64) y21, .im (.int .i64) y22, .im (.int .i64) y23, .im .str y24, .im (.int .i64) y25, .im (.bs cU3) y26, .im (.int .i64) y27, .im .bool y28, .im (.int .i64) y29, .im .bool y30, .im (.int .i64) y31, .im (.bs .str) y32, .im (.int .i64) y33, .im (.bs .str) y34, .im (.int .i64) y35, .hs 4 [] none 0]), (2, .obj [.im (.int .i64) y36, .im (.int .i64) y37, .im (.int .i64) y38, .im .str y39, .im (.int .i64) y40, .im (.bs cU3) y41, .im (.int .i64) y42, .im .bool y43, .im (.int .i64) y44, .im .bool y45, .im (.int .i64) y46, .im (.bs .str) y47, .im (.int .i64) y48, .im (.bs .str) y49, .im (.int .i64) y50, .hs 5 [] none 0]), (3, .arr true (.tr cU0) y51 0), (4, .arr true (.tr cU0) y52 0), (5, .arr false (.tr cU0) y53 0)], 6⟩
def spec_l15Take.step (n : Nat) (self : Ty.Els [.v (.sl false cU0), .v (.int .i64), .v (.int .i64)] → Option (Tup [(.tr cU0), (.int .i64)])) (K : spec_l15Take.Pt → Option (Tup [(.tr cU0), (.int .i64)])) : spec_l15Take.Pt → Option (Tup [(.tr cU0), (.int .i64)])
  | .p0 a0 a1 a2 => cond (decide (((List.length a0) : Int) ≤ a1)) (K (.p4 a0 a1 a2 true (default : Int) (default : Int) (default : Int) (default : ByteArray) (default : Int) (default : List (tU4)) (default : Int) (default : Bool) (default : Int) (default : Bool) (default : Int) (default : List (ByteArray)) (default : Int) (default : List (ByteArray)) (default : Int) ([] : List (Tr (tU1))))) (cond (decide ((12 : Int) < a2)) (K (.p4 a0 a1 a2 true (default : Int) (default : Int) (default : Int) (default : ByteArray) (default : Int) (default : List (tU4)) (default : Int) (default : Bool) (default : Int) (default : Bool) (default : Int) (default : List (ByteArray)) (default : Int) (default : List (ByteArray)) (default : Int) ([] : List (Tr (tU1))))) (cond (inB a1 (List.length a0)) ((spec_l15Node n (List.getD a0 (Int.toNat a1) default)).bind fun r6 => K (.p4 a0 a1 a2 (!r6) (default : Int) (default : Int) (default : Int) (default : ByteArray) (default : Int) (default : List (tU4)) (default : Int) (default : Bool) (default : Int) (default : Bool) (default : Int) (default : List (ByteArray)) (default : Int) (default : List (ByteArray)) (default : Int) ([] : List (Tr (tU1))))) (none)))
  | .p4 y1 y2 y3 y4 y5 y6 y7 y8 y9 y10 y11 y12 y13 y14 y15 y16 y17 y18 y19 y20 => cond y4 (some ((Tr.node ((default : Int), ((default : Int), ((default : Int), ((default : ByteArray), ((default : Int), ((default : List (tU4)), ((default : Int), ((default : Bool), ((default : Int), ((default : Bool), ((default : Int), ((default : List (ByteArray)), ((default : Int), ((default : List (ByteArray)), (default : (Int) × (Unit)))))))))))))))) ([] : List (Tr (tU1)))), (-(1 : Int)))) (cond (inB y2 (List.length y1)) (K (.p19 y1 (IntKind.wrap .i64 (y2 + (1 : Int))) y3 (0 : Int) y5 y6 y7 y8 y9 y10 y11 y12 y13 y14 y15 y16 y17 y18 y19 (List.getD y1 (Int.toNat y2) default).1 (List.getD y1 (Int.toNat y2) default).2.1 (List.getD y1 (Int.toNat y2) default).2.2.1 (List.getD y1 (Int.toNat y2) default).2.2.2.1 (List.getD y1 (Int.toNat y2) default).2.2.2.2.1 (List.getD y1 (Int.toNat y2) default).2.2.2.2.2.1 (List.getD y1 (Int.toNat y2) default).2.2.2.2.2.2.1 (List.getD y1 (Int.toNat y2) default).2.2.2.2.2.2.2.1 (List.getD y1 (Int.toNat y2) default).2.2.2.2.2.2.2.2.1 (List.getD y1 (Int.toNat y2) default).2.2.2.2.2.2.2.2.2.1 (List.getD y1 (Int.toNat y2) default).2.2.2.2.2.2.2.2.2.2.1 (List.getD y1 (Int.toNat y2) default).2.2.2.2.2.2.2.2.2.2.2.1 (List.getD y1 (Int.toNat y2) default).2.2.2.2.2.2.2.2.2.2.2.2.1 (List.getD y1 (Int.toNat y2) default).2.2.2.2.2.2.2.2.2.2.2.2.2.1 (List.getD y1 (Int.toNat y2) default).2.2.2.2.2.2.2.2.2.2.2.2.2.2.1 y20 ([] : List (Tr (tU1))))) (none))
  | .p19 y1 y2 y3 y4 y5 y6 y7 y8 y9 y10 y11 y12 y13 y14 y15 y16 y17 y18 y19 y20 y21 y22 y23 y24 y25 y26 y27 y28 y29 y30 y31 y32 y33 y34 y35 y36 => cond (decide (y4 < y34)) ((self (y1, y2, (IntKind.wrap .i64 (y3 + (1 : Int))), ())).bind fun r39 => cond (decide (r39.2 < (0 : Int))) (K (.p31 y1 y3 y4 r39.2 true y5 y6 y7 y8 y9 y10 y11 y12 y13 y14 y15 y16 y17 y18 y19 y20 y21 y22 y23 y24 y25 y26 y27 y28 y29 y30 y31 y32 y33 y34 (Tr.val default r39.1).1 (Tr.val default r39.1).2.1 (Tr.val default r39.1).2.2.1 (Tr.val default r39.1).2.2.2.1 (Tr.val default r39.1).2.2.2.2.1 (Tr.val default r39.1).2.2.2.2.2.1 (Tr.val default r39.1).2.2.2.2.2.2.1 (Tr.val default r39.1).2.2.2.2.2.2.2.1 (Tr.val default r39.1).2.2.2.2.2.2.2.2.1 (Tr.val default r39.1).2.2.2.2.2.2.2.2.2.1 (Tr.val default r39.1).2.2.2.2.2.2.2.2.2.2.1 (Tr.val default r39.1).2.2.2.2.2.2.2.2.2.2.2.1 (Tr.val default r39.1).2.2.2.2.2.2.2.2.2.2.2.2.1 (Tr.val default r39.1).2.2.2.2.2.2.2.2.2.2.2.2.2.1 (Tr.val default r39.1).2.2.2.2.2.2.2.2.2.2.2.2.2.2.1 y35 y36 (Tr.kids r39.1))) (cond (decide (y20 = (4 : Int))) (K (.p31 y1 y3 y4 r39.2 (!(decide ((Tr.val default r39.1).1 = (3 : Int)))) y5 y6 y7 y8 y9 y10 y11 y12 y13 y14 y15 y16 y17 y18 y19 y20 y21 y22 y23 y24 y25 y26 y27 y28 y29 y30 y31 y32 y33 y34 (Tr.val default r39.1).1 (Tr.val default r39.1).2.1 (Tr.val default r39.1).2.2.1 (Tr.val default r39.1).2.2.2.1 (Tr.val default r39.1).2.2.2.2.1 (Tr.val default r39.1).2.2.2.2.2.1 (Tr.val default r39.1).2.2.2.2.2.2.1 (Tr.val default r39.1).2.2.2.2.2.2.2.1 (Tr.val default r39.1).2.2.2.2.2.2.2.2.1 (Tr.val default r39.1).2.2.2.2.2.2.2.2.2.1 (Tr.val default r39.1).2.2.2.2.2.2.2.2.2.2.1 (Tr.val default r39.1).2.2.2.2.2.2.2.2.2.2.2.1 (Tr.val default r39.1).2.2.2.2.2.2.2.2.2.2.2.2.1 (Tr.val default r39.1).2.2.2.2.2.2.2.2.2.2.2.2.2.1 (Tr.val default r39.1).2.2.2.2.2.2.2.2.2.2.2.2.2.2.1 y35 y36 (Tr.kids r39.1))) (K (.p31 y1 y3 y4 r39.2 false y5 y6 y7 y8 y9 y10 y11 y12 y13 y14 y15 y16 y17 y18 y19 y20 y21 y22 y23 y24 y25 y26 y27 y28 y29 y30 y31 y32 y33 y34 (Tr.val default r39.1).1 (Tr.val default r39.1).2.1 (Tr.val default r39.1).2.2.1 (Tr.val default r39.1).2.2.2.1 (Tr.val default r39.1).2.2.2.2.1 (Tr.val default r39.1).2.2.2.2.2.1 (Tr.val default r39.1).2.2.2.2.2.2.1 (Tr.val default r39.1).2.2.2.2.2.2.2.1 (Tr.val default r39.1).2.2.2.2.2.2.2.2.1 (Tr.val default r39.1).2.2.2.2.2.2.2.2.2.1 (Tr.val default r39.1).2.2.2.2.2.2.2.2.2.2.1 (Tr.val default r39.1).2.2.2.2.2.2.2.2.2.2.2.1 (Tr.val default r39.1).2.2.2.2.2.2.2.2.2.2.2.2.1 (Tr.val default r39.1).2.2.2.2.2.2.2.2.2.2.2.2.2.1 (Tr.val default r39.1).2.2.2.2.2.2.2.2.2.2.2.2.2.2.1 y35 y36 (Tr.kids r39.1))))) (some ((Tr.node (y20, (y21, (y22, (y23, (y24, (y25, (y26, (y27, (y28, (y29, (y30, (y31, (y32, (y33, (y34, ()))))))))))))))) y36), y2))
  | .p31 y1 y2 y3 y4 y5 y6 y7 y8 y9 y10 y11 y12 y13 y14 y15 y16 y17 y18 y19 y20 y21 y22 y23 y24 y25 y26 y27 y28 y29 y30 y31 y32 y33 y34 y35 y36 y37 y38 y39 y40 y41 y42 y43 y44 y45 y46 y47 y48 y49 y50 y51 y52 y53 => cond y5 (some ((Tr.node ((default : Int), ((default : Int), ((default : Int), ((default : ByteArray), ((default : Int), ((default : List (tU4)), ((default : Int), ((default : Bool), ((default : Int), ((default : Bool), ((default : Int), ((default : List (ByteArray)), ((default : Int), ((default : List (ByteArray)), (default : (Int) × (Unit)))))))))))))))) ([] : List (Tr (tU1)))), (-(1 : Int)))) (cond (room ((List.length y52) + (List.length [(Tr.node (y36, (y37, (y38, (y39, (y40, (y41, (y42, (y43, (y44, (y45, (y46, (y47, (y48, (y49, (y50, ()))))))))))))))) y53)]))) (K (.p19 y1 y4 y2 (IntKind.wrap .i64 (y3 + (1 : Int))) y6 y7 y8 y9 y10 y11 y12 y13 y14 y15 y16 y17 y18 y19 y20 y21 y22 y23 y24 y25 y26 y27 y28 y29 y30 y31 y32 y33 y34 y35 y51 (y52 ++ [(Tr.node (y36, (y37, (y38, (y39, (y40, (y41, (y42, (y43, (y44, (y45, (y46, (y47, (y48, (y49, (y50, ()))))))))))))))) y53)]))) (none))
def spec_l15Take (n : Nat) (a0 : List (tU1)) (a1 : Int) (a2 : Int) : Option (Tup [(.tr cU0), (.int .i64)]) := goRec (fun n K => spec_l15Take.step n (fun x => K (.p0 x.1 x.2.1 x.2.2.1)) K) n (.p0 a0 a1 a2)
def spec_l15Take.spec : Ctr := ⟨45, [.v (.sl false cU0), .v (.int .i64), .v (.int .i64)], [(.tr cU0), (.int .i64)], [], none, fun n x => spec_l15Take n x.1 x.2.1 x.2.2.1⟩
theorem spec_l15Take.seg_eq (n : Nat) (φ : Ty.Els [.v (.sl false cU0), .v (.int .i64), .v (.int .i64)] → Option (Tup [(.tr cU0), (.int .i64)])) (goto : Nat → St → Option (Tup [(.tr cU0), (.int .i64)])) (y : spec_l15Take.Pt) : seg ⟨tyN, gl, spec_l15Take.md, calOf (spec_l15Take.spec.at φ :: spec_l15Take.T) n⟩ spec_l15Take.F.np spec_l15Take.F.ks goto (spec_l15Take.F.fin ⟨tyN, gl, spec_l15Take.md, calOf spec_l15Take.T 0⟩ [(.tr cU0), (.int .i64)] none) spec_l15Take.F.c (spec_l15Take.lb y) (spec_l15Take.st y) = spec_l15Take.step n φ (fun z => goto (spec_l15Take.lb z) (spec_l15Take.st z)) y := by
  cases y <;> kernel_rfl
theorem spec_l15Take.text : Text Go.Proofs.Tryz.prog spec_l15Take.F spec_l15Take.spec := textOf Go.Proofs.Tryz.f45
theorem spec_l15Take.ok : CtrOK Go.Proofs.Tryz.prog gl spec_l15Take.spec :=
  ctr_rec (T := spec_l15Take.T) (F := spec_l15Take.F) (lb := spec_l15Take.lb) (st := spec_l15Take.st) (ent := fun x => .p0 x.1 x.2.1 x.2.2.1) (stp := spec_l15Take.step) (md := spec_l15Take.md) tabsN spec_l15Take.text spec_l15Take.seg_eq (fun _ => ⟨rfl, rfl⟩) (fun _ _ => rfl) (consC spec_l15Node.ok (nilC))

/-! loop.example/g00039/spec.l15Tree -/
def spec_l15Tree.T : List Ctr := [spec_l15Take.spec]
def spec_l15Tree.md : List (Nat × List Md) := []
noncomputable def spec_l15Tree.F : Fun := ⟨(Go.Proofs.Tryz.f21.body).getD .skip, [.v (.sl false cU0)], [(.cell 2 52, (.tr cU0)), (.tmp 3, .bool)], [], 0, []⟩
inductive spec_l15Tree.Pt where
  | p0 (a0 : List (tU1))
def spec_l15Tree.lb : spec_l15Tree.Pt → Nat
  | .p0 _ => 0
def spec_l15Tree.st : spec_l15Tree.Pt → St
  | .p0 a0 => enter [.v (.sl false cU0) a0] 0
def spec_l15Tree.step (n : Nat) (K : spec_l15Tree.Pt → Option (Tup [(.tr cU0), .bool])) : spec_l15Tree.Pt → Option (Tup [(.tr cU0), .bool])
  | .p0 a0 => cond (decide ((60 : Int) < ((List.length a0) : Int))) (some ((Tr.node ((default : Int), ((default : Int), ((default : Int), ((default : ByteArray), ((default : Int), ((default : List (tU4)), ((default : Int), ((default : Bool), ((default : Int), ((default : Bool), ((default : Int), ((default : List (ByteArray)), ((default : Int), ((default : List (ByteArray)), (default : (Int) × (Unit)))))))))))))))) ([] : List (Tr (tU1)))), false)) ((spec_l15Take n a0 (0 : Int) (1 : Int)).bind fun r4 => some ((Tr.node (Tr.val default r4.1) (Tr.kids r4.1)), (decide (r4.2 = ((List.length a0) : Int)))))
def spec_l15Tree (n : Nat) (a0 : List (tU1)) : Option (Tup [(.tr cU0), .bool]) := goRec spec_l15Tree.step n (.p0 a0)
def spec_l15Tree.spec : Ctr := ⟨21, [.v (.sl false cU0)], [(.tr cU0), .bool], [], none, fun n x => spec_l15Tree n x.1⟩
theorem spec_l15Tree.seg_eq : SegEq tyN gl spec_l15Tree.F spec_l15Tree.md spec_l15Tree.T spec_l15Tree.spec spec_l15Tree.lb spec_l15Tree.st spec_l15Tree.step := by
  intro n goto y; cases y <;> kernel_rfl
theorem spec_l15Tree.text : Text Go.Proofs.Tryz.prog spec_l15Tree.F spec_l15Tree.spec := textOf Go.Proofs.Tryz.f21
theorem spec_l15Tree.ok : CtrOK Go.Proofs.Tryz.prog gl spec_l15Tree.spec :=
  ctr_okS tabsN spec_l15Tree.text spec_l15Tree.seg_eq (fun n x => ⟨.p0 x.1, rfl, rfl, rfl⟩) (consC spec_l15Take.ok (nilC))

/-! loop.example/g00039/spec.l17Named -/
def spec_l17Named.T : List Ctr := []
def spec_l17Named.md : List (Nat × List Md) := []
noncomputable def spec_l17Named.F : Fun := ⟨(Go.Proofs.Tryz.f81.body).getD .skip, [.v (.tr cU0)], [(.tmp 2, .bool)], [], 0, []⟩
inductive spec_l17Named.Pt where
  | p0 (a0 : Tr (tU1))
def spec_l17Named.lb : spec_l17Named.Pt → Nat
  | .p0 _ => 0
def spec_l17Named.st : spec_l17Named.Pt → St
  | .p0 a0 => enter [.v (.tr cU0) a0] 0
def spec_l17Named.step (n : Nat) (K : spec_l17Named.Pt → Option (Tup [.bool])) : spec_l17Named.Pt → Option (Tup [.bool])
  | .p0 a0 => cond (decide ((Tr.val default a0).1 = (3 : Int))) (some (!(seq (Tr.val default a0).2.2.2.1 (⟨#[]⟩ : ByteArray)))) (some false)
def spec_l17Named (n : Nat) (a0 : Tr (tU1)) : Option (Tup [.bool]) := goRec spec_l17Named.step n (.p0 a0)
def spec_l17Named.spec : Ctr := ⟨81, [.v (.tr cU0)], [.bool], [], none, fun n x => spec_l17Named n x.1⟩
theorem spec_l17Named.seg_eq : SegEq tyN gl spec_l17Named.F spec_l17Named.md spec_l17Named.T spec_l17Named.spec spec_l17Named.lb spec_l17Named.st spec_l17Named.step := by
  intro n goto y; cases y <;> kernel_rfl
theorem spec_l17Named.text : Text Go.Proofs.Tryz.prog spec_l17Named.F spec_l17Named.spec := textOf Go.Proofs.Tryz.f81
theorem spec_l17Named.ok : CtrOK Go.Proofs.Tryz.prog gl spec_l17Named.spec :=
  ctr_okS tabsN spec_l17Named.text spec_l17Named.seg_eq (fun n x => ⟨.p0 x.1, rfl, rfl, rfl⟩) (nilC)

/-! loop.example/g00039/spec.l17Constant -/
def spec_l17Constant.T : List Ctr := []
def spec_l17Constant.md : List (Nat × List Md) := []
noncomputable def spec_l17Constant.F : Fun := ⟨(Go.Proofs.Tryz.f72.body).getD .skip, [.v (.tr cU0)], [(.tmp 2, (.int .i64)), (.tmp 3, .bool)], [], 0, [(12, ⟨[1, 32], [], [(1, 15, (.tr cU0))], false⟩)]⟩
inductive spec_l17Constant.Pt where
  | p0 (a0 : Tr (tU1))
  | p12 (y1 : Bool) (y2 : Int) (y3 : Int) (y4 : Int) (y5 : ByteArray) (y6 : Int) (y7 : List (tU4)) (y8 : Int) (y9 : Bool) (y10 : Int) (y11 : Bool) (y12 : Int) (y13 : List (ByteArray)) (y14 : Int) (y15 : List (ByteArray)) (y16 : Int) (y17 : List (Tr (tU1)))
def spec_l17Constant.lb : spec_l17Constant.Pt → Nat
  | .p0 _ => 0
  | .p12 _ _ _ _ _ _ _ _ _ _ _ _ _ _ _ _ _ => 12
def spec_l17Constant.st : spec_l17Constant.Pt → St
  | .p0 a0 => enter [.v (.tr cU0) a0] 0
  | .p12 y1 y2 y3 y4 y5 y6 y7 y8 y9 y10 y11 y12 y13 y14 y15 y16 y17 => ⟨[(1, .po 0 0), (32, .im .bool y1)], [(0, .obj [.im (.int .i64) y2, .im (.int .i64) y3, .im (.int .i64) y4, .im .str y5, .im (.int .i64) y6, .im (.bs cU3) y7, .im (.int .i64) y8, .im .bool y9, .im (.int .i64) y10, .im .bool y11, .im (.int .i64) y12, .im (.bs .str) y13, .im (.int .i64) y14, .im (.bs .str) y15, .im (.int .i64) y16, .im (.sl false (.tr cU0)) y17])], 1⟩
def spec_l17Constant.step (n : Nat) (K : spec_l17Constant.Pt → Option (Tup [(.int .i64), .bool])) : spec_l17Constant.Pt → Option (Tup [(.int .i64), .bool])
  | .p0 a0 => cond (decide ((Tr.val default a0).1 = (1 : Int))) (some ((Tr.val default a0).2.1, true)) (cond (decide ((Tr.val default a0).1 = (6 : Int))) (cond (inB (0 : Int) (List.length (Tr.kids a0))) (cond (decide ((Tr.val default (List.getD (Tr.kids a0) (Int.toNat (0 : Int)) default)).1 = (1 : Int))) (cond (inB (0 : Int) (List.length (Tr.kids a0))) (K (.p12 (decide ((0 : Int) < (Tr.val default (List.getD (Tr.kids a0) (Int.toNat (0 : Int)) default)).2.1)) (Tr.val default a0).1 (Tr.val default a0).2.1 (Tr.val default a0).2.2.1 (Tr.val default a0).2.2.2.1 (Tr.val default a0).2.2.2.2.1 (Tr.val default a0).2.2.2.2.2.1 (Tr.val default a0).2.2.2.2.2.2.1 (Tr.val default a0).2.2.2.2.2.2.2.1 (Tr.val default a0).2.2.2.2.2.2.2.2.1 (Tr.val default a0).2.2.2.2.2.2.2.2.2.1 (Tr.val default a0).2.2.2.2.2.2.2.2.2.2.1 (Tr.val default a0).2.2.2.2.2.2.2.2.2.2.2.1 (Tr.val default a0).2.2.2.2.2.2.2.2.2.2.2.2.1 (Tr.val default a0).2.2.2.2.2.2.2.2.2.2.2.2.2.1 (Tr.val default a0).2.2.2.2.2.2.2.2.2.2.2.2.2.2.1 (Tr.kids a0))) (none)) (K (.p12 false (Tr.val default a0).1 (Tr.val default a0).2.1 (Tr.val default a0).2.2.1 (Tr.val default a0).2.2.2.1 (Tr.val default a0).2.2.2.2.1 (Tr.val default a0).2.2.2.2.2.1 (Tr.val default a0).2.2.2.2.2.2.1 (Tr.val default a0).2.2.2.2.2.2.2.1 (Tr.val default a0).2.2.2.2.2.2.2.2.1 (Tr.val default a0).2.2.2.2.2.2.2.2.2.1 (Tr.val default a0).2.2.2.2.2.2.2.2.2.2.1 (Tr.val default a0).2.2.2.2.2.2.2.2.2.2.2.1 (Tr.val default a0).2.2.2.2.2.2.2.2.2.2.2.2.1 (Tr.val default a0).2.2.2.2.2.2.2.2.2.2.2.2.2.1 (Tr.val default a0).2.2.2.2.2.2.2.2.2.2.2.2.2.2.1 (Tr.kids a0)))) (none)) (K (.p12 false (Tr.val default a0).1 (Tr.val default a0).2.1 (Tr.val default a0).2.2.1 (Tr.val default a0).2.2.2.1 (Tr.val default a0).2.2.2.2.1 (Tr.val default a0).2.2.2.2.2.1 (Tr.val default a0).2.2.2.2.2.2.1 (Tr.val default a0).2.2.2.2.2.2.2.1 (Tr.val default a0).2.2.2.2.2.2.2.2.1 (Tr.val default a0).2.2.2.2.2.2.2.2.2.1 (Tr.val default a0).2.2.2.2.2.2.2.2.2.2.1 (Tr.val default a0).2.2.2.2.2.2.2.2.2.2.2.1 (Tr.val default a0).2.2.2.2.2.2.2.2.2.2.2.2.1 (Tr.val default a0).2.2.2.2.2.2.2.2.2.2.2.2.2.1 (Tr.val default a0).2.2.2.2.2.2.2.2.2.2.2.2.2.2.1 (Tr.kids a0))))
  | .p12 y1 y2 y3 y4 y5 y6 y7 y8 y9 y10 y11 y12 y13 y14 y15 y16 y17 => cond y1 (cond (inB (0 : Int) (List.length y17)) (some ((IntKind.wrap .i64 ((0 : Int) - (Tr.val default (List.getD y17 (Int.toNat (0 : Int)) default)).2.1)), true)) (none)) (some ((0 : Int), false))
def spec_l17Constant (n : Nat) (a0 : Tr (tU1)) : Option (Tup [(.int .i64), .bool]) := goRec spec_l17Constant.step n (.p0 a0)
def spec_l17Constant.spec : Ctr := ⟨72, [.v (.tr cU0)], [(.int .i64), .bool], [], none, fun n x => spec_l17Constant n x.1⟩
theorem spec_l17Constant.seg_eq : SegEq tyN gl spec_l17Constant.F spec_l17Constant.md spec_l17Constant.T spec_l17Constant.spec spec_l17Constant.lb spec_l17Constant.st spec_l17Constant.step := by
  intro n goto y; cases y <;> kernel_rfl
theorem spec_l17Constant.text : Text Go.Proofs.Tryz.prog spec_l17Constant.F spec_l17Constant.spec := textOf Go.Proofs.Tryz.f72
theorem spec_l17Constant.ok : CtrOK Go.Proofs.Tryz.prog gl spec_l17Constant.spec :=
  ctr_okS tabsN spec_l17Constant.text spec_l17Constant.seg_eq (fun n x => ⟨.p0 x.1, rfl, rfl, rfl⟩) (nilC)

/-! loop.example/g00039/spec.l17BySeries -/
def spec_l17BySeries.T : List Ctr := [spec_l17Named.spec, spec_l17Constant.spec]
def spec_l17BySeries.md : List (Nat × List Md) := []
noncomputable def spec_l17BySeries.F : Fun := ⟨(Go.Proofs.Tryz.f46.body).getD .skip, [.v (.tr cU0)], [(.tmp 2, .bool)], [], 0, [(61, ⟨[2], [], [], false⟩), (23, ⟨[1, 33], [], [(1, 15, (.tr cU0))], false⟩)]⟩
inductive spec_l17BySeries.Pt where
  | p0 (a0 : Tr (tU1))
  | p23 (y1 : Bool) (y2 : Int) (y3 : Int) (y4 : Int) (y5 : ByteArray) (y6 : Int) (y7 : List (tU4)) (y8 : Int) (y9 : Bool) (y10 : Int) (y11 : Bool) (y12 : Int) (y13 : List (ByteArray)) (y14 : Int) (y15 : List (ByteArray)) (y16 : Int) (y17 : List (Tr (tU1)))
  | p61 (y1 : Bool)
def spec_l17BySeries.lb : spec_l17BySeries.Pt → Nat
  | .p0 _ => 0
  | .p23 _ _ _ _ _ _ _ _ _ _ _ _ _ _ _ _ _ => 23
  | .p61 _ => 61
def spec_l17BySeries.st : spec_l17BySeries.Pt → St
  | .p0 a0 => enter [.v (.tr cU0) a0] 0
  | .p23 y1 y2 y3 y4 y5 y6 y7 y8 y9 y10 y11 y12 y13 y14 y15 y16 y17 => ⟨[(1, .po 0 0), (33, .im .bool y1)], [(0, .obj [.im (.int .i64) y2, .im (.int .i64) y3, .im (.int .i64) y4, .im .str y5, .im (.int .i64) y6, .im (.bs cU3) y7, .im (.int .i64) y8, .im .bool y9, .im (.int .i64) y10, .im .bool y11, .im (.int .i64) y12, .im (.bs .str) y13, .im (.int .i64) y14, .im (.bs .str) y15, .im (.int .i64) y16, .im (.sl false (.tr cU0)) y17])], 1⟩
  | .p61 y1 => ⟨[(2, .im .bool y1)], [], 0⟩
def spec_l17BySeries.step (n : Nat) (self : Ty.Els [.v (.tr cU0)] → Option (Tup [.bool])) (K : spec_l17BySeries.Pt → Option (Tup [.bool])) : spec_l17BySeries.Pt → Option (Tup [.bool])
  | .p0 a0 => cond (decide ((Tr.val default a0).1 = (3 : Int))) ((spec_l17Named n (Tr.node (Tr.val default a0) (Tr.kids a0))).bind fun r4 => some r4) (cond (decide ((Tr.val default a0).1 = (6 : Int))) (cond (inB (0 : Int) (List.length (Tr.kids a0))) ((self ((Tr.node (Tr.val default (List.getD (Tr.kids a0) (Int.toNat (0 : Int)) default)) (Tr.kids (List.getD (Tr.kids a0) (Int.toNat (0 : Int)) default))), ())).bind fun r4 => some r4) (none)) (cond (decide ((Tr.val default a0).1 = (7 : Int))) (cond (decide ((11 : Int) < (Tr.val default a0).2.2.2.2.1)) (K (.p23 true (Tr.val default a0).1 (Tr.val default a0).2.1 (Tr.val default a0).2.2.1 (Tr.val default a0).2.2.2.1 (Tr.val default a0).2.2.2.2.1 (Tr.val default a0).2.2.2.2.2.1 (Tr.val default a0).2.2.2.2.2.2.1 (Tr.val default a0).2.2.2.2.2.2.2.1 (Tr.val default a0).2.2.2.2.2.2.2.2.1 (Tr.val default a0).2.2.2.2.2.2.2.2.2.1 (Tr.val default a0).2.2.2.2.2.2.2.2.2.2.1 (Tr.val default a0).2.2.2.2.2.2.2.2.2.2.2.1 (Tr.val default a0).2.2.2.2.2.2.2.2.2.2.2.2.1 (Tr.val default a0).2.2.2.2.2.2.2.2.2.2.2.2.2.1 (Tr.val default a0).2.2.2.2.2.2.2.2.2.2.2.2.2.2.1 (Tr.kids a0))) (K (.p23 (!(decide ((Tr.val default a0).2.2.2.2.2.2.2.2.2.2.1 = (0 : Int)))) (Tr.val default a0).1 (Tr.val default a0).2.1 (Tr.val default a0).2.2.1 (Tr.val default a0).2.2.2.1 (Tr.val default a0).2.2.2.2.1 (Tr.val default a0).2.2.2.2.2.1 (Tr.val default a0).2.2.2.2.2.2.1 (Tr.val default a0).2.2.2.2.2.2.2.1 (Tr.val default a0).2.2.2.2.2.2.2.2.1 (Tr.val default a0).2.2.2.2.2.2.2.2.2.1 (Tr.val default a0).2.2.2.2.2.2.2.2.2.2.1 (Tr.val default a0).2.2.2.2.2.2.2.2.2.2.2.1 (Tr.val default a0).2.2.2.2.2.2.2.2.2.2.2.2.1 (Tr.val default a0).2.2.2.2.2.2.2.2.2.2.2.2.2.1 (Tr.val default a0).2.2.2.2.2.2.2.2.2.2.2.2.2.2.1 (Tr.kids a0)))) (cond (decide ((Tr.val default a0).1 = (9 : Int))) (cond (!(decide (((List.length (Tr.kids a0)) : Int) = (1 : Int)))) (some false) (cond (inB (0 : Int) (List.length (Tr.kids a0))) (cond (seq (Tr.val default a0).2.2.2.1 (⟨#[97, 98, 115]⟩ : ByteArray)) ((self ((Tr.node (Tr.val default (List.getD (Tr.kids a0) (Int.toNat (0 : Int)) default)) (Tr.kids (List.getD (Tr.kids a0) (Int.toNat (0 : Int)) default))), ())).bind fun r4 => some r4) (cond (seq (Tr.val default a0).2.2.2.1 (⟨#[116, 105, 109, 101, 115, 116, 97, 109, 112]⟩ : ByteArray)) (cond (decide ((Tr.val default (List.getD (Tr.kids a0) (Int.toNat (0 : Int)) default)).1 = (3 : Int))) ((spec_l17Named n (Tr.node (Tr.val default (List.getD (Tr.kids a0) (Int.toNat (0 : Int)) default)) (Tr.kids (List.getD (Tr.kids a0) (Int.toNat (0 : Int)) default)))).bind fun r4 => K (.p61 r4)) (K (.p61 false))) (cond (decide ((Tr.val default (List.getD (Tr.kids a0) (Int.toNat (0 : Int)) default)).1 = (4 : Int))) (cond (inB (0 : Int) (List.length (Tr.kids (List.getD (Tr.kids a0) (Int.toNat (0 : Int)) default)))) ((spec_l17Named n (Tr.node (Tr.val default (List.getD (Tr.kids (List.getD (Tr.kids a0) (Int.toNat (0 : Int)) default)) (Int.toNat (0 : Int)) default)) (Tr.kids (List.getD (Tr.kids (List.getD (Tr.kids a0) (Int.toNat (0 : Int)) default)) (Int.toNat (0 : Int)) default)))).bind fun r4 => some r4) (none)) (some false)))) (none))) (some false))))
  | .p23 y1 y2 y3 y4 y5 y6 y7 y8 y9 y10 y11 y12 y13 y14 y15 y16 y17 => cond y1 (some false) (cond (inB (0 : Int) (List.length y17)) ((spec_l17Constant n (Tr.node (Tr.val default (List.getD y17 (Int.toNat (0 : Int)) default)) (Tr.kids (List.getD y17 (Int.toNat (0 : Int)) default)))).bind fun r20 => cond (inB (1 : Int) (List.length y17)) ((spec_l17Constant n (Tr.node (Tr.val default (List.getD y17 (Int.toNat (1 : Int)) default)) (Tr.kids (List.getD y17 (Int.toNat (1 : Int)) default)))).bind fun r21 => cond r20.2 (cond (inB (1 : Int) (List.length y17)) ((self ((Tr.node (Tr.val default (List.getD y17 (Int.toNat (1 : Int)) default)) (Tr.kids (List.getD y17 (Int.toNat (1 : Int)) default))), ())).bind fun r22 => cond r22 (some true) (cond r21.2 (cond (inB (0 : Int) (List.length y17)) ((self ((Tr.node (Tr.val default (List.getD y17 (Int.toNat (0 : Int)) default)) (Tr.kids (List.getD y17 (Int.toNat (0 : Int)) default))), ())).bind fun r23 => some r23) (none)) (some false))) (none)) (cond r21.2 (cond (inB (0 : Int) (List.length y17)) ((self ((Tr.node (Tr.val default (List.getD y17 (Int.toNat (0 : Int)) default)) (Tr.kids (List.getD y17 (Int.toNat (0 : Int)) default))), ())).bind fun r22 => some r22) (none)) (some false))) (none)) (none))
  | .p61 y1 => some y1
def spec_l17BySeries (n : Nat) (a0 : Tr (tU1)) : Option (Tup [.bool]) := goRec (fun n K => spec_l17BySeries.step n (fun x => K (.p0 x.1)) K) n (.p0 a0)
def spec_l17BySeries.spec : Ctr := ⟨46, [.v (.tr cU0)], [.bool], [], none, fun n x => spec_l17BySeries n x.1⟩
theorem spec_l17BySeries.seg_eq (n : Nat) (φ : Ty.Els [.v (.tr cU0)] → Option (Tup [.bool])) (goto : Nat → St → Option (Tup [.bool])) (y : spec_l17BySeries.Pt) : seg ⟨tyN, gl, spec_l17BySeries.md, calOf (spec_l17BySeries.spec.at φ :: spec_l17BySeries.T) n⟩ spec_l17BySeries.F.np spec_l17BySeries.F.ks goto (spec_l17BySeries.F.fin ⟨tyN, gl, spec_l17BySeries.md, calOf spec_l17BySeries.T 0⟩ [.bool] none) spec_l17BySeries.F.c (spec_l17BySeries.lb y) (spec_l17BySeries.st y) = spec_l17BySeries.step n φ (fun z => goto (spec_l17BySeries.lb z) (spec_l17BySeries.st z)) y := by
  cases y <;> kernel_rfl
theorem spec_l17BySeries.text : Text Go.Proofs.Tryz.prog spec_l17BySeries.F spec_l17BySeries.spec := textOf Go.Proofs.Tryz.f46
theorem spec_l17BySeries.ok : CtrOK Go.Proofs.Tryz.prog gl spec_l17BySeries.spec :=
  ctr_rec (T := spec_l17BySeries.T) (F := spec_l17BySeries.F) (lb := spec_l17BySeries.lb) (st := spec_l17BySeries.st) (ent := fun x => .p0 x.1) (stp := spec_l17BySeries.step) (md := spec_l17BySeries.md) tabsN spec_l17BySeries.text spec_l17BySeries.seg_eq (fun _ => ⟨rfl, rfl⟩) (fun _ _ => rfl) (consC spec_l17Named.ok (consC spec_l17Constant.ok (nilC)))

/-! loop.example/g00039/spec.l15Call -/
def spec_l15Call.T : List Ctr := []
def spec_l15Call.md : List (Nat × List Md) := []
noncomputable def spec_l15Call.F : Fun := ⟨(Go.Proofs.Tryz.f83.body).getD .skip, [.v .str, .v (.sl false .str)], [(.tmp 4, .str)], [], 0, [(9, ⟨[0, 1, 5, 10, 11, 12], [(10, .str)], [], false⟩), (52, ⟨[1, 5, 25, 36], [], [], false⟩), (94, ⟨[1, 60], [], [], false⟩), (105, ⟨[62, 63, 64], [(62, .str)], [], false⟩)]⟩
inductive spec_l15Call.Pt where
  | p0 (a0 : ByteArray) (a1 : List (ByteArray))
  | p9 (y1 : ByteArray) (y2 : List (ByteArray)) (y3 : ByteArray) (y4 : List (ByteArray)) (y5 : Int) (y6 : Int)
  | p52 (y1 : List (ByteArray)) (y2 : ByteArray) (y3 : ByteArray) (y4 : Bool)
  | p94 (y1 : List (ByteArray)) (y2 : Bool)
  | p105 (y1 : List (ByteArray)) (y2 : Int) (y3 : Int)
def spec_l15Call.lb : spec_l15Call.Pt → Nat
  | .p0 _ _ => 0
  | .p9 _ _ _ _ _ _ => 9
  | .p52 _ _ _ _ => 52
  | .p94 _ _ => 94
  | .p105 _ _ _ => 105
def spec_l15Call.st : spec_l15Call.Pt → St
  | .p0 a0 a1 => enter [.v .str a0, .v (.sl false .str) a1] 0
  | .p9 y1 y2 y3 y4 y5 y6 => ⟨[(0, .im .str y1), (1, .im (.sl false .str) y2), (5, .im .str y3), (10, .im (.sl false .str) y4), (11, .im (.int .i64) y5), (12, .im (.int .i64) y6)], [], 0⟩
  | .p52 y1 y2 y3 y4 => ⟨[(1, .im (.sl false .str) y1), (5, .im .str y2), (25, .im .str y3), (36, .im .bool y4)], [], 0⟩
  | .p94 y1 y2 => ⟨[(1, .im (.sl false .str) y1), (60, .im .bool y2)], [], 0⟩
  | .p105 y1 y2 y3 => ⟨[(62, .im (.sl false .str) y1), (63, .im (.int .i64) y2), (64, .im (.int .i64) y3)], [], 0⟩
def spec_l15Call.step (n : Nat) (K : spec_l15Call.Pt → Option (Tup [.str])) : spec_l15Call.Pt → Option (Tup [.str])
  | .p0 a0 a1 => K (.p9 a0 a1 (⟨#[]⟩ : ByteArray) a1 ((List.length a1) : Int) (0 : Int))
  | .p9 y1 y2 y3 y4 y5 y6 => cond (decide (y6 < y5)) (cond (inB y6 (List.length y4)) (cond (decide ((0 : Int) < y6)) (cond (room ((ByteArray.size y3) + (ByteArray.size (⟨#[44]⟩ : ByteArray)))) (cond (room ((ByteArray.size (y3 ++ (⟨#[44]⟩ : ByteArray))) + (ByteArray.size (List.getD y4 (Int.toNat y6) default)))) (K (.p9 y1 y2 ((y3 ++ (⟨#[44]⟩ : ByteArray)) ++ (List.getD y4 (Int.toNat y6) default)) y4 y5 (IntKind.wrap .i64 (y6 + (1 : Int))))) (none)) (none)) (cond (room ((ByteArray.size y3) + (ByteArray.size (List.getD y4 (Int.toNat y6) default)))) (K (.p9 y1 y2 (y3 ++ (List.getD y4 (Int.toNat y6) default)) y4 y5 (IntKind.wrap .i64 (y6 + (1 : Int))))) (none))) (none)) (cond (seq y1 (⟨#[116, 105, 109, 101]⟩ : ByteArray)) (cond (seq y3 (⟨#[]⟩ : ByteArray)) (some (⟨#[110, 117, 109, 98, 101, 114]⟩ : ByteArray)) (some (⟨#[]⟩ : ByteArray))) (cond (seq y1 (⟨#[115, 99, 97, 108, 97, 114]⟩ : ByteArray)) (cond (seq y3 (⟨#[118, 101, 99, 116, 111, 114]⟩ : ByteArray)) (some (⟨#[110, 117, 109, 98, 101, 114]⟩ : ByteArray)) (some (⟨#[]⟩ : ByteArray))) (cond (seq y1 (⟨#[97, 98, 115]⟩ : ByteArray)) (K (.p52 y2 y3 y1 (seq y1 (⟨#[97, 98, 115]⟩ : ByteArray)))) (cond (seq y1 (⟨#[97, 98, 115, 101, 110, 116]⟩ : ByteArray)) (K (.p52 y2 y3 y1 (seq y1 (⟨#[97, 98, 115, 101, 110, 116]⟩ : ByteArray)))) (K (.p52 y2 y3 y1 (seq y1 (⟨#[116, 105, 109, 101, 115, 116, 97, 109, 112]⟩ : ByteArray))))))))
  | .p52 y1 y2 y3 y4 => cond y4 (cond (seq y2 (⟨#[118, 101, 99, 116, 111, 114]⟩ : ByteArray)) (some (⟨#[118, 101, 99, 116, 111, 114]⟩ : ByteArray)) (some (⟨#[]⟩ : ByteArray))) (cond (seq y3 (⟨#[99, 108, 97, 109, 112]⟩ : ByteArray)) (cond (seq y2 (⟨#[118, 101, 99, 116, 111, 114, 44, 110, 117, 109, 98, 101, 114, 44, 110, 117, 109, 98, 101, 114]⟩ : ByteArray)) (some (⟨#[118, 101, 99, 116, 111, 114]⟩ : ByteArray)) (some (⟨#[]⟩ : ByteArray))) (cond (seq y3 (⟨#[104, 105, 115, 116, 95, 113, 117, 97, 110, 116, 105, 108, 101]⟩ : ByteArray)) (cond (seq y2 (⟨#[110, 117, 109, 98, 101, 114, 44, 118, 101, 99, 116, 111, 114]⟩ : ByteArray)) (some (⟨#[118, 101, 99, 116, 111, 114]⟩ : ByteArray)) (some (⟨#[]⟩ : ByteArray))) (cond (seq y3 (⟨#[108, 97, 98, 101, 108, 95, 106, 111, 105, 110]⟩ : ByteArray)) (cond (decide (((List.length y1) : Int) < (4 : Int))) (K (.p94 y1 true)) (cond (inB (0 : Int) (List.length y1)) (K (.p94 y1 (!(seq (List.getD y1 (Int.toNat (0 : Int)) default) (⟨#[118, 101, 99, 116, 111, 114]⟩ : ByteArray))))) (none))) (cond (seq y3 (⟨#[108, 97, 98, 101, 108, 95, 115, 101, 116]⟩ : ByteArray)) (cond (seq y2 (⟨#[118, 101, 99, 116, 111, 114, 44, 116, 101, 120, 116, 44, 116, 101, 120, 116, 44, 116, 101, 120, 116, 44, 116, 101, 120, 116]⟩ : ByteArray)) (some (⟨#[118, 101, 99, 116, 111, 114]⟩ : ByteArray)) (some (⟨#[]⟩ : ByteArray))) (cond (seq y3 (⟨#[112, 114, 101, 100, 105, 99, 116]⟩ : ByteArray)) (cond (seq y2 (⟨#[114, 97, 110, 103, 101, 44, 110, 117, 109, 98, 101, 114]⟩ : ByteArray)) (some (⟨#[118, 101, 99, 116, 111, 114]⟩ : ByteArray)) (some (⟨#[]⟩ : ByteArray))) (cond (seq y3 (⟨#[113, 117, 97, 110, 116, 105, 108, 101, 95, 111, 118, 101, 114]⟩ : ByteArray)) (cond (seq y2 (⟨#[110, 117, 109, 98, 101, 114, 44, 114, 97, 110, 103, 101]⟩ : ByteArray)) (some (⟨#[118, 101, 99, 116, 111, 114]⟩ : ByteArray)) (some (⟨#[]⟩ : ByteArray))) (cond (seq y3 (⟨#[118, 101, 99, 116, 111, 114]⟩ : ByteArray)) (cond (seq y2 (⟨#[110, 117, 109, 98, 101, 114]⟩ : ByteArray)) (some (⟨#[118, 101, 99, 116, 111, 114]⟩ : ByteArray)) (some (⟨#[]⟩ : ByteArray))) (cond (seq y2 (⟨#[114, 97, 110, 103, 101]⟩ : ByteArray)) (some (⟨#[118, 101, 99, 116, 111, 114]⟩ : ByteArray)) (some (⟨#[]⟩ : ByteArray))))))))))
  | .p94 y1 y2 => cond y2 (some (⟨#[]⟩ : ByteArray)) (cond (inC (1 : Int) ((List.length y1) : Int) (List.length y1)) (K (.p105 (List.drop (Int.toNat (1 : Int)) (List.take (Int.toNat ((List.length y1) : Int)) y1)) ((List.length (List.drop (Int.toNat (1 : Int)) (List.take (Int.toNat ((List.length y1) : Int)) y1))) : Int) (0 : Int))) (none))
  | .p105 y1 y2 y3 => cond (decide (y3 < y2)) (cond (inB y3 (List.length y1)) (cond (!(seq (List.getD y1 (Int.toNat y3) default) (⟨#[116, 101, 120, 116]⟩ : ByteArray))) (some (⟨#[]⟩ : ByteArray)) (K (.p105 y1 y2 (IntKind.wrap .i64 (y3 + (1 : Int)))))) (none)) (some (⟨#[118, 101, 99, 116, 111, 114]⟩ : ByteArray))
def spec_l15Call (n : Nat) (a0 : ByteArray) (a1 : List (ByteArray)) : Option (Tup [.str]) := goRec spec_l15Call.step n (.p0 a0 a1)
def spec_l15Call.spec : Ctr := ⟨83, [.v .str, .v (.sl false .str)], [.str], [], none, fun n x => spec_l15Call n x.1 x.2.1⟩
theorem spec_l15Call.seg_eq : SegEq tyN gl spec_l15Call.F spec_l15Call.md spec_l15Call.T spec_l15Call.spec spec_l15Call.lb spec_l15Call.st spec_l15Call.step := by
  intro n goto y; cases y <;> kernel_rfl
theorem spec_l15Call.text : Text Go.Proofs.Tryz.prog spec_l15Call.F spec_l15Call.spec := textOf Go.Proofs.Tryz.f83
theorem spec_l15Call.ok : CtrOK Go.Proofs.Tryz.prog gl spec_l15Call.spec :=
  ctr_okS tabsN spec_l15Call.text spec_l15Call.seg_eq (fun n x => ⟨.p0 x.1 x.2.1, rfl, rfl, rfl⟩) (nilC)

/-! loop.example/g00039/spec.l15Kind -/
def spec_l15Kind.T : List Ctr := [spec_l15Compare.spec, spec_l15Call.spec]
def spec_l15Kind.md : List (Nat × List Md) := []
noncomputable def spec_l15Kind.F : Fun := ⟨(Go.Proofs.Tryz.f47.body).getD .skip, [.v (.tr cU0)], [(.tmp 2, .str)], [], 0, [(9, ⟨[1, 3, 11, 12, 13], [(3, .str), (11, (.tr cU0))], [(1, 15, (.tr cU0))], false⟩), (143, ⟨[138], [], [], false⟩), (97, ⟨[1, 7, 66, 67, 68], [(66, .str)], [(1, 15, (.tr cU0))], false⟩), (121, ⟨[7, 108], [], [], false⟩), (78, ⟨[3, 60], [(3, .str)], [], false⟩), (64, ⟨[48], [], [], false⟩)]⟩
inductive spec_l15Kind.Pt where
  | p0 (a0 : Tr (tU1))
  | p9 (y1 : List (Tr (tU1))) (y2 : Int) (y3 : Int) (y4 : Int) (y5 : Int) (y6 : Int) (y7 : ByteArray) (y8 : Int) (y9 : List (tU4)) (y10 : Int) (y11 : Bool) (y12 : Int) (y13 : Bool) (y14 : Int) (y15 : List (ByteArray)) (y16 : Int) (y17 : List (ByteArray)) (y18 : Int) (y19 : List (Tr (tU1))) (y20 : List (ByteArray))
  | p64 (y1 : Bool)
  | p78 (y1 : Bool) (y2 : List (ByteArray))
  | p97 (y1 : Int) (y2 : Int) (y3 : Int) (y4 : Int) (y5 : Int) (y6 : Int) (y7 : ByteArray) (y8 : Int) (y9 : List (tU4)) (y10 : Int) (y11 : Bool) (y12 : Int) (y13 : Bool) (y14 : Int) (y15 : List (ByteArray)) (y16 : Int) (y17 : List (ByteArray)) (y18 : Int) (y19 : List (Tr (tU1))) (y20 : List (ByteArray))
  | p143 (y1 : Bool)
  | p121 (y1 : Int) (y2 : Bool)
def spec_l15Kind.lb : spec_l15Kind.Pt → Nat
  | .p0 _ => 0
  | .p9 _ _ _ _ _ _ _ _ _ _ _ _ _ _ _ _ _ _ _ _ => 9
  | .p64 _ => 64
  | .p78 _ _ => 78
  | .p97 _ _ _ _ _ _ _ _ _ _ _ _ _ _ _ _ _ _ _ _ => 97
  | .p143 _ => 143
  | .p121 _ _ => 121
def spec_l15Kind.st : spec_l15Kind.Pt → St
  | .p0 a0 => enter [.v (.tr cU0) a0] 0
  | .p9 y1 y2 y3 y4 y5 y6 y7 y8 y9 y10 y11 y12 y13 y14 y15 y16 y17 y18 y19 y20 => ⟨[(1, .po 0 0), (3, .hs 1 [] none 0), (11, .im (.sl false (.tr cU0)) y1), (12, .im (.int .i64) y2), (13, .im (.int .i64) y3)], [(0, .obj [.im (.int .i64) y4, .im (.int .i64) y5, .im (.int .i64) y6, .im .str y7, .im (.int .i64) y8, .im (.bs cU3) y9, .im (.int .i64) y10, .im .bool y11, .im (.int .i64) y12, .im .bool y13, .im (.int .i64) y14, .im (.bs .str) y15, .im (.int .i64) y16, .im (.bs .str) y17, .im (.int .i64) y18, .im (.sl false (.tr cU0)) y19]), (1, .arr true .str y20 0)], 2⟩
  | .p64 y1 => ⟨[(48, .im .bool y1)], [], 0⟩
  | .p78 y1 y2 => ⟨[(3, .hs 0 [] none 0), (60, .im .bool y1)], [(0, .arr true .str y2 0)], 1⟩
  | .p97 y1 y2 y3 y4 y5 y6 y7 y8 y9 y10 y11 y12 y13 y14 y15 y16 y17 y18 y19 y20 => ⟨[(1, .po 0 0), (7, .im (.int .i64) y1), (66, .hs 1 [] none 0), (67, .im (.int .i64) y2), (68, .im (.int .i64) y3)], [(0, .obj [.im (.int .i64) y4, .im (.int .i64) y5, .im (.int .i64) y6, .im .str y7, .im (.int .i64) y8, .im (.bs cU3) y9, .im (.int .i64) y10, .im .bool y11, .im (.int .i64) y12, .im .bool y13, .im (.int .i64) y14, .im (.bs .str) y15, .im (.int .i64) y16, .im (.bs .str) y17, .im (.int .i64) y18, .im (.sl false (.tr cU0)) y19]), (1, .arr true .str y20 0)], 2⟩
  | .p143 y1 => ⟨[(138, .im .bool y1)], [], 0⟩
  | .p121 y1 y2 => ⟨[(7, .im (.int .i64) y1), (108, .im .bool y2)], [], 0⟩
def spec_l15Kind.step (n : Nat) (self : Ty.Els [.v (.tr cU0)] → Option (Tup [.str])) (K : spec_l15Kind.Pt → Option (Tup [.str])) : spec_l15Kind.Pt → Option (Tup [.str])
  | .p0 a0 => K (.p9 (Tr.kids a0) ((List.length (Tr.kids a0)) : Int) (0 : Int) (Tr.val default a0).1 (Tr.val default a0).2.1 (Tr.val default a0).2.2.1 (Tr.val default a0).2.2.2.1 (Tr.val default a0).2.2.2.2.1 (Tr.val default a0).2.2.2.2.2.1 (Tr.val default a0).2.2.2.2.2.2.1 (Tr.val default a0).2.2.2.2.2.2.2.1 (Tr.val default a0).2.2.2.2.2.2.2.2.1 (Tr.val default a0).2.2.2.2.2.2.2.2.2.1 (Tr.val default a0).2.2.2.2.2.2.2.2.2.2.1 (Tr.val default a0).2.2.2.2.2.2.2.2.2.2.2.1 (Tr.val default a0).2.2.2.2.2.2.2.2.2.2.2.2.1 (Tr.val default a0).2.2.2.2.2.2.2.2.2.2.2.2.2.1 (Tr.val default a0).2.2.2.2.2.2.2.2.2.2.2.2.2.2.1 (Tr.kids a0) ([] : List (ByteArray)))
  | .p9 y1 y2 y3 y4 y5 y6 y7 y8 y9 y10 y11 y12 y13 y14 y15 y16 y17 y18 y19 y20 => cond (decide (y3 < y2)) (cond (inB y3 (List.length y1)) ((self ((Tr.node (Tr.val default (List.getD y1 (Int.toNat y3) default)) (Tr.kids (List.getD y1 (Int.toNat y3) default))), ())).bind fun r23 => cond (seq r23 (⟨#[]⟩ : ByteArray)) (some (⟨#[]⟩ : ByteArray)) (cond (room ((List.length y20) + (List.length [r23]))) (K (.p9 y1 y2 (IntKind.wrap .i64 (y3 + (1 : Int))) y4 y5 y6 y7 y8 y9 y10 y11 y12 y13 y14 y15 y16 y17 y18 y19 (y20 ++ [r23]))) (none))) (none)) (cond (decide (y4 = (1 : Int))) (some (⟨#[110, 117, 109, 98, 101, 114]⟩ : ByteArray)) (cond (decide (y4 = (2 : Int))) (some (⟨#[116, 101, 120, 116]⟩ : ByteArray)) (cond (decide (y4 = (3 : Int))) (some (⟨#[118, 101, 99, 116, 111, 114]⟩ : ByteArray)) (cond (decide (y4 = (4 : Int))) (some (⟨#[114, 97, 110, 103, 101]⟩ : ByteArray)) (cond (decide (y4 = (5 : Int))) (cond (inB (0 : Int) (List.length y20)) (cond (seq (List.getD y20 (0 + (Int.toNat (0 : Int))) default) (⟨#[118, 101, 99, 116, 111, 114]⟩ : ByteArray)) (K (.p64 true)) (cond (inB (0 : Int) (List.length y20)) (K (.p64 (seq (List.getD y20 (0 + (Int.toNat (0 : Int))) default) (⟨#[110, 117, 109, 98, 101, 114]⟩ : ByteArray)))) (none))) (none)) (cond (decide (y4 = (6 : Int))) (cond (inB (0 : Int) (List.length y20)) (cond (seq (List.getD y20 (0 + (Int.toNat (0 : Int))) default) (⟨#[118, 101, 99, 116, 111, 114]⟩ : ByteArray)) (K (.p78 true y20)) (cond (inB (0 : Int) (List.length y20)) (K (.p78 (seq (List.getD y20 (0 + (Int.toNat (0 : Int))) default) (⟨#[110, 117, 109, 98, 101, 114]⟩ : ByteArray)) y20)) (none))) (none)) (cond (decide (y4 = (7 : Int))) (K (.p97 (0 : Int) ((List.length y20) : Int) (0 : Int) y4 y5 y6 y7 y8 y9 y10 y11 y12 y13 y14 y15 y16 y17 y18 y19 y20)) (cond (decide (y4 = (8 : Int))) (cond (decide (((List.length y20) : Int) = (1 : Int))) (cond (inB (0 : Int) (List.length y20)) (cond (seq (List.getD y20 (0 + (Int.toNat (0 : Int))) default) (⟨#[118, 101, 99, 116, 111, 114]⟩ : ByteArray)) (K (.p143 true)) (cond (decide (((List.length y20) : Int) = (2 : Int))) (cond (inB (0 : Int) (List.length y20)) (cond (seq (List.getD y20 (0 + (Int.toNat (0 : Int))) default) (⟨#[110, 117, 109, 98, 101, 114]⟩ : ByteArray)) (cond (inB (1 : Int) (List.length y20)) (K (.p143 (seq (List.getD y20 (0 + (Int.toNat (1 : Int))) default) (⟨#[118, 101, 99, 116, 111, 114]⟩ : ByteArray)))) (none)) (K (.p143 false))) (none)) (K (.p143 false)))) (none)) (cond (decide (((List.length y20) : Int) = (2 : Int))) (cond (inB (0 : Int) (List.length y20)) (cond (seq (List.getD y20 (0 + (Int.toNat (0 : Int))) default) (⟨#[110, 117, 109, 98, 101, 114]⟩ : ByteArray)) (cond (inB (1 : Int) (List.length y20)) (K (.p143 (seq (List.getD y20 (0 + (Int.toNat (1 : Int))) default) (⟨#[118, 101, 99, 116, 111, 114]⟩ : ByteArray)))) (none)) (K (.p143 false))) (none)) (K (.p143 false)))) ((spec_l15Call n y7 y20).bind fun r23 => some r23)))))))))
  | .p64 y1 => cond y1 (some (⟨#[114, 97, 110, 103, 101]⟩ : ByteArray)) (some (⟨#[]⟩ : ByteArray))
  | .p78 y1 y2 => cond y1 (cond (inB (0 : Int) (List.length y2)) (some (List.getD y2 (0 + (Int.toNat (0 : Int))) default)) (none)) (some (⟨#[]⟩ : ByteArray))
  | .p97 y1 y2 y3 y4 y5 y6 y7 y8 y9 y10 y11 y12 y13 y14 y15 y16 y17 y18 y19 y20 => cond (decide (y3 < y2)) (cond (inB y3 (List.length y20)) (cond (seq (List.getD y20 (0 + (Int.toNat y3)) default) (⟨#[110, 117, 109, 98, 101, 114]⟩ : ByteArray)) (K (.p97 (IntKind.wrap .i64 (y1 + (1 : Int))) y2 (IntKind.wrap .i64 (y3 + (1 : Int))) y4 y5 y6 y7 y8 y9 y10 y11 y12 y13 y14 y15 y16 y17 y18 y19 y20)) (cond (!(seq (List.getD y20 (0 + (Int.toNat y3)) default) (⟨#[118, 101, 99, 116, 111, 114]⟩ : ByteArray))) (some (⟨#[]⟩ : ByteArray)) (K (.p97 y1 y2 (IntKind.wrap .i64 (y3 + (1 : Int))) y4 y5 y6 y7 y8 y9 y10 y11 y12 y13 y14 y15 y16 y17 y18 y19 y20)))) (none)) (cond (decide ((0 : Int) < y1)) (cond (decide ((11 : Int) < y8)) (K (.p121 y1 true)) (cond (!(decide (y14 = (0 : Int)))) (K (.p121 y1 true)) (cond (decide (y1 = (2 : Int))) ((spec_l15Compare n y8).bind fun r23 => cond r23 (K (.p121 y1 (!y13))) (K (.p121 y1 false))) (K (.p121 y1 false))))) (cond (decide (y1 = (2 : Int))) ((spec_l15Compare n y8).bind fun r23 => cond r23 (K (.p121 y1 (!y13))) (K (.p121 y1 false))) (K (.p121 y1 false))))
  | .p143 y1 => cond y1 (some (⟨#[118, 101, 99, 116, 111, 114]⟩ : ByteArray)) (some (⟨#[]⟩ : ByteArray))
  | .p121 y1 y2 => cond y2 (some (⟨#[]⟩ : ByteArray)) (cond (decide (y1 = (2 : Int))) (some (⟨#[110, 117, 109, 98, 101, 114]⟩ : ByteArray)) (some (⟨#[118, 101, 99, 116, 111, 114]⟩ : ByteArray)))
def spec_l15Kind (n : Nat) (a0 : Tr (tU1)) : Option (Tup [.str]) := goRec (fun n K => spec_l15Kind.step n (fun x => K (.p0 x.1)) K) n (.p0 a0)
def spec_l15Kind.spec : Ctr := ⟨47, [.v (.tr cU0)], [.str], [], none, fun n x => spec_l15Kind n x.1⟩
theorem spec_l15Kind.seg_eq (n : Nat) (φ : Ty.Els [.v (.tr cU0)] → Option (Tup [.str])) (goto : Nat → St → Option (Tup [.str])) (y : spec_l15Kind.Pt) : seg ⟨tyN, gl, spec_l15Kind.md, calOf (spec_l15Kind.spec.at φ :: spec_l15Kind.T) n⟩ spec_l15Kind.F.np spec_l15Kind.F.ks goto (spec_l15Kind.F.fin ⟨tyN, gl, spec_l15Kind.md, calOf spec_l15Kind.T 0⟩ [.str] none) spec_l15Kind.F.c (spec_l15Kind.lb y) (spec_l15Kind.st y) = spec_l15Kind.step n φ (fun z => goto (spec_l15Kind.lb z) (spec_l15Kind.st z)) y := by
  cases y <;> kernel_rfl
theorem spec_l15Kind.text : Text Go.Proofs.Tryz.prog spec_l15Kind.F spec_l15Kind.spec := textOf Go.Proofs.Tryz.f47
theorem spec_l15Kind.ok : CtrOK Go.Proofs.Tryz.prog gl spec_l15Kind.spec :=
  ctr_rec (T := spec_l15Kind.T) (F := spec_l15Kind.F) (lb := spec_l15Kind.lb) (st := spec_l15Kind.st) (ent := fun x => .p0 x.1) (stp := spec_l15Kind.step) (md := spec_l15Kind.md) tabsN spec_l15Kind.text spec_l15Kind.seg_eq (fun _ => ⟨rfl, rfl⟩) (fun _ _ => rfl) (consC spec_l15Compare.ok (consC spec_l15Call.ok (nilC)))

/-! loop.example/g00039/spec.l17Shardable -/
def spec_l17Shardable.T : List Ctr := [spec_l17BySeries.spec, spec_l15Kind.spec]
def spec_l17Shardable.md : List (Nat × List Md) := []
noncomputable def spec_l17Shardable.F : Fun := ⟨(Go.Proofs.Tryz.f22.body).getD .skip, [.v (.tr cU0)], [(.tmp 2, .bool)], [], 0, []⟩
inductive spec_l17Shardable.Pt where
  | p0 (a0 : Tr (tU1))
def spec_l17Shardable.lb : spec_l17Shardable.Pt → Nat
  | .p0 _ => 0
def spec_l17Shardable.st : spec_l17Shardable.Pt → St
  | .p0 a0 => enter [.v (.tr cU0) a0] 0
def spec_l17Shardable.step (n : Nat) (K : spec_l17Shardable.Pt → Option (Tup [.bool])) : spec_l17Shardable.Pt → Option (Tup [.bool])
  | .p0 a0 => cond (decide ((Tr.val default a0).1 = (8 : Int))) (cond (decide ((Tr.val default a0).2.2.2.2.1 = (1 : Int))) (cond (inB (0 : Int) (List.length (Tr.kids a0))) ((spec_l17BySeries n (Tr.node (Tr.val default (List.getD (Tr.kids a0) (Int.toNat (0 : Int)) default)) (Tr.kids (List.getD (Tr.kids a0) (Int.toNat (0 : Int)) default)))).bind fun r4 => cond r4 ((spec_l15Kind n (Tr.node (Tr.val default a0) (Tr.kids a0))).bind fun r5 => some (!(seq r5 (⟨#[]⟩ : ByteArray)))) (some false)) (none)) (cond (decide ((Tr.val default a0).2.2.2.2.1 = (2 : Int))) (cond (inB (0 : Int) (List.length (Tr.kids a0))) ((spec_l17BySeries n (Tr.node (Tr.val default (List.getD (Tr.kids a0) (Int.toNat (0 : Int)) default)) (Tr.kids (List.getD (Tr.kids a0) (Int.toNat (0 : Int)) default)))).bind fun r4 => cond r4 ((spec_l15Kind n (Tr.node (Tr.val default a0) (Tr.kids a0))).bind fun r5 => some (!(seq r5 (⟨#[]⟩ : ByteArray)))) (some false)) (none)) (cond (decide ((Tr.val default a0).2.2.2.2.1 = (3 : Int))) (cond (inB (0 : Int) (List.length (Tr.kids a0))) ((spec_l17BySeries n (Tr.node (Tr.val default (List.getD (Tr.kids a0) (Int.toNat (0 : Int)) default)) (Tr.kids (List.getD (Tr.kids a0) (Int.toNat (0 : Int)) default)))).bind fun r4 => cond r4 ((spec_l15Kind n (Tr.node (Tr.val default a0) (Tr.kids a0))).bind fun r5 => some (!(seq r5 (⟨#[]⟩ : ByteArray)))) (some false)) (none)) (cond (decide ((Tr.val default a0).2.2.2.2.1 = (5 : Int))) (cond (inB (0 : Int) (List.length (Tr.kids a0))) ((spec_l17BySeries n (Tr.node (Tr.val default (List.getD (Tr.kids a0) (Int.toNat (0 : Int)) default)) (Tr.kids (List.getD (Tr.kids a0) (Int.toNat (0 : Int)) default)))).bind fun r4 => cond r4 ((spec_l15Kind n (Tr.node (Tr.val default a0) (Tr.kids a0))).bind fun r5 => some (!(seq r5 (⟨#[]⟩ : ByteArray)))) (some false)) (none)) (some false))))) (some false)
def spec_l17Shardable (n : Nat) (a0 : Tr (tU1)) : Option (Tup [.bool]) := goRec spec_l17Shardable.step n (.p0 a0)
def spec_l17Shardable.spec : Ctr := ⟨22, [.v (.tr cU0)], [.bool], [], none, fun n x => spec_l17Shardable n x.1⟩
theorem spec_l17Shardable.seg_eq : SegEq tyN gl spec_l17Shardable.F spec_l17Shardable.md spec_l17Shardable.T spec_l17Shardable.spec spec_l17Shardable.lb spec_l17Shardable.st spec_l17Shardable.step := by
  intro n goto y; cases y <;> kernel_rfl
theorem spec_l17Shardable.text : Text Go.Proofs.Tryz.prog spec_l17Shardable.F spec_l17Shardable.spec := textOf Go.Proofs.Tryz.f22
theorem spec_l17Shardable.ok : CtrOK Go.Proofs.Tryz.prog gl spec_l17Shardable.spec :=
  ctr_okS tabsN spec_l17Shardable.text spec_l17Shardable.seg_eq (fun n x => ⟨.p0 x.1, rfl, rfl, rfl⟩) (consC spec_l17BySeries.ok (consC spec_l15Kind.ok (nilC)))

/-! loop.example/g00039/spec.Shardable -/
def spec_Shardable.T : List Ctr := [spec_l15Tree.spec, spec_l17Shardable.spec]
def spec_Shardable.md : List (Nat × List Md) := []
noncomputable def spec_Shardable.F : Fun := ⟨(Go.Proofs.Tryz.f7.body).getD .skip, [.v (.sl false cU0)], [(.tmp 2, .bool)], [], 0, []⟩
inductive spec_Shardable.Pt where
  | p0 (a0 : List (tU1))
def spec_Shardable.lb : spec_Shardable.Pt → Nat
  | .p0 _ => 0
def spec_Shardable.st : spec_Shardable.Pt → St
  | .p0 a0 => enter [.v (.sl false cU0) a0] 0
def spec_Shardable.step (n : Nat) (K : spec_Shardable.Pt → Option (Tup [.bool])) : spec_Shardable.Pt → Option (Tup [.bool])
  | .p0 a0 => (spec_l15Tree n a0).bind fun r4 => cond r4.2 ((spec_l17Shardable n (Tr.node (Tr.val default r4.1) (Tr.kids r4.1))).bind fun r5 => some r5) (some false)
def spec_Shardable (n : Nat) (a0 : List (tU1)) : Option (Tup [.bool]) := goRec spec_Shardable.step n (.p0 a0)
def spec_Shardable.spec : Ctr := ⟨7, [.v (.sl false cU0)], [.bool], [], none, fun n x => spec_Shardable n x.1⟩
theorem spec_Shardable.seg_eq : SegEq tyN gl spec_Shardable.F spec_Shardable.md spec_Shardable.T spec_Shardable.spec spec_Shardable.lb spec_Shardable.st spec_Shardable.step := by
  intro n goto y; cases y <;> kernel_rfl
theorem spec_Shardable.text : Text Go.Proofs.Tryz.prog spec_Shardable.F spec_Shardable.spec := textOf Go.Proofs.Tryz.f7
theorem spec_Shardable.ok : CtrOK Go.Proofs.Tryz.prog gl spec_Shardable.spec :=
  ctr_okS tabsN spec_Shardable.text spec_Shardable.seg_eq (fun n x => ⟨.p0 x.1, rfl, rfl, rfl⟩) (consC spec_l15Tree.ok (consC spec_l17Shardable.ok (nilC)))

/-! loop.example/g00039/impl.printed -/
def impl_printed.T : List Ctr := []
def impl_printed.md : List (Nat × List Md) := []
noncomputable def impl_printed.F : Fun := ⟨(Go.Proofs.Tryz.f86.body).getD .skip, [.v .str, .v (.int .i64)], [(.tmp 4, .bool)], [], 0, [(15, ⟨[0, 11, 12], [], [], false⟩)]⟩
inductive impl_printed.Pt where
  | p0 (a0 : ByteArray) (a1 : Int)
  | p15 (y1 : ByteArray) (y2 : Int) (y3 : Int)
def impl_printed.lb : impl_printed.Pt → Nat
  | .p0 _ _ => 0
  | .p15 _ _ _ => 15
def impl_printed.st : impl_printed.Pt → St
  | .p0 a0 a1 => enter [.v .str a0, .v (.int .i64) a1] 0
  | .p15 y1 y2 y3 => ⟨[(0, .im .str y1), (11, .im (.int .i64) y2), (12, .im (.int .i64) y3)], [], 0⟩
def impl_printed.step (n : Nat) (K : impl_printed.Pt → Option (Tup [.bool])) : impl_printed.Pt → Option (Tup [.bool])
  | .p0 a0 a1 => cond (decide (a1 < ((ByteArray.size a0) : Int))) (some false) (K (.p15 a0 ((ByteArray.size a0) : Int) (0 : Int)))
  | .p15 y1 y2 y3 => cond (decide (y3 < y2)) (cond (inB y3 (ByteArray.size y1)) (cond (decide ((bt y1 y3) < (32 : Int))) (some false) (cond (inB y3 (ByteArray.size y1)) (cond (decide ((126 : Int) < (bt y1 y3))) (some false) (K (.p15 y1 y2 (IntKind.wrap .i64 (y3 + (1 : Int)))))) (none))) (none)) (some true)
def impl_printed (n : Nat) (a0 : ByteArray) (a1 : Int) : Option (Tup [.bool]) := goRec impl_printed.step n (.p0 a0 a1)
def impl_printed.spec : Ctr := ⟨86, [.v .str, .v (.int .i64)], [.bool], [], none, fun n x => impl_printed n x.1 x.2.1⟩
theorem impl_printed.seg_eq : SegEq tyN gl impl_printed.F impl_printed.md impl_printed.T impl_printed.spec impl_printed.lb impl_printed.st impl_printed.step := by
  intro n goto y; cases y <;> kernel_rfl
theorem impl_printed.text : Text Go.Proofs.Tryz.prog impl_printed.F impl_printed.spec := textOf Go.Proofs.Tryz.f86
theorem impl_printed.ok : CtrOK Go.Proofs.Tryz.prog gl impl_printed.spec :=
  ctr_okS tabsN impl_printed.text impl_printed.seg_eq (fun n x => ⟨.p0 x.1 x.2.1, rfl, rfl, rfl⟩) (nilC)

/-! loop.example/g00039/impl.digitByte -/
def impl_digitByte.T : List Ctr := []
def impl_digitByte.md : List (Nat × List Md) := []
noncomputable def impl_digitByte.F : Fun := ⟨(Go.Proofs.Tryz.f105.body).getD .skip, [.v (.int .u8)], [(.tmp 2, .bool)], [], 0, []⟩
inductive impl_digitByte.Pt where
  | p0 (a0 : Int)
def impl_digitByte.lb : impl_digitByte.Pt → Nat
  | .p0 _ => 0
def impl_digitByte.st : impl_digitByte.Pt → St
  | .p0 a0 => enter [.v (.int .u8) a0] 0
def impl_digitByte.step (n : Nat) (K : impl_digitByte.Pt → Option (Tup [.bool])) : impl_digitByte.Pt → Option (Tup [.bool])
  | .p0 a0 => cond (decide ((48 : Int) ≤ a0)) (some (decide (a0 ≤ (57 : Int)))) (some false)
def impl_digitByte (n : Nat) (a0 : Int) : Option (Tup [.bool]) := goRec impl_digitByte.step n (.p0 a0)
def impl_digitByte.spec : Ctr := ⟨105, [.v (.int .u8)], [.bool], [], none, fun n x => impl_digitByte n x.1⟩
theorem impl_digitByte.seg_eq : SegEq tyN gl impl_digitByte.F impl_digitByte.md impl_digitByte.T impl_digitByte.spec impl_digitByte.lb impl_digitByte.st impl_digitByte.step := by
  intro n goto y; cases y <;> kernel_rfl
theorem impl_digitByte.text : Text Go.Proofs.Tryz.prog impl_digitByte.F impl_digitByte.spec := textOf Go.Proofs.Tryz.f105
theorem impl_digitByte.ok : CtrOK Go.Proofs.Tryz.prog gl impl_digitByte.spec :=
  ctr_okS tabsN impl_digitByte.text impl_digitByte.seg_eq (fun n x => ⟨.p0 x.1, rfl, rfl, rfl⟩) (nilC)

/-! loop.example/g00039/impl.letterByte -/
def impl_letterByte.T : List Ctr := []
def impl_letterByte.md : List (Nat × List Md) := []
noncomputable def impl_letterByte.F : Fun := ⟨(Go.Proofs.Tryz.f145.body).getD .skip, [.v (.int .u8)], [(.tmp 2, .bool)], [], 0, []⟩
inductive impl_letterByte.Pt where
  | p0 (a0 : Int)
def impl_letterByte.lb : impl_letterByte.Pt → Nat
  | .p0 _ => 0
def impl_letterByte.st : impl_letterByte.Pt → St
  | .p0 a0 => enter [.v (.int .u8) a0] 0
def impl_letterByte.step (n : Nat) (K : impl_letterByte.Pt → Option (Tup [.bool])) : impl_letterByte.Pt → Option (Tup [.bool])
  | .p0 a0 => cond (decide ((97 : Int) ≤ a0)) (cond (decide (a0 ≤ (122 : Int))) (some true) (cond (decide ((65 : Int) ≤ a0)) (some (decide (a0 ≤ (90 : Int)))) (some false))) (cond (decide ((65 : Int) ≤ a0)) (some (decide (a0 ≤ (90 : Int)))) (some false))
def impl_letterByte (n : Nat) (a0 : Int) : Option (Tup [.bool]) := goRec impl_letterByte.step n (.p0 a0)
def impl_letterByte.spec : Ctr := ⟨145, [.v (.int .u8)], [.bool], [], none, fun n x => impl_letterByte n x.1⟩
theorem impl_letterByte.seg_eq : SegEq tyN gl impl_letterByte.F impl_letterByte.md impl_letterByte.T impl_letterByte.spec impl_letterByte.lb impl_letterByte.st impl_letterByte.step := by
  intro n goto y; cases y <;> kernel_rfl
theorem impl_letterByte.text : Text Go.Proofs.Tryz.prog impl_letterByte.F impl_letterByte.spec := textOf Go.Proofs.Tryz.f145
theorem impl_letterByte.ok : CtrOK Go.Proofs.Tryz.prog gl impl_letterByte.spec :=
  ctr_okS tabsN impl_letterByte.text impl_letterByte.seg_eq (fun n x => ⟨.p0 x.1, rfl, rfl, rfl⟩) (nilC)

/-! loop.example/g00039/impl.wordByte -/
def impl_wordByte.T : List Ctr := [impl_digitByte.spec, impl_letterByte.spec]
def impl_wordByte.md : List (Nat × List Md) := []
noncomputable def impl_wordByte.F : Fun := ⟨(Go.Proofs.Tryz.f106.body).getD .skip, [.v (.int .u8)], [(.tmp 2, .bool)], [], 0, []⟩
inductive impl_wordByte.Pt where
  | p0 (a0 : Int)
def impl_wordByte.lb : impl_wordByte.Pt → Nat
  | .p0 _ => 0
def impl_wordByte.st : impl_wordByte.Pt → St
  | .p0 a0 => enter [.v (.int .u8) a0] 0
def impl_wordByte.step (n : Nat) (K : impl_wordByte.Pt → Option (Tup [.bool])) : impl_wordByte.Pt → Option (Tup [.bool])
  | .p0 a0 => (impl_letterByte n a0).bind fun r4 => cond r4 (some true) ((impl_digitByte n a0).bind fun r5 => cond r5 (some true) (some (decide (a0 = (95 : Int)))))
def impl_wordByte (n : Nat) (a0 : Int) : Option (Tup [.bool]) := goRec impl_wordByte.step n (.p0 a0)
def impl_wordByte.spec : Ctr := ⟨106, [.v (.int .u8)], [.bool], [], none, fun n x => impl_wordByte n x.1⟩
theorem impl_wordByte.seg_eq : SegEq tyN gl impl_wordByte.F impl_wordByte.md impl_wordByte.T impl_wordByte.spec impl_wordByte.lb impl_wordByte.st impl_wordByte.step := by
  intro n goto y; cases y <;> kernel_rfl
theorem impl_wordByte.text : Text Go.Proofs.Tryz.prog impl_wordByte.F impl_wordByte.spec := textOf Go.Proofs.Tryz.f106
theorem impl_wordByte.ok : CtrOK Go.Proofs.Tryz.prog gl impl_wordByte.spec :=
  ctr_okS tabsN impl_wordByte.text impl_wordByte.seg_eq (fun n x => ⟨.p0 x.1, rfl, rfl, rfl⟩) (consC impl_digitByte.ok (consC impl_letterByte.ok (nilC)))

/-! loop.example/g00039/impl.isName -/
def impl_isName.T : List Ctr := [impl_digitByte.spec, impl_wordByte.spec]
def impl_isName.md : List (Nat × List Md) := []
noncomputable def impl_isName.F : Fun := ⟨(Go.Proofs.Tryz.f66.body).getD .skip, [.v .str], [(.tmp 2, .bool)], [], 0, [(4, ⟨[0, 15], [], [], false⟩), (15, ⟨[0, 17, 18], [], [], false⟩)]⟩
inductive impl_isName.Pt where
  | p0 (a0 : ByteArray)
  | p4 (y1 : ByteArray) (y2 : Bool)
  | p15 (y1 : ByteArray) (y2 : Int) (y3 : Int)
def impl_isName.lb : impl_isName.Pt → Nat
  | .p0 _ => 0
  | .p4 _ _ => 4
  | .p15 _ _ _ => 15
def impl_isName.st : impl_isName.Pt → St
  | .p0 a0 => enter [.v .str a0] 0
  | .p4 y1 y2 => ⟨[(0, .im .str y1), (15, .im .bool y2)], [], 0⟩
  | .p15 y1 y2 y3 => ⟨[(0, .im .str y1), (17, .im (.int .i64) y2), (18, .im (.int .i64) y3)], [], 0⟩
def impl_isName.step (n : Nat) (K : impl_isName.Pt → Option (Tup [.bool])) : impl_isName.Pt → Option (Tup [.bool])
  | .p0 a0 => cond (seq a0 (⟨#[]⟩ : ByteArray)) (K (.p4 a0 true)) (cond (decide ((40 : Int) < ((ByteArray.size a0) : Int))) (K (.p4 a0 true)) (cond (inB (0 : Int) (ByteArray.size a0)) ((impl_digitByte n (bt a0 (0 : Int))).bind fun r4 => K (.p4 a0 r4)) (none)))
  | .p4 y1 y2 => cond y2 (some false) (K (.p15 y1 ((ByteArray.size y1) : Int) (0 : Int)))
  | .p15 y1 y2 y3 => cond (decide (y3 < y2)) (cond (inB y3 (ByteArray.size y1)) ((impl_wordByte n (bt y1 y3)).bind fun r6 => cond (!r6) (some false) (K (.p15 y1 y2 (IntKind.wrap .i64 (y3 + (1 : Int)))))) (none)) (some true)
def impl_isName (n : Nat) (a0 : ByteArray) : Option (Tup [.bool]) := goRec impl_isName.step n (.p0 a0)
def impl_isName.spec : Ctr := ⟨66, [.v .str], [.bool], [], none, fun n x => impl_isName n x.1⟩
theorem impl_isName.seg_eq : SegEq tyN gl impl_isName.F impl_isName.md impl_isName.T impl_isName.spec impl_isName.lb impl_isName.st impl_isName.step := by
  intro n goto y; cases y <;> kernel_rfl
theorem impl_isName.text : Text Go.Proofs.Tryz.prog impl_isName.F impl_isName.spec := textOf Go.Proofs.Tryz.f66
theorem impl_isName.ok : CtrOK Go.Proofs.Tryz.prog gl impl_isName.spec :=
  ctr_okS tabsN impl_isName.text impl_isName.seg_eq (fun n x => ⟨.p0 x.1, rfl, rfl, rfl⟩) (consC impl_digitByte.ok (consC impl_wordByte.ok (nilC)))

/-! loop.example/g00039/impl.Functions -/
def impl_Functions.T : List Ctr := []
def impl_Functions.md : List (Nat × List Md) := []
noncomputable def impl_Functions.F : Fun := ⟨(Go.Proofs.Tryz.f135.body).getD .skip, [], [(.tmp 0, (.sl false .str))], [], 0, []⟩
inductive impl_Functions.Pt where
  | p0
def impl_Functions.lb : impl_Functions.Pt → Nat
  | .p0 => 0
def impl_Functions.st : impl_Functions.Pt → St
  | .p0 => enter [] 0
def impl_Functions.step (n : Nat) (K : impl_Functions.Pt → Option (Tup [(.sl false .str)])) : impl_Functions.Pt → Option (Tup [(.sl false .str)])
  | .p0 => some [(⟨#[97, 98, 115]⟩ : ByteArray), (⟨#[97, 98, 115, 101, 110, 116]⟩ : ByteArray), (⟨#[97, 118, 103, 95, 111, 118, 101, 114]⟩ : ByteArray), (⟨#[99, 104, 97, 110, 103, 101, 115]⟩ : ByteArray), (⟨#[99, 108, 97, 109, 112]⟩ : ByteArray), (⟨#[99, 111, 117, 110, 116, 95, 111, 118, 101, 114]⟩ : ByteArray), (⟨#[100, 101, 108, 116, 97]⟩ : ByteArray), (⟨#[104, 105, 115, 116, 95, 113, 117, 97, 110, 116, 105, 108, 101]⟩ : ByteArray), (⟨#[108, 97, 98, 101, 108, 95, 106, 111, 105, 110]⟩ : ByteArray), (⟨#[108, 97, 98, 101, 108, 95, 115, 101, 116]⟩ : ByteArray), (⟨#[108, 97, 115, 116, 95, 111, 118, 101, 114]⟩ : ByteArray), (⟨#[109, 97, 120, 95, 111, 118, 101, 114]⟩ : ByteArray), (⟨#[109, 105, 110, 95, 111, 118, 101, 114]⟩ : ByteArray), (⟨#[112, 114, 101, 100, 105, 99, 116]⟩ : ByteArray), (⟨#[113, 117, 97, 110, 116, 105, 108, 101, 95, 111, 118, 101, 114]⟩ : ByteArray), (⟨#[114, 97, 116, 101]⟩ : ByteArray), (⟨#[114, 101, 115, 101, 116, 115]⟩ : ByteArray), (⟨#[114, 105, 115, 101]⟩ : ByteArray), (⟨#[115, 99, 97, 108, 97, 114]⟩ : ByteArray), (⟨#[115, 117, 109, 95, 111, 118, 101, 114]⟩ : ByteArray), (⟨#[116, 105, 109, 101]⟩ : ByteArray), (⟨#[116, 105, 109, 101, 115, 116, 97, 109, 112]⟩ : ByteArray), (⟨#[118, 101, 99, 116, 111, 114]⟩ : ByteArray)]
def impl_Functions (n : Nat) : Option (Tup [(.sl false .str)]) := goRec impl_Functions.step n (.p0)
def impl_Functions.spec : Ctr := ⟨135, [], [(.sl false .str)], [], none, fun n x => impl_Functions n⟩
theorem impl_Functions.seg_eq : SegEq tyN gl impl_Functions.F impl_Functions.md impl_Functions.T impl_Functions.spec impl_Functions.lb impl_Functions.st impl_Functions.step := by
  intro n goto y; cases y <;> kernel_rfl
theorem impl_Functions.text : Text Go.Proofs.Tryz.prog impl_Functions.F impl_Functions.spec := textOf Go.Proofs.Tryz.f135
theorem impl_Functions.ok : CtrOK Go.Proofs.Tryz.prog gl impl_Functions.spec :=
  ctr_okS tabsN impl_Functions.text impl_Functions.seg_eq (fun n x => ⟨.p0, rfl, rfl, rfl⟩) (nilC)

/-! slices.Index[[]string,string] -/
def slices_Index_string.T : List Ctr := []
def slices_Index_string.md : List (Nat × List Md) := []
noncomputable def slices_Index_string.F : Fun := ⟨(Go.Proofs.Tryz.f152.body).getD .skip, [.v (.sl false .str), .v .str], [(.tmp 4, (.int .i64))], [], 0, [(7, ⟨[0, 1, 7, 8], [], [], false⟩)]⟩
inductive slices_Index_string.Pt where
  | p0 (a0 : List (ByteArray)) (a1 : ByteArray)
  | p7 (y1 : List (ByteArray)) (y2 : ByteArray) (y3 : Int) (y4 : Int)
def slices_Index_string.lb : slices_Index_string.Pt → Nat
  | .p0 _ _ => 0
  | .p7 _ _ _ _ => 7
def slices_Index_string.st : slices_Index_string.Pt → St
  | .p0 a0 a1 => enter [.v (.sl false .str) a0, .v .str a1] 0
  | .p7 y1 y2 y3 y4 => ⟨[(0, .im (.sl false .str) y1), (1, .im .str y2), (7, .im (.int .i64) y3), (8, .im (.int .i64) y4)], [], 0⟩
def slices_Index_string.step (n : Nat) (K : slices_Index_string.Pt → Option (Tup [(.int .i64)])) : slices_Index_string.Pt → Option (Tup [(.int .i64)])
  | .p0 a0 a1 => K (.p7 a0 a1 ((List.length a0) : Int) (0 : Int))
  | .p7 y1 y2 y3 y4 => cond (decide (y4 < y3)) (cond (inB y4 (List.length y1)) (cond (seq y2 (List.getD y1 (Int.toNat y4) default)) (some y4) (K (.p7 y1 y2 y3 (IntKind.wrap .i64 (y4 + (1 : Int)))))) (none)) (some (-(1 : Int)))
def slices_Index_string (n : Nat) (a0 : List (ByteArray)) (a1 : ByteArray) : Option (Tup [(.int .i64)]) := goRec slices_Index_string.step n (.p0 a0 a1)
def slices_Index_string.spec : Ctr := ⟨152, [.v (.sl false .str), .v .str], [(.int .i64)], [], none, fun n x => slices_Index_string n x.1 x.2.1⟩
theorem slices_Index_string.seg_eq : SegEq ty gl slices_Index_string.F slices_Index_string.md slices_Index_string.T slices_Index_string.spec slices_Index_string.lb slices_Index_string.st slices_Index_string.step := by
  intro n goto y; cases y <;> kernel_rfl
theorem slices_Index_string.text : Text Go.Proofs.Tryz.prog slices_Index_string.F slices_Index_string.spec := textOf Go.Proofs.Tryz.f152
theorem slices_Index_string.ok : CtrOK Go.Proofs.Tryz.prog gl slices_Index_string.spec :=
  ctr_okS tabs slices_Index_string.text slices_Index_string.seg_eq (fun n x => ⟨.p0 x.1 x.2.1, rfl, rfl, rfl⟩) (nilC)

/-! slices.Contains[[]string,string] -/
def slices_Contains_string.T : List Ctr := [slices_Index_string.spec]
def slices_Contains_string.md : List (Nat × List Md) := []
noncomputable def slices_Contains_string.F : Fun := ⟨(Go.Proofs.Tryz.f128.body).getD .skip, [.v (.sl false .str), .v .str], [(.tmp 4, .bool)], [], 0, []⟩
inductive slices_Contains_string.Pt where
  | p0 (a0 : List (ByteArray)) (a1 : ByteArray)
def slices_Contains_string.lb : slices_Contains_string.Pt → Nat
  | .p0 _ _ => 0
def slices_Contains_string.st : slices_Contains_string.Pt → St
  | .p0 a0 a1 => enter [.v (.sl false .str) a0, .v .str a1] 0
def slices_Contains_string.step (n : Nat) (K : slices_Contains_string.Pt → Option (Tup [.bool])) : slices_Contains_string.Pt → Option (Tup [.bool])
  | .p0 a0 a1 => (slices_Index_string n a0 a1).bind fun (r5 : Int) => some (decide ((0 : Int) ≤ r5))
def slices_Contains_string (n : Nat) (a0 : List (ByteArray)) (a1 : ByteArray) : Option (Tup [.bool]) := goRec slices_Contains_string.step n (.p0 a0 a1)
def slices_Contains_string.spec : Ctr := ⟨128, [.v (.sl false .str), .v .str], [.bool], [], none, fun n x => slices_Contains_string n x.1 x.2.1⟩
theorem slices_Contains_string.seg_eq : SegEq ty gl slices_Contains_string.F slices_Contains_string.md slices_Contains_string.T slices_Contains_string.spec slices_Contains_string.lb slices_Contains_string.st slices_Contains_string.step := by
  intro n goto y; cases y <;> kernel_rfl
theorem slices_Contains_string.text : Text Go.Proofs.Tryz.prog slices_Contains_string.F slices_Contains_string.spec := textOf Go.Proofs.Tryz.f128
theorem slices_Contains_string.ok : CtrOK Go.Proofs.Tryz.prog gl slices_Contains_string.spec :=
  ctr_okS tabs slices_Contains_string.text slices_Contains_string.seg_eq (fun n x => ⟨.p0 x.1 x.2.1, rfl, rfl, rfl⟩) (consC slices_Index_string.ok (nilC))

/-! loop.example/g00039/impl.isFunction -/
def impl_isFunction.T : List Ctr := [impl_Functions.spec, slices_Contains_string.spec]
def impl_isFunction.md : List (Nat × List Md) := []
noncomputable def impl_isFunction.F : Fun := ⟨(Go.Proofs.Tryz.f93.body).getD .skip, [.v .str], [(.tmp 2, .bool)], [], 0, []⟩
inductive impl_isFunction.Pt where
  | p0 (a0 : ByteArray)
def impl_isFunction.lb : impl_isFunction.Pt → Nat
  | .p0 _ => 0
def impl_isFunction.st : impl_isFunction.Pt → St
  | .p0 a0 => enter [.v .str a0] 0
def impl_isFunction.step (n : Nat) (K : impl_isFunction.Pt → Option (Tup [.bool])) : impl_isFunction.Pt → Option (Tup [.bool])
  | .p0 a0 => (impl_Functions n).bind fun r4 => (slices_Contains_string n r4 a0).bind fun r5 => some r5
def impl_isFunction (n : Nat) (a0 : ByteArray) : Option (Tup [.bool]) := goRec impl_isFunction.step n (.p0 a0)
def impl_isFunction.spec : Ctr := ⟨93, [.v .str], [.bool], [], none, fun n x => impl_isFunction n x.1⟩
theorem impl_isFunction.seg_eq : SegEq tyN gl impl_isFunction.F impl_isFunction.md impl_isFunction.T impl_isFunction.spec impl_isFunction.lb impl_isFunction.st impl_isFunction.step := by
  intro n goto y; cases y <;> kernel_rfl
theorem impl_isFunction.text : Text Go.Proofs.Tryz.prog impl_isFunction.F impl_isFunction.spec := textOf Go.Proofs.Tryz.f93
theorem impl_isFunction.ok : CtrOK Go.Proofs.Tryz.prog gl impl_isFunction.spec :=
  ctr_okS tabsN impl_isFunction.text impl_isFunction.seg_eq (fun n x => ⟨.p0 x.1, rfl, rfl, rfl⟩) (consC impl_Functions.ok (consC slices_Contains_string.ok (nilC)))

/-! loop.example/g00039/impl.isWord -/
def impl_isWord.T : List Ctr := [slices_Contains_string.spec, impl_isFunction.spec]
def impl_isWord.md : List (Nat × List Md) := []
noncomputable def impl_isWord.F : Fun := ⟨(Go.Proofs.Tryz.f87.body).getD .skip, [.v .str], [(.tmp 2, .bool)], [], 0, []⟩
inductive impl_isWord.Pt where
  | p0 (a0 : ByteArray)
def impl_isWord.lb : impl_isWord.Pt → Nat
  | .p0 _ => 0
def impl_isWord.st : impl_isWord.Pt → St
  | .p0 a0 => enter [.v .str a0] 0
def impl_isWord.step (n : Nat) (K : impl_isWord.Pt → Option (Tup [.bool])) : impl_isWord.Pt → Option (Tup [.bool])
  | .p0 a0 => (impl_isFunction n a0).bind fun r4 => cond r4 (some true) ((slices_Contains_string n [(⟨#[97, 110, 100]⟩ : ByteArray), (⟨#[97, 118, 103]⟩ : ByteArray), (⟨#[98, 111, 111, 108]⟩ : ByteArray), (⟨#[98, 111, 116, 116, 111, 109, 107]⟩ : ByteArray), (⟨#[98, 121]⟩ : ByteArray), (⟨#[99, 111, 117, 110, 116]⟩ : ByteArray), (⟨#[103, 114, 111, 117, 112, 95, 108, 101, 102, 116]⟩ : ByteArray), (⟨#[103, 114, 111, 117, 112, 95, 114, 105, 103, 104, 116]⟩ : ByteArray), (⟨#[105, 103, 110, 111, 114, 105, 110, 103]⟩ : ByteArray), (⟨#[109, 97, 120]⟩ : ByteArray), (⟨#[109, 105, 110]⟩ : ByteArray), (⟨#[111, 102, 102, 115, 101, 116]⟩ : ByteArray), (⟨#[111, 110]⟩ : ByteArray), (⟨#[111, 114]⟩ : ByteArray), (⟨#[113, 117, 97, 110, 116, 105, 108, 101]⟩ : ByteArray), (⟨#[115, 117, 109]⟩ : ByteArray), (⟨#[116, 111, 112, 107]⟩ : ByteArray), (⟨#[117, 110, 108, 101, 115, 115]⟩ : ByteArray), (⟨#[119, 105, 116, 104, 111, 117, 116]⟩ : ByteArray)] a0).bind fun r5 => some r5)
def impl_isWord (n : Nat) (a0 : ByteArray) : Option (Tup [.bool]) := goRec impl_isWord.step n (.p0 a0)
def impl_isWord.spec : Ctr := ⟨87, [.v .str], [.bool], [], none, fun n x => impl_isWord n x.1⟩
theorem impl_isWord.seg_eq : SegEq tyN gl impl_isWord.F impl_isWord.md impl_isWord.T impl_isWord.spec impl_isWord.lb impl_isWord.st impl_isWord.step := by
  intro n goto y; cases y <;> kernel_rfl
theorem impl_isWord.text : Text Go.Proofs.Tryz.prog impl_isWord.F impl_isWord.spec := textOf Go.Proofs.Tryz.f87
theorem impl_isWord.ok : CtrOK Go.Proofs.Tryz.prog gl impl_isWord.spec :=
  ctr_okS tabsN impl_isWord.text impl_isWord.seg_eq (fun n x => ⟨.p0 x.1, rfl, rfl, rfl⟩) (consC slices_Contains_string.ok (consC impl_isFunction.ok (nilC)))

/-! strings.IndexByte -/
def strings_IndexByte (n : Nat) (a0 : ByteArray) (a1 : Int) : Option Int := hold n (some (Lib.indexByte a0.data.toList a1.toNat.toUInt8))
def strings_IndexByte.spec : Ctr := ⟨165, [.v .str, .v (.int .u8)], [.int .i64], [], none, fun n x => strings_IndexByte n x.1 x.2.1⟩
section
open Go.Proofs
def layIndexByte_ren : Go.Shelf.Ren := ⟨fun | 137 => 165 | 217 => 166 | 266 => 167 | n => n, fun | 9 => 9 | 5 => 5 | 3 => 3 | n => n, fun | n => n⟩
theorem layIndexByte : Go.Proofs.Lays.n137 Tryz.prog layIndexByte_ren where
  mixed := by kernel_rfl
  f137 := Tryz.func165.trans (congrArg some (by kernel_rfl))
  f217 := Tryz.func166.trans (congrArg some (by kernel_rfl))
  f266 := Tryz.func167.trans (congrArg some (by kernel_rfl))
  t3 := Tryz.underlying3
  a3 := Tryz.isAgg3
  z3 := Tryz.sizeOf3
  v3 := Tryz.zeroValue3
  t5 := Tryz.underlying5
  a5 := Tryz.isAgg5
  z5 := Tryz.sizeOf5
  v5 := Tryz.zeroValue5
  t9 := Tryz.underlying9
  a9 := Tryz.isAgg9
  z9 := Tryz.sizeOf9
  v9 := Tryz.zeroValue9

end
theorem strings_IndexByte.ok : CtrOK Go.Proofs.Tryz.prog gl strings_IndexByte.spec := by
  refine fun n => ⟨⟨Go.Proofs.Tryz.f165, by kernel_rfl, by kernel_rfl, by decide +kernel⟩, ?_⟩
  intro inst
  rintro ⟨a0, a1, ⟨⟩⟩ y hy
  obtain rfl := Option.some.inj (hold_some hy)
  intro w vs S L harg _ hL hSL hG
  change ArgsRep w [Arg.v .str a0, Arg.v (.int .u8) a1] vs S L at harg
  unfold ArgsRep at harg
  obtain ⟨v0, vr, S1, S2, L1, L2, rfl, rfl, rfl, h1, harg⟩ := harg
  unfold ArgsRep at harg
  obtain ⟨v1, vr, S3, S4, L3, L4, rfl, rfl, rfl, h2, harg⟩ := harg
  unfold ArgsRep at harg
  obtain ⟨rfl, rfl, rfl⟩ := harg
  unfold ArgRep at h1 h2
  obtain ⟨_, ⟨cs, rfl, rfl, rfl⟩, rfl⟩ := h1
  obtain ⟨_, ⟨cs, rfl, rfl, rfl⟩, rfl⟩ := h2
  refine (Go.Proofs.Any.strings_IndexByte layIndexByte a0 a1 w).mono ?_
  rintro e w' ⟨rfl, rfl⟩
  refine ⟨[.int .i64 (Lib.indexByte a0.data.toList a1.toNat.toUInt8)], [], [], rfl, ⟨_, [], [], [], rfl, rfl, rfl, ⟨rfl, rfl⟩, rfl, rfl⟩, ?_, by simp, by simp, rfl, rfl, rfl, Nat.le_refl _, fun _ _ _ => rfl⟩
  change OutsRep _ w' [Arg.v .str a0, Arg.v (.int .u8) a1] _ _ _
  simp only [OutsRep, OutRep]
  exact ⟨_, _, [], [], [], [], rfl, rfl, rfl, ⟨rfl, rfl⟩, _, _, [], [], [], [], rfl, rfl, rfl, ⟨rfl, rfl⟩, rfl, rfl⟩


/-! loop.example/g00039/impl.alternatives$1 -/
abbrev PC : U := .pair (.int .u8) (.pair .bool (.pair .bool .unit))
def impl_alternatives_1 (n : Nat) (a0 : PC.El) (a1 : List (List PC.El)) : Option (List (List PC.El)) :=
  hold n (cond (decide (a1 ≠ [] ∧ a1.length ≤ 1000000 ∧ (a1.getD (a1.length - 1) []).length ≤ 1000000)) (some (a1.set (a1.length - 1) (a1.getD (a1.length - 1) [] ++ [a0]))) none)
def impl_alternatives_1.spec : Ctr := ⟨164, [.v PC, .p (.sl false (.sl false PC))], [], [.sl false (.sl false PC)], none, fun n x => impl_alternatives_1 n x.1 x.2.1⟩
section
open Go.RowKit Go.Proofs
set_option maxHeartbeats 8000000 in
set_option maxRecDepth 100000 in
theorem put_calls (ht : TyOK Tryz.prog 183 (.sl false PC)) (c : Int) (x y : Bool) (b g q cap : Nat) (cur : Array Value) (v : Value) (l : List PC.El) (T1 T2 : TypeId) (fz : Nat × Nat) (F2 : List Nat) (W : World)
    (hb : W.heap[b]? = some (.cells #[.slice (some ⟨g, 0, none⟩) (q + 1) cap] T1 (0, 0))) (hg : W.heap[g]? = some (.cells cur T2 fz)) (hfz : ∀ j, j < cur.size → ¬ (fz.1 ≤ j ∧ j < fz.2))
    (hn2 : q ≤ 1000000) (hv : cur[q]? = some v) (hs : SlRep W true false 3 (Rep W true PC) l v F2) (hF2 : F2.Nodup) (hbF : b ∉ F2) (hgF : g ∉ F2) (hbg : b ≠ g) (hl : l.length ≤ 1000000) :
    Calls Tryz.prog 164 #[.agg #[.int .u8 c, .bool x, .bool y], .pointer (some ⟨b, 0, none⟩)] W fun e w' => e = .returned (.tuple #[]) ∧ ∃ v1 F3,
      SlRep w' true false 3 (Rep w' true PC) (l ++ [(c, x, y, ())]) v1 F3 ∧ F3.Nodup ∧ w'.heap[g]? = some (.cells (cur.setIfInBounds q v1) T2 fz) ∧ w'.os = W.os ∧ w'.tape = W.tape ∧ w'.output = W.output ∧ W.heap.size ≤ w'.heap.size ∧
      (∀ k, k < W.heap.size → k ≠ g → k ∉ F2 → w'.heap[k]? = W.heap[k]?) ∧ (∀ k ∈ F3, k < w'.heap.size ∧ (k < W.heap.size → k ∈ F2)) := by
  have e1 : wrap64 (((q + 1 : Nat) : Int) - 1) = (q : Int) := by unfold wrap64; omega
  have e2 : wrap64 (q : Int) = (q : Int) := by unfold wrap64; omega
  have hlt := lt_of_heap hb
  have hltg := lt_of_heap hg
  have hqs : q < cur.size := by
    rcases Nat.lt_or_ge q cur.size with h | h
    · exact h
    · rw [Array.getElem?_eq_none h] at hv; cases hv
  go_enter Tryz.func164, Tryz.ntmps164
  go_wp2
  have hbx : (W.alloc (.cells #[.int .u8 c, .bool x, .bool y] 182)).drew.heap[W.heap.size]? = some (.cells #[.int .u8 c, .bool x, .bool y] 182 (0, 0)) := alloc_new W _
  have hold : ∀ k, k < W.heap.size → (W.alloc (.cells #[.int .u8 c, .bool x, .bool y] 182)).drew.heap[k]? = W.heap[k]? := fun k hk => alloc_old W _ hk
  have hb1 := (hold b hlt).trans hb
  have hg1 := (hold g hltg).trans hg
  have hsz1 : (W.alloc (.cells #[.int .u8 c, .bool x, .bool y] 182)).drew.heap.size = W.heap.size + 1 := alloc_sz _ _
  have hFlt : ∀ k ∈ F2, k < W.heap.size := fun k hk => Rep.block_lt (u := .sl false PC) (cs := [v]) ⟨v, rfl, .inl hs⟩ k hk
  have hs1 : SlRep (W.alloc (.cells #[.int .u8 c, .bool x, .bool y] 182)).drew true false 3 (Rep (W.alloc (.cells #[.int .u8 c, .bool x, .bool y] 182)).drew true PC) l v F2 := SlRep.frame (u := PC) (fun k hk => hold k (hFlt k hk)) hs
  have hos1 : (W.alloc (.cells #[.int .u8 c, .bool x, .bool y] 182)).drew.os = W.os ∧ (W.alloc (.cells #[.int .u8 c, .bool x, .bool y] 182)).drew.tape = W.tape ∧ (W.alloc (.cells #[.int .u8 c, .bool x, .bool y] 182)).drew.output = W.output := ⟨rfl, rfl, rfl⟩
  refine start_ (n := 15) (S := fun w' => w'.cell? ⟨b, 0, none⟩ = some (.slice (some ⟨g, 0, none⟩) (q + 1) cap) ∧ w'.cell? ⟨g, q, none⟩ = some v ∧ w'.cell? ⟨W.heap.size, 0, none⟩ = some (.int .u8 c) ∧ w'.cell? ⟨W.heap.size, 1, none⟩ = some (.bool x) ∧ w'.cell? ⟨W.heap.size, 2, none⟩ = some (.bool y)) (ds := [14]) #[false, false, false, false, false, false, false, false, false, false, false, false, false, false, false] (by kernel_rfl) rfl rfl ⟨(cell_row hb1).trans rfl, (cell_row hg1).trans hv, (cell_row hbx).trans rfl, (cell_row hbx).trans rfl, (cell_row hbx).trans rfl⟩ (fun hHeld => ?_)
  generalize (W.alloc (.cells #[.int .u8 c, .bool x, .bool y] 182)).drew = W1 at hold hsz1 hbx hb1 hg1 hs1 hos1 hHeld ⊢
  refine take_ (i := 0) (N := some 3) (v := ?_) (a' := ?_) #[true, false, false, false, false, false, false, false, false, false, false, false, false, false, false] rfl rfl (by kernel_rfl) (fun _ _ _ h => h) (Or.inl ⟨by rfl, ?_⟩) hHeld ?_ ?_
  rotate_left
  · rintro w' ⟨s0, s1, s2, s3, s4⟩
    go_simp
    try with_reducible rfl
  rotate_left
  · simp only [Act.put, List.setIfInBounds_toArray, List.set_cons_zero, List.set_cons_succ, i64_w, i32_w]
    rfl
  refine take_ (i := 1) (N := some 4) (v := ?_) (a' := ?_) #[true, true, false, false, false, false, false, false, false, false, false, false, false, false, false] rfl rfl (by kernel_rfl) (fun _ _ _ h => h) (Or.inl ⟨by rfl, ?_⟩) hHeld ?_ ?_
  rotate_left
  · rintro w' ⟨s0, s1, s2, s3, s4⟩
    go_simp
    try with_reducible rfl
  rotate_left
  · simp only [Act.put, List.setIfInBounds_toArray, List.set_cons_zero, List.set_cons_succ, i64_w, i32_w]
    rfl
  refine pure_ (i := 2) (N := some 5) (v := ?_) (a' := ?_) #[true, true, true, false, false, false, false, false, false, false, false, false, false, false, false] rfl rfl (by kernel_rfl) (fun _ _ _ h => h) (Or.inl ⟨by rfl, ?_⟩) ?_ ?_
  rotate_left
  · intro w'
    go_simp
    try with_reducible rfl
  rotate_left
  · simp only [Act.put, List.setIfInBounds_toArray, List.set_cons_zero, List.set_cons_succ, i64_w, i32_w]
    rfl
  refine pure_ (i := 3) (N := some 6) (v := ?_) (a' := ?_) #[true, true, true, true, false, false, false, false, false, false, false, false, false, false, false] rfl rfl (by kernel_rfl) (fun _ _ _ h => h) (Or.inl ⟨by rfl, ?_⟩) ?_ ?_
  rotate_left
  · intro w'
    go_simp
    try with_reducible rfl
  rotate_left
  · simp only [Act.put, List.setIfInBounds_toArray, List.set_cons_zero, List.set_cons_succ, i64_w, i32_w]
    rfl
  refine take_ (i := 4) (N := some 7) (v := ?_) (a' := ?_) #[true, true, true, true, true, false, false, false, false, false, false, false, false, false, false] rfl rfl (by kernel_rfl) (fun _ _ _ h => h) (Or.inl ⟨by rfl, ?_⟩) hHeld ?_ ?_
  rotate_left
  · rintro w' ⟨s0, s1, s2, s3, s4⟩
    go_simp
    try with_reducible rfl
  rotate_left
  · simp only [Act.put, List.setIfInBounds_toArray, List.set_cons_zero, List.set_cons_succ, i64_w, i32_w]
    rfl
  refine take_ (i := 5) (N := some 8) (v := ?_) (a' := ?_) #[true, true, true, true, true, true, false, false, false, false, false, false, false, false, false] rfl rfl (by kernel_rfl) (fun _ _ _ h => h) (Or.inl ⟨by rfl, ?_⟩) hHeld ?_ ?_
  rotate_left
  · rintro w' ⟨s0, s1, s2, s3, s4⟩
    go_simp
    try with_reducible rfl
  rotate_left
  · simp only [Act.put, List.setIfInBounds_toArray, List.set_cons_zero, List.set_cons_succ, i64_w, i32_w]
    rfl
  refine pure_ (i := 6) (N := some 9) (v := ?_) (a' := ?_) #[true, true, true, true, true, true, true, false, false, false, false, false, false, false, false] rfl rfl (by kernel_rfl) (fun _ _ _ h => h) (Or.inl ⟨by rfl, ?_⟩) ?_ ?_
  rotate_left
  · intro w'
    go_simp
    try with_reducible rfl
  rotate_left
  · simp only [Act.put, List.setIfInBounds_toArray, List.set_cons_zero, List.set_cons_succ, i64_w, i32_w]
    rfl
  refine pure_ (i := 7) (N := some 10) (v := ?_) (a' := ?_) #[true, true, true, true, true, true, true, true, false, false, false, false, false, false, false] rfl rfl (by kernel_rfl) (fun _ _ _ h => h) (Or.inl ⟨by rfl, ?_⟩) ?_ ?_
  rotate_left
  · intro w'
    go_simp
    try with_reducible rfl
  rotate_left
  · simp only [Act.put, List.setIfInBounds_toArray, List.set_cons_zero, List.set_cons_succ, i64_w, i32_w]
    rfl
  refine pure_ (i := 8) (N := some 11) (v := ?_) (a' := ?_) #[true, true, true, true, true, true, true, true, true, false, false, false, false, false, false] rfl rfl (by kernel_rfl) (fun _ _ _ h => h) (Or.inl ⟨by rfl, ?_⟩) ?_ ?_
  rotate_left
  · intro w'
    go_simp
    rw [if_pos (by omega)]
  rotate_left
  · simp only [Act.put, List.setIfInBounds_toArray, List.set_cons_zero, List.set_cons_succ, i64_w, i32_w]
    rfl
  refine take_ (i := 9) (N := some 12) (v := ?_) (a' := ?_) #[true, true, true, true, true, true, true, true, true, true, false, false, false, false, false] rfl rfl (by kernel_rfl) (fun _ _ _ h => h) (Or.inl ⟨by rfl, ?_⟩) hHeld ?_ ?_
  rotate_left
  · rintro w' ⟨s0, s1, s2, s3, s4⟩
    go_simp
    try with_reducible rfl
  rotate_left
  · simp only [Act.put, List.setIfInBounds_toArray, List.set_cons_zero, List.set_cons_succ, i64_w, i32_w]
    rfl
  refine take_ (i := 10) (N := some 13) (v := ?_) (a' := ?_) #[true, true, true, true, true, true, true, true, true, true, true, false, false, false, false] rfl rfl (by kernel_rfl) (fun _ _ _ h => h) (Or.inl ⟨by rfl, ?_⟩) hHeld ?_ ?_
  rotate_left
  · rintro w' ⟨s0, s1, s2, s3, s4⟩
    go_simp
    try with_reducible rfl
  rotate_left
  · simp only [Act.put, List.setIfInBounds_toArray, List.set_cons_zero, List.set_cons_succ, i64_w, i32_w]
    rfl
  clear hHeld
  have hW2 : ∀ k, k < W1.heap.size → (W1.alloc (.cells #[.int .u8 c, .bool x, .bool y] 182)).heap[k]? = W1.heap[k]? := fun k hk => alloc_old W1 _ hk
  have hnew : (W1.alloc (.cells #[.int .u8 c, .bool x, .bool y] 182)).heap[W1.heap.size]? = some (.cells #[.int .u8 c, .bool x, .bool y] 182 (0, 0)) := alloc_new W1 _
  have hb2 := (hW2 b (lt_of_heap hb1)).trans hb1
  have hg2 := (hW2 g (lt_of_heap hg1)).trans hg1
  have hbx2 := (hW2 _ (lt_of_heap hbx)).trans hbx
  refine one_ (i := 11) (N := some 14) #[true, true, true, true, true, true, true, true, true, true, true, true, false, false, false] rfl rfl (by kernel_rfl) (by decide) (fun K hK => ?_)
  refine event_step (w1 := W1.alloc (.cells #[.int .u8 c, .bool x, .bool y] 182)) (v := .slice (some ⟨W1.heap.size, 0, none⟩) 1 1) (by rfl) (by first | (go_simp; done) | (go_simp; rfl)) ?_
  refine hK.out _ _ ⟨(cell_row hb2).trans rfl, (cell_row hg2).trans hv, (cell_row hbx2).trans rfl, (cell_row hbx2).trans rfl, (cell_row hbx2).trans rfl⟩ (fun hHeld => ?_)
  clear hK K hHeld
  refine norm_ (a' := ?_) ?_ ?_
  rotate_left
  · show Act.put _ (some 14) _ = _
    simp only [Act.put, List.setIfInBounds_toArray, List.set_cons_zero, List.set_cons_succ, i64_w, i32_w]
    rfl
  have hs2 : SlRep (W1.alloc (.cells #[.int .u8 c, .bool x, .bool y] 182)) true false 3 (Rep (W1.alloc (.cells #[.int .u8 c, .bool x, .bool y] 182)) true PC) l v F2 := SlRep.frame (u := PC) (fun k hk => hW2 k (by have := hFlt k hk; omega)) hs1
  obtain ⟨v1, w2, F3, hrun, hs3, hF3, ho1, ho2, ho3, hsz2, hfr, hF3b⟩ := append_run (P := Tryz.prog) (ty := 183) (t := 183) (e := false) (u := PC) (l := l) (m := [(c, x, y, ())]) (dd := ⟨W1.heap.size, 0, none⟩) (cs := [.int .u8 c, .bool x, .bool y]) ht rfl hs2 hF2
    ⟨[.int .u8 c, .bool x, .bool y], [], [], [], rfl, rfl, ⟨[.int .u8 c], [.bool x, .bool y], [], [], rfl, rfl, ⟨rfl, rfl⟩, [.bool x], [.bool y], [], [], rfl, rfl, ⟨rfl, rfl⟩, [.bool y], [], [], [], rfl, rfl, ⟨rfl, rfl⟩, rfl, rfl⟩, rfl, rfl⟩
    (cells_at (p := []) (q := []) rfl hnew rfl rfl) (by simp) (by simp; omega) 1
  have hsz3 : (W1.alloc (.cells #[.int .u8 c, .bool x, .bool y] 182)).heap.size = W1.heap.size + 1 := alloc_sz _ _
  refine one_ (i := 12) (N := some 15) #[true, true, true, true, true, true, true, true, true, true, true, true, true, false, false] rfl rfl (by kernel_rfl) (by decide) (fun K hK => ?_)
  refine event_step (w1 := w2) (v := v1) (by rfl) ?_ ?_
  · exact append_op (x := .tmp 12) (y := .tmp 14) (t := 183) rfl hrun
  have hb3 := (hfr b (by omega) hbF).trans hb2
  have hg3 := (hfr g (by omega) hgF).trans hg2
  have hbx3 := (hfr W.heap.size (by omega) (fun h => by have := hFlt _ h; omega)).trans hbx2
  refine hK.out _ _ ⟨(cell_row hb3).trans rfl, (cell_row hg3).trans hv, (cell_row hbx3).trans rfl, (cell_row hbx3).trans rfl, (cell_row hbx3).trans rfl⟩ (fun hHeld => ?_)
  clear hK K hHeld
  refine norm_ (a' := ?_) ?_ ?_
  rotate_left
  · show Act.put _ (some 15) _ = _
    simp only [Act.put, List.setIfInBounds_toArray, List.set_cons_zero, List.set_cons_succ, i64_w, i32_w]
    rfl
  refine pure_ (i := 13) (N := some 16) (v := ?_) (a' := ?_) #[true, true, true, true, true, true, true, true, true, true, true, true, true, true, false] rfl rfl (by kernel_rfl) (fun _ _ _ h => h) (Or.inl ⟨by rfl, ?_⟩) ?_ ?_
  rotate_left
  · intro w'
    go_simp
    rw [if_pos (by omega)]
  rotate_left
  · simp only [Act.put, List.setIfInBounds_toArray, List.set_cons_zero, List.set_cons_succ, i64_w, i32_w]
    rfl
  have hcq : w2.cell? ⟨g, q, none⟩ = some v := (cell_row hg3).trans hv
  have hfq : w2.frozen? ⟨g, q, none⟩ = false := frozen_row hg3 (hfz q hqs)
  obtain ⟨A1, n1, c1, e1'⟩ : ∃ A n c, v1 = Value.slice A n c := by
    rcases hs3 with ⟨h0, _⟩ | ⟨_, _, _, _, _, _, _, _, _, h0, _⟩ <;> exact ⟨_, _, _, h0⟩
  subst e1'
  refine last_ (i := 14) (N := none) #[true, true, true, true, true, true, true, true, true, true, true, true, true, true, true] rfl rfl (by kernel_rfl) (by decide) (fun K hK => ?_)
  refine skip_step (w1 := w2.setCell ⟨g, q, none⟩ (.slice A1 n1 c1)) (by rfl) rfl ?_ ?_
  · go_simp
  refine hK.out _ _ ?_
  clear hK K
  refine done_ (by kernel_rfl) ?_
  rw [setCell_put hg3]
  have hgF3 : g ∉ F3 := fun h => hgF ((hF3b g h).2 (by omega))
  have hoth : ∀ k, k ≠ g → (putB w2 g (.cells (cur.setIfInBounds q (.slice A1 n1 c1)) T2 fz)).heap[k]? = w2.heap[k]? := fun k hk => putB_other hk
  go_end0
  refine ⟨rfl, _, F3, SlRep.frame (u := PC) (fun k hk => hoth k (fun e => hgF3 (e ▸ hk))) hs3, hF3, putB_same (lt_of_heap hg3), ho1.trans hos1.1, ho2.trans hos1.2.1, ho3.trans hos1.2.2, by rw [putB_sz]; omega, ?_, ?_⟩
  · intro k hk hkg hkF
    rw [hoth k hkg, hfr k (by omega) hkF, hW2 k (by omega), hold k hk]
  · intro k hk
    have := hF3b k hk
    rw [putB_sz]
    exact ⟨this.1, fun h => this.2 (by omega)⟩
theorem impl_alternatives_1.ok : CtrOK Tryz.prog gl impl_alternatives_1.spec := by
  have ht : TyOK Tryz.prog 183 (.sl false PC) := tabs.ty _ _ (by kernel_rfl)
  intro n
  refine ⟨⟨Tryz.f164, by kernel_rfl, by kernel_rfl, by decide +kernel⟩, ?_⟩
  intro inst
  rintro ⟨x, out, ⟨⟩⟩ y hy
  obtain ⟨hc, hy⟩ := cond_none (hold_some hy)
  simp only [decide_eq_true_eq] at hc
  obtain ⟨hne, hlen, hlast⟩ := hc
  have hy : out.set (out.length - 1) (out.getD (out.length - 1) [] ++ [x]) = y := Option.some.inj hy
  subst hy
  intro w vs S L harg _ hL hSL hG
  change ArgsRep w [Arg.v PC x, Arg.p (.sl false (.sl false PC)) out] vs S L at harg
  unfold ArgsRep at harg
  obtain ⟨v0, vr, S1, S2, L1, L2, rfl, rfl, rfl, h1, harg⟩ := harg
  unfold ArgsRep at harg
  obtain ⟨v1, vr, S3, S4, L3, L4, rfl, rfl, rfl, h2, harg⟩ := harg
  unfold ArgsRep at harg
  obtain ⟨rfl, rfl, rfl⟩ := harg
  unfold ArgRep at h1 h2
  obtain ⟨_, ⟨cs, rfl, c1, d1, G1, H1, rfl, rfl, ⟨rfl, rfl⟩, c2, d2, G2, H2, rfl, rfl, ⟨rfl, rfl⟩, c3, d3, G3, H3, rfl, rfl, ⟨rfl, rfl⟩, rfl, rfl⟩, rfl⟩ := h1
  obtain ⟨_, rfl, b, c, T1, G, rfl, hw, ⟨v, hcv, hs⟩, rfl⟩ := h2
  have hs := hs.resolve_right bare_no
  rcases hs with ⟨_, h0, _⟩ | ⟨ad, cap, cc, T2, fz, p, m, q, G0, rfl, hsp, _, hcap, hh, hcc, hp, hr, rfl, how⟩
  · exact absurd h0 hne
  obtain ⟨hoff, hfz, hcsz, hcm⟩ := how rfl
  have hp0 : p = [] := List.eq_nil_of_length_eq_zero (by omega)
  subst hp0
  have hlp : 0 < out.length := List.length_pos_iff.2 hne
  obtain ⟨m1, m2, m3, F1, F2, F3, rfl, rfl, hm1, ⟨v2, rfl, hs2⟩, hr1, hr3, _⟩ := RepL.at (n := 1) (fun _ _ _ h => Rep.length h) ([] : List PC.El) (out.length - 1) hr (by omega)
  have hs2 := hs2.resolve_right bare_no
  simp only [List.nil_append, List.append_nil] at hL hcc ⊢
  have hblk : ad = ⟨ad.block, 0, none⟩ := by
    obtain ⟨a1, a2, a3⟩ := ad
    simp only at hoff hsp
    rw [hoff, hsp]
  generalize ad.block = g at *
  subst hblk
  have hcarr : c = #[.slice (some ⟨g, 0, none⟩) (out.length - 1 + 1) cap] := by
    apply Array.toList_inj.1
    rw [hcv]
    simp; omega
  subst hcarr
  simp only [List.nodup_cons, List.nodup_append, List.mem_cons, List.mem_append, not_or] at hL
  obtain ⟨⟨hbg, ⟨hb1, hb2⟩, hb3⟩, ⟨⟨hg1, hg2⟩, hg3⟩, ⟨n1, n2, n12⟩, n3, n123⟩ := hL
  have hq1 : out.length - 1 < cc.size := by
    have := congrArg List.length hcc
    simp at this; omega
  have hcv2 : cc[out.length - 1]? = some v2 := by
    rw [← Array.getElem?_toList, hcc]
    simp [List.append_assoc, hm1, List.getElem?_append_right]
  have hput := put_calls ht x.1 x.2.1 x.2.2.1 b g (out.length - 1) cap cc v2 _ T1 T2 fz F2 w hw hh hfz (by omega) hcv2 hs2 n2 hb2 hg2 hbg hlast
  refine Calls.mono hput ?_
  rintro e w' ⟨rfl, v3, F4, hs3, hF4, hg', ho1, ho2, ho3, hsz, hfr, hF4b⟩
  have hblt : b < w.heap.size := lt_of_heap hw
  have hglt : g < w.heap.size := lt_of_heap hh
  have hlt1 : ∀ k ∈ F1, k < w.heap.size := fun k hk => RepL.block_lt (u := .sl false PC) (fun h => Rep.block_lt h) hr1 k hk
  have hlt3 : ∀ k ∈ F3, k < w.heap.size := fun k hk => RepL.block_lt (u := .sl false PC) (fun h => Rep.block_lt h) hr3 k hk
  have hfr1 : ∀ k ∈ F1, w'.heap[k]? = w.heap[k]? := fun k hk => hfr k (hlt1 k hk) (fun e => hg1 (e ▸ hk)) (fun h => n12 k hk k h rfl)
  have hfr3 : ∀ k ∈ F3, w'.heap[k]? = w.heap[k]? := fun k hk => hfr k (hlt3 k hk) (fun e => hg3 (e ▸ hk)) (fun h => n123 k (.inr h) k hk rfl)
  have hb' : w'.heap[b]? = w.heap[b]? := hfr b hblt hbg hb2
  have k1 := RepL.imp (R := Rep w true (.sl false PC)) (S := Rep w' true (.sl false PC)) (fun x c G hG h => Rep.frame (fun k hk => hfr1 k (hG k hk)) h) hr1
  have k3 := RepL.imp (R := Rep w true (.sl false PC)) (S := Rep w' true (.sl false PC)) (fun x c G hG h => Rep.frame (fun k hk => hfr3 k (hG k hk)) h) hr3
  have k2 : RepL (Rep w' true (.sl false PC)) [out.getD (out.length - 1) [] ++ [x]] [v3] F4 := ⟨[v3], [], F4, [], by simp, by simp, ⟨v3, rfl, .inl hs3⟩, rfl, rfl⟩
  have kk := RepL.append (RepL.append k1 k2) k3
  have hset : out.take (out.length - 1) ++ [out.getD (out.length - 1) [] ++ [x]] ++ out.drop (out.length - 1 + 1) = out.set (out.length - 1) (out.getD (out.length - 1) [] ++ [x]) := by
    rw [List.set_eq_take_append_cons_drop, if_pos (by omega)]; simp
  rw [hset] at kk
  have hF41 : ∀ k ∈ F4, k ∉ F1 ∧ k ∉ F3 ∧ k ≠ g ∧ k ≠ b := by
    intro k hk
    have h5 := hF4b k hk
    refine ⟨fun h => ?_, fun h => ?_, fun h => ?_, fun h => ?_⟩
    · exact n12 k h k (h5.2 (hlt1 k h)) rfl
    · exact n123 k (.inr (h5.2 (hlt3 k h))) k h rfl
    · subst h; exact hg2 (h5.2 hglt)
    · subst h; exact hb2 (h5.2 hblt)
  refine ⟨[], [], b :: g :: (F1 ++ F4 ++ F3), rfl, ⟨rfl, rfl⟩, ?_, ?_, ?_, ho1, ho2, ho3, hsz, ?_⟩
  · change OutsRep _ w' [Arg.v PC x, Arg.p (.sl false (.sl false PC)) out] _ _ _
    simp only [OutsRep, OutRep]
    refine ⟨_, _, [], _, [], _, rfl, rfl, rfl, ⟨rfl, rfl⟩, _, _, _, [], _, [], rfl, (List.append_nil _).symm, (List.append_nil _).symm, ⟨_, b, _, T1, g :: (F1 ++ F4 ++ F3), rfl, rfl, hb'.trans hw, ⟨_, rfl, .inl (.inr ⟨⟨g, 0, none⟩, cap, _, T2, fz, [], m1 ++ [v3] ++ m3, q, F1 ++ F4 ++ F3, ?_, rfl, by simp, ?_, hg', ?_, rfl, kk, rfl, fun _ => ⟨rfl, ?_, ?_, hcm⟩⟩)⟩, rfl⟩, rfl, rfl⟩
    · simp; omega
    · simp; omega
    · rw [Array.toList_setIfInBounds, hcc]
      simp only [List.append_assoc]
      rw [List.set_append_right _ _ (by omega), hm1]
      simp
    · intro j hj
      rw [Array.size_setIfInBounds] at hj
      exact hfz j hj
    · rw [Array.size_setIfInBounds]; exact hcsz
  · simp only [List.nil_append, List.nodup_cons, List.nodup_append, List.mem_cons, List.mem_append, not_or]
    refine ⟨⟨hbg, ⟨hb1, fun h => (hF41 b h).2.2.2 rfl⟩, hb3⟩, ⟨⟨hg1, fun h => (hF41 g h).2.2.1 rfl⟩, hg3⟩, ⟨n1, hF4, fun i hi j hj e => (hF41 j hj).1 (e ▸ hi)⟩, n3, fun i hi j hj e => ?_⟩
    rcases hi with hi | hi
    · exact n123 i (.inl hi) j hj e
    · exact (hF41 i hi).2.1 (e ▸ hj)
  · intro k hk
    simp only [List.nil_append, List.mem_cons, List.mem_append] at hk ⊢
    rcases hk with rfl | rfl | (hk | hk) | hk
    · exact ⟨by omega, fun _ => .inl rfl⟩
    · exact ⟨by omega, fun _ => .inr (.inl rfl)⟩
    · exact ⟨by have := hlt1 k hk; omega, fun _ => .inr (.inr (.inl (.inl hk)))⟩
    · exact ⟨(hF4b k hk).1, fun h => .inr (.inr (.inl (.inr ((hF4b k hk).2 h))))⟩
    · exact ⟨by have := hlt3 k hk; omega, fun _ => .inr (.inr (.inr hk))⟩
  · intro k hk hkL
    simp only [List.mem_cons, List.mem_append, not_or] at hkL
    exact hfr k hk hkL.2.1 hkL.2.2.1.2
end


/-! loop.example/g00039/impl.alternatives -/
def impl_alternatives.T : List Ctr := [impl_printed.spec, strings_IndexByte.spec, impl_alternatives_1.spec]
def impl_alternatives.md : List (Nat × List Md) := [(164, [.v, .p (.sl false (.sl false (.pair (.int .u8) (.pair .bool (.pair .bool .unit)))))]), (1000164, [.p (.sl false (.sl false (.pair (.int .u8) (.pair .bool (.pair .bool .unit)))))])]
noncomputable def impl_alternatives.F : Fun := ⟨(Go.Proofs.Tryz.f161.body).getD .skip, [.v .str], [(.tmp 2, (.sl false (.sl false (.pair (.int .u8) (.pair .bool (.pair .bool .unit)))))), (.tmp 3, .bool)], [], 0, [(19, ⟨[0, 4, 5, 6], [], [(4, 0, (.sl false (.pair (.int .u8) (.pair .bool (.pair .bool .unit)))))], false⟩), (51, ⟨[0, 4, 5, 6, 56], [], [(4, 0, (.sl false (.pair (.int .u8) (.pair .bool (.pair .bool .unit)))))], false⟩)]⟩
inductive impl_alternatives.Pt where
  | p0 (a0 : ByteArray)
  | p19 (y1 : ByteArray) (y2 : Int) (y3 : List (List ((Int) × ((Bool) × ((Bool) × (Unit))))))
  | p51 (y1 : ByteArray) (y2 : Int) (y3 : Bool) (y4 : List (List ((Int) × ((Bool) × ((Bool) × (Unit))))))
def impl_alternatives.lb : impl_alternatives.Pt → Nat
  | .p0 _ => 0
  | .p19 _ _ _ => 19
  | .p51 _ _ _ _ => 51
def impl_alternatives.st : impl_alternatives.Pt → St
  | .p0 a0 => enter [.v .str a0] 0
  | .p19 y1 y2 y3 => ⟨[(0, .im .str y1), (4, .po 0 0), (5, .fn 164 [.po 0 0]), (6, .im (.int .i64) y2)], [(0, .obj [.hs 1 [] none 0]), (1, .arr false (.sl false (.pair (.int .u8) (.pair .bool (.pair .bool .unit)))) y3 0)], 2⟩
  | .p51 y1 y2 y3 y4 => ⟨[(0, .im .str y1), (4, .po 0 0), (5, .fn 164 [.po 0 0]), (6, .im (.int .i64) y2), (56, .im .bool y3)], [(0, .obj [.hs 1 [] none 0]), (1, .arr false (.sl false (.pair (.int .u8) (.pair .bool (.pair .bool .unit)))) y4 0)], 2⟩
def impl_alternatives.step (n : Nat) (K : impl_alternatives.Pt → Option (Tup [(.sl false (.sl false (.pair (.int .u8) (.pair .bool (.pair .bool .unit))))), .bool])) : impl_alternatives.Pt → Option (Tup [(.sl false (.sl false (.pair (.int .u8) (.pair .bool (.pair .bool .unit))))), .bool])
  | .p0 a0 => (impl_printed n a0 (100 : Int)).bind fun r4 => cond (!r4) (some (([] : List (List ((Int) × ((Bool) × ((Bool) × (Unit)))))), false)) (K (.p19 a0 (0 : Int) [([] : List ((Int) × ((Bool) × ((Bool) × (Unit)))))]))
  | .p19 y1 y2 y3 => cond (decide (y2 < ((ByteArray.size y1) : Int))) (cond (inB y2 (ByteArray.size y1)) (cond (decide ((bt y1 y2) = (124 : Int))) (cond (room ((List.length y3) + (List.length [([] : List ((Int) × ((Bool) × ((Bool) × (Unit)))))]))) (K (.p19 y1 (IntKind.wrap .i64 (y2 + (1 : Int))) (y3 ++ [([] : List ((Int) × ((Bool) × ((Bool) × (Unit)))))]))) (none)) (cond (decide ((bt y1 y2) = (42 : Int))) ((impl_alternatives_1 n ((default : Int), ((default : Bool), (true, ()))) y3).bind fun r6 => K (.p19 y1 (IntKind.wrap .i64 (y2 + (1 : Int))) r6)) (cond (decide ((bt y1 y2) = (63 : Int))) ((impl_alternatives_1 n ((default : Int), (true, (default : (Bool) × (Unit)))) y3).bind fun r6 => K (.p19 y1 (IntKind.wrap .i64 (y2 + (1 : Int))) r6)) (cond (decide ((bt y1 y2) = (92 : Int))) (cond (decide ((IntKind.wrap .i64 (y2 + (1 : Int))) = ((ByteArray.size y1) : Int))) (K (.p51 y1 (IntKind.wrap .i64 (y2 + (1 : Int))) true y3)) (cond (inB (IntKind.wrap .i64 (y2 + (1 : Int))) (ByteArray.size y1)) ((strings_IndexByte n (⟨#[42, 63, 124, 92]⟩ : ByteArray) (bt y1 (IntKind.wrap .i64 (y2 + (1 : Int))))).bind fun (r6 : Int) => K (.p51 y1 (IntKind.wrap .i64 (y2 + (1 : Int))) (decide (r6 < (0 : Int))) y3)) (none))) ((impl_alternatives_1 n ((bt y1 y2), (default : (Bool) × ((Bool) × (Unit)))) y3).bind fun r6 => K (.p19 y1 (IntKind.wrap .i64 (y2 + (1 : Int))) r6)))))) (none)) (some (y3, true))
  | .p51 y1 y2 y3 y4 => cond y3 (some (([] : List (List ((Int) × ((Bool) × ((Bool) × (Unit)))))), false)) (cond (inB y2 (ByteArray.size y1)) ((impl_alternatives_1 n ((bt y1 y2), (default : (Bool) × ((Bool) × (Unit)))) y4).bind fun r7 => K (.p19 y1 (IntKind.wrap .i64 (y2 + (1 : Int))) r7)) (none))
def impl_alternatives (n : Nat) (a0 : ByteArray) : Option (Tup [(.sl false (.sl false (.pair (.int .u8) (.pair .bool (.pair .bool .unit))))), .bool]) := goRec impl_alternatives.step n (.p0 a0)
def impl_alternatives.spec : Ctr := ⟨161, [.v .str], [(.sl false (.sl false (.pair (.int .u8) (.pair .bool (.pair .bool .unit))))), .bool], [], none, fun n x => impl_alternatives n x.1⟩
theorem impl_alternatives.seg_eq : SegEq tyN gl impl_alternatives.F impl_alternatives.md impl_alternatives.T impl_alternatives.spec impl_alternatives.lb impl_alternatives.st impl_alternatives.step := by
  intro n goto y; cases y <;> kernel_rfl
theorem impl_alternatives.text : Text Go.Proofs.Tryz.prog impl_alternatives.F impl_alternatives.spec := textOf Go.Proofs.Tryz.f161
theorem impl_alternatives.ok : CtrOK Go.Proofs.Tryz.prog gl impl_alternatives.spec :=
  ctr_okS tabsN impl_alternatives.text impl_alternatives.seg_eq (fun n x => ⟨.p0 x.1, rfl, rfl, rfl⟩) (consC impl_printed.ok (consC strings_IndexByte.ok (consC impl_alternatives_1.ok (nilC))))

/-! loop.example/g00039/impl.GoodPattern -/
def impl_GoodPattern.T : List Ctr := [impl_alternatives.spec]
def impl_GoodPattern.md : List (Nat × List Md) := []
noncomputable def impl_GoodPattern.F : Fun := ⟨(Go.Proofs.Tryz.f154.body).getD .skip, [.v .str], [(.tmp 2, .bool)], [], 0, []⟩
inductive impl_GoodPattern.Pt where
  | p0 (a0 : ByteArray)
def impl_GoodPattern.lb : impl_GoodPattern.Pt → Nat
  | .p0 _ => 0
def impl_GoodPattern.st : impl_GoodPattern.Pt → St
  | .p0 a0 => enter [.v .str a0] 0
def impl_GoodPattern.step (n : Nat) (K : impl_GoodPattern.Pt → Option (Tup [.bool])) : impl_GoodPattern.Pt → Option (Tup [.bool])
  | .p0 a0 => (impl_alternatives n a0).bind fun r4 => some r4.2
def impl_GoodPattern (n : Nat) (a0 : ByteArray) : Option (Tup [.bool]) := goRec impl_GoodPattern.step n (.p0 a0)
def impl_GoodPattern.spec : Ctr := ⟨154, [.v .str], [.bool], [], none, fun n x => impl_GoodPattern n x.1⟩
theorem impl_GoodPattern.seg_eq : SegEq tyN gl impl_GoodPattern.F impl_GoodPattern.md impl_GoodPattern.T impl_GoodPattern.spec impl_GoodPattern.lb impl_GoodPattern.st impl_GoodPattern.step := by
  intro n goto y; cases y <;> kernel_rfl
theorem impl_GoodPattern.text : Text Go.Proofs.Tryz.prog impl_GoodPattern.F impl_GoodPattern.spec := textOf Go.Proofs.Tryz.f154
theorem impl_GoodPattern.ok : CtrOK Go.Proofs.Tryz.prog gl impl_GoodPattern.spec :=
  ctr_okS tabsN impl_GoodPattern.text impl_GoodPattern.seg_eq (fun n x => ⟨.p0 x.1, rfl, rfl, rfl⟩) (consC impl_alternatives.ok (nilC))

/-! loop.example/g00039/impl.goodMatcher -/
def impl_goodMatcher.T : List Ctr := [impl_printed.spec, impl_isName.spec, impl_GoodPattern.spec]
def impl_goodMatcher.md : List (Nat × List Md) := []
noncomputable def impl_goodMatcher.F : Fun := ⟨(Go.Proofs.Tryz.f131.body).getD .skip, [.v cU3], [(.tmp 2, .bool)], [], 0, [(4, ⟨[1, 22], [], [], false⟩)]⟩
inductive impl_goodMatcher.Pt where
  | p0 (a0 : tU4)
  | p4 (y1 : Bool) (y2 : ByteArray) (y3 : Int) (y4 : ByteArray)
def impl_goodMatcher.lb : impl_goodMatcher.Pt → Nat
  | .p0 _ => 0
  | .p4 _ _ _ _ => 4
def impl_goodMatcher.st : impl_goodMatcher.Pt → St
  | .p0 a0 => enter [.v cU3 a0] 0
  | .p4 y1 y2 y3 y4 => ⟨[(1, .po 0 0), (22, .im .bool y1)], [(0, .obj [.im .str y2, .im (.int .i64) y3, .im .str y4])], 1⟩
def impl_goodMatcher.step (n : Nat) (K : impl_goodMatcher.Pt → Option (Tup [.bool])) : impl_goodMatcher.Pt → Option (Tup [.bool])
  | .p0 a0 => (impl_isName n a0.1).bind fun r4 => cond (!r4) (K (.p4 true a0.1 a0.2.1 a0.2.2.1)) (cond (decide (a0.2.1 < (1 : Int))) (K (.p4 true a0.1 a0.2.1 a0.2.2.1)) (cond (decide ((4 : Int) < a0.2.1)) (K (.p4 true a0.1 a0.2.1 a0.2.2.1)) ((impl_printed n a0.2.2.1 (100 : Int)).bind fun r5 => K (.p4 (!r5) a0.1 a0.2.1 a0.2.2.1))))
  | .p4 y1 y2 y3 y4 => cond y1 (some false) (cond (decide (y3 < (3 : Int))) (some true) ((impl_GoodPattern n y4).bind fun r7 => some r7))
def impl_goodMatcher (n : Nat) (a0 : tU4) : Option (Tup [.bool]) := goRec impl_goodMatcher.step n (.p0 a0)
def impl_goodMatcher.spec : Ctr := ⟨131, [.v cU3], [.bool], [], none, fun n x => impl_goodMatcher n x.1⟩
theorem impl_goodMatcher.seg_eq : SegEq tyN gl impl_goodMatcher.F impl_goodMatcher.md impl_goodMatcher.T impl_goodMatcher.spec impl_goodMatcher.lb impl_goodMatcher.st impl_goodMatcher.step := by
  intro n goto y; cases y <;> kernel_rfl
theorem impl_goodMatcher.text : Text Go.Proofs.Tryz.prog impl_goodMatcher.F impl_goodMatcher.spec := textOf Go.Proofs.Tryz.f131
theorem impl_goodMatcher.ok : CtrOK Go.Proofs.Tryz.prog gl impl_goodMatcher.spec :=
  ctr_okS tabsN impl_goodMatcher.text impl_goodMatcher.seg_eq (fun n x => ⟨.p0 x.1, rfl, rfl, rfl⟩) (consC impl_printed.ok (consC impl_isName.ok (consC impl_GoodPattern.ok (nilC))))

/-! loop.example/g00039/impl.GoodMatchers$1 -/
def impl_GoodMatchers_1.T : List Ctr := [impl_goodMatcher.spec]
def impl_GoodMatchers_1.md : List (Nat × List Md) := []
noncomputable def impl_GoodMatchers_1.F : Fun := ⟨(Go.Proofs.Tryz.f130.body).getD .skip, [.v cU3], [(.tmp 2, .bool)], [], 0, []⟩
inductive impl_GoodMatchers_1.Pt where
  | p0 (a0 : tU4)
def impl_GoodMatchers_1.lb : impl_GoodMatchers_1.Pt → Nat
  | .p0 _ => 0
def impl_GoodMatchers_1.st : impl_GoodMatchers_1.Pt → St
  | .p0 a0 => enter [.v cU3 a0] 0
def impl_GoodMatchers_1.step (n : Nat) (K : impl_GoodMatchers_1.Pt → Option (Tup [.bool])) : impl_GoodMatchers_1.Pt → Option (Tup [.bool])
  | .p0 a0 => (impl_goodMatcher n a0).bind fun r4 => some (!r4)
def impl_GoodMatchers_1 (n : Nat) (a0 : tU4) : Option (Tup [.bool]) := goRec impl_GoodMatchers_1.step n (.p0 a0)
def impl_GoodMatchers_1.spec : Ctr := ⟨130, [.v cU3], [.bool], [], none, fun n x => impl_GoodMatchers_1 n x.1⟩
theorem impl_GoodMatchers_1.seg_eq : SegEq tyN gl impl_GoodMatchers_1.F impl_GoodMatchers_1.md impl_GoodMatchers_1.T impl_GoodMatchers_1.spec impl_GoodMatchers_1.lb impl_GoodMatchers_1.st impl_GoodMatchers_1.step := by
  intro n goto y; cases y <;> kernel_rfl
theorem impl_GoodMatchers_1.text : Text Go.Proofs.Tryz.prog impl_GoodMatchers_1.F impl_GoodMatchers_1.spec := textOf Go.Proofs.Tryz.f130
theorem impl_GoodMatchers_1.ok : CtrOK Go.Proofs.Tryz.prog gl impl_GoodMatchers_1.spec :=
  ctr_okS tabsN impl_GoodMatchers_1.text impl_GoodMatchers_1.seg_eq (fun n x => ⟨.p0 x.1, rfl, rfl, rfl⟩) (consC impl_goodMatcher.ok (nilC))

/-! slices.IndexFunc[[]loop.example/g00039/impl.Matcher,loop.example/g00039/impl.Matcher] -/
def slices_IndexFunc_Matcher_impl_GoodMatchers_1.T : List Ctr := [impl_GoodMatchers_1.spec]
def slices_IndexFunc_Matcher_impl_GoodMatchers_1.md : List (Nat × List Md) := []
noncomputable def slices_IndexFunc_Matcher_impl_GoodMatchers_1.F : Fun := ⟨(Go.Proofs.Tryz.f153.body).getD .skip, [.v (.sl false cU3), .fn 130 []], [(.tmp 4, (.int .i64))], [], 0, [(7, ⟨[0, 1, 7, 8], [], [], false⟩)]⟩
inductive slices_IndexFunc_Matcher_impl_GoodMatchers_1.Pt where
  | p0 (a0 : List (tU4))
  | p7 (y1 : List (tU4)) (y2 : Int) (y3 : Int)
def slices_IndexFunc_Matcher_impl_GoodMatchers_1.lb : slices_IndexFunc_Matcher_impl_GoodMatchers_1.Pt → Nat
  | .p0 _ => 0
  | .p7 _ _ _ => 7
def slices_IndexFunc_Matcher_impl_GoodMatchers_1.st : slices_IndexFunc_Matcher_impl_GoodMatchers_1.Pt → St
  | .p0 a0 => enter [.v (.sl false cU3) a0, .fn 130 []] 0
  | .p7 y1 y2 y3 => ⟨[(0, .im (.sl false cU3) y1), (1, .fn 130 []), (7, .im (.int .i64) y2), (8, .im (.int .i64) y3)], [], 0⟩
def slices_IndexFunc_Matcher_impl_GoodMatchers_1.step (n : Nat) (K : slices_IndexFunc_Matcher_impl_GoodMatchers_1.Pt → Option (Tup [(.int .i64)])) : slices_IndexFunc_Matcher_impl_GoodMatchers_1.Pt → Option (Tup [(.int .i64)])
  | .p0 a0 => K (.p7 a0 ((List.length a0) : Int) (0 : Int))
  | .p7 y1 y2 y3 => cond (decide (y3 < y2)) (cond (inB y3 (List.length y1)) ((impl_GoodMatchers_1 n (List.getD y1 (Int.toNat y3) default)).bind fun r6 => cond r6 (some y3) (K (.p7 y1 y2 (IntKind.wrap .i64 (y3 + (1 : Int)))))) (none)) (some (-(1 : Int)))
def slices_IndexFunc_Matcher_impl_GoodMatchers_1 (n : Nat) (a0 : List (tU4)) : Option (Tup [(.int .i64)]) := goRec slices_IndexFunc_Matcher_impl_GoodMatchers_1.step n (.p0 a0)
def slices_IndexFunc_Matcher_impl_GoodMatchers_1.spec : Ctr := ⟨153, [.v (.sl false cU3), .fn 130 []], [(.int .i64)], [], none, fun n x => slices_IndexFunc_Matcher_impl_GoodMatchers_1 n x.1⟩
theorem slices_IndexFunc_Matcher_impl_GoodMatchers_1.seg_eq : SegEq tyN gl slices_IndexFunc_Matcher_impl_GoodMatchers_1.F slices_IndexFunc_Matcher_impl_GoodMatchers_1.md slices_IndexFunc_Matcher_impl_GoodMatchers_1.T slices_IndexFunc_Matcher_impl_GoodMatchers_1.spec slices_IndexFunc_Matcher_impl_GoodMatchers_1.lb slices_IndexFunc_Matcher_impl_GoodMatchers_1.st slices_IndexFunc_Matcher_impl_GoodMatchers_1.step := by
  intro n goto y; cases y <;> kernel_rfl
theorem slices_IndexFunc_Matcher_impl_GoodMatchers_1.text : Text Go.Proofs.Tryz.prog slices_IndexFunc_Matcher_impl_GoodMatchers_1.F slices_IndexFunc_Matcher_impl_GoodMatchers_1.spec := textOf Go.Proofs.Tryz.f153
theorem slices_IndexFunc_Matcher_impl_GoodMatchers_1.ok : CtrOK Go.Proofs.Tryz.prog gl slices_IndexFunc_Matcher_impl_GoodMatchers_1.spec :=
  ctr_okS tabsN slices_IndexFunc_Matcher_impl_GoodMatchers_1.text slices_IndexFunc_Matcher_impl_GoodMatchers_1.seg_eq (fun n x => ⟨.p0 x.1, rfl, rfl, rfl⟩) (consC impl_GoodMatchers_1.ok (nilC))

/-! slices.ContainsFunc[[]loop.example/g00039/impl.Matcher,loop.example/g00039/impl.Matcher] -/
def slices_ContainsFunc_Matcher_impl_GoodMatchers_1.T : List Ctr := [slices_IndexFunc_Matcher_impl_GoodMatchers_1.spec]
def slices_ContainsFunc_Matcher_impl_GoodMatchers_1.md : List (Nat × List Md) := [(153, [.v, .fn])]
noncomputable def slices_ContainsFunc_Matcher_impl_GoodMatchers_1.F : Fun := ⟨(Go.Proofs.Tryz.f129.body).getD .skip, [.v (.sl false cU3), .fn 130 []], [(.tmp 4, .bool)], [], 0, []⟩
inductive slices_ContainsFunc_Matcher_impl_GoodMatchers_1.Pt where
  | p0 (a0 : List (tU4))
def slices_ContainsFunc_Matcher_impl_GoodMatchers_1.lb : slices_ContainsFunc_Matcher_impl_GoodMatchers_1.Pt → Nat
  | .p0 _ => 0
def slices_ContainsFunc_Matcher_impl_GoodMatchers_1.st : slices_ContainsFunc_Matcher_impl_GoodMatchers_1.Pt → St
  | .p0 a0 => enter [.v (.sl false cU3) a0, .fn 130 []] 0
def slices_ContainsFunc_Matcher_impl_GoodMatchers_1.step (n : Nat) (K : slices_ContainsFunc_Matcher_impl_GoodMatchers_1.Pt → Option (Tup [.bool])) : slices_ContainsFunc_Matcher_impl_GoodMatchers_1.Pt → Option (Tup [.bool])
  | .p0 a0 => (slices_IndexFunc_Matcher_impl_GoodMatchers_1 n a0).bind fun (r4 : Int) => some (decide ((0 : Int) ≤ r4))
def slices_ContainsFunc_Matcher_impl_GoodMatchers_1 (n : Nat) (a0 : List (tU4)) : Option (Tup [.bool]) := goRec slices_ContainsFunc_Matcher_impl_GoodMatchers_1.step n (.p0 a0)
def slices_ContainsFunc_Matcher_impl_GoodMatchers_1.spec : Ctr := ⟨129, [.v (.sl false cU3), .fn 130 []], [.bool], [], none, fun n x => slices_ContainsFunc_Matcher_impl_GoodMatchers_1 n x.1⟩
theorem slices_ContainsFunc_Matcher_impl_GoodMatchers_1.seg_eq : SegEq tyN gl slices_ContainsFunc_Matcher_impl_GoodMatchers_1.F slices_ContainsFunc_Matcher_impl_GoodMatchers_1.md slices_ContainsFunc_Matcher_impl_GoodMatchers_1.T slices_ContainsFunc_Matcher_impl_GoodMatchers_1.spec slices_ContainsFunc_Matcher_impl_GoodMatchers_1.lb slices_ContainsFunc_Matcher_impl_GoodMatchers_1.st slices_ContainsFunc_Matcher_impl_GoodMatchers_1.step := by
  intro n goto y; cases y <;> kernel_rfl
theorem slices_ContainsFunc_Matcher_impl_GoodMatchers_1.text : Text Go.Proofs.Tryz.prog slices_ContainsFunc_Matcher_impl_GoodMatchers_1.F slices_ContainsFunc_Matcher_impl_GoodMatchers_1.spec := textOf Go.Proofs.Tryz.f129
theorem slices_ContainsFunc_Matcher_impl_GoodMatchers_1.ok : CtrOK Go.Proofs.Tryz.prog gl slices_ContainsFunc_Matcher_impl_GoodMatchers_1.spec :=
  ctr_okS tabsN slices_ContainsFunc_Matcher_impl_GoodMatchers_1.text slices_ContainsFunc_Matcher_impl_GoodMatchers_1.seg_eq (fun n x => ⟨.p0 x.1, rfl, rfl, rfl⟩) (consC slices_IndexFunc_Matcher_impl_GoodMatchers_1.ok (nilC))

/-! loop.example/g00039/impl.GoodMatchers -/
def impl_GoodMatchers.T : List Ctr := [impl_GoodMatchers_1.spec, slices_ContainsFunc_Matcher_impl_GoodMatchers_1.spec]
def impl_GoodMatchers.md : List (Nat × List Md) := [(129, [.v, .fn])]
noncomputable def impl_GoodMatchers.F : Fun := ⟨(Go.Proofs.Tryz.f88.body).getD .skip, [.v (.sl false cU3)], [(.tmp 2, .bool)], [], 0, []⟩
inductive impl_GoodMatchers.Pt where
  | p0 (a0 : List (tU4))
def impl_GoodMatchers.lb : impl_GoodMatchers.Pt → Nat
  | .p0 _ => 0
def impl_GoodMatchers.st : impl_GoodMatchers.Pt → St
  | .p0 a0 => enter [.v (.sl false cU3) a0] 0
def impl_GoodMatchers.step (n : Nat) (K : impl_GoodMatchers.Pt → Option (Tup [.bool])) : impl_GoodMatchers.Pt → Option (Tup [.bool])
  | .p0 a0 => cond (decide (((List.length a0) : Int) ≤ (10 : Int))) ((slices_ContainsFunc_Matcher_impl_GoodMatchers_1 n a0).bind fun r4 => some (!r4)) (some false)
def impl_GoodMatchers (n : Nat) (a0 : List (tU4)) : Option (Tup [.bool]) := goRec impl_GoodMatchers.step n (.p0 a0)
def impl_GoodMatchers.spec : Ctr := ⟨88, [.v (.sl false cU3)], [.bool], [], none, fun n x => impl_GoodMatchers n x.1⟩
theorem impl_GoodMatchers.seg_eq : SegEq tyN gl impl_GoodMatchers.F impl_GoodMatchers.md impl_GoodMatchers.T impl_GoodMatchers.spec impl_GoodMatchers.lb impl_GoodMatchers.st impl_GoodMatchers.step := by
  intro n goto y; cases y <;> kernel_rfl
theorem impl_GoodMatchers.text : Text Go.Proofs.Tryz.prog impl_GoodMatchers.F impl_GoodMatchers.spec := textOf Go.Proofs.Tryz.f88
theorem impl_GoodMatchers.ok : CtrOK Go.Proofs.Tryz.prog gl impl_GoodMatchers.spec :=
  ctr_okS tabsN impl_GoodMatchers.text impl_GoodMatchers.seg_eq (fun n x => ⟨.p0 x.1, rfl, rfl, rfl⟩) (consC impl_GoodMatchers_1.ok (consC slices_ContainsFunc_Matcher_impl_GoodMatchers_1.ok (nilC)))

/-! loop.example/g00039/impl.isTime -/
def impl_isTime.T : List Ctr := []
def impl_isTime.md : List (Nat × List Md) := []
noncomputable def impl_isTime.F : Fun := ⟨(Go.Proofs.Tryz.f69.body).getD .skip, [.v (.int .i64)], [(.tmp 2, .bool)], [], 0, []⟩
inductive impl_isTime.Pt where
  | p0 (a0 : Int)
def impl_isTime.lb : impl_isTime.Pt → Nat
  | .p0 _ => 0
def impl_isTime.st : impl_isTime.Pt → St
  | .p0 a0 => enter [.v (.int .i64) a0] 0
def impl_isTime.step (n : Nat) (K : impl_isTime.Pt → Option (Tup [.bool])) : impl_isTime.Pt → Option (Tup [.bool])
  | .p0 a0 => cond (decide ((0 : Int) ≤ a0)) (some (decide (a0 ≤ (1000000000000 : Int)))) (some false)
def impl_isTime (n : Nat) (a0 : Int) : Option (Tup [.bool]) := goRec impl_isTime.step n (.p0 a0)
def impl_isTime.spec : Ctr := ⟨69, [.v (.int .i64)], [.bool], [], none, fun n x => impl_isTime n x.1⟩
theorem impl_isTime.seg_eq : SegEq tyN gl impl_isTime.F impl_isTime.md impl_isTime.T impl_isTime.spec impl_isTime.lb impl_isTime.st impl_isTime.step := by
  intro n goto y; cases y <;> kernel_rfl
theorem impl_isTime.text : Text Go.Proofs.Tryz.prog impl_isTime.F impl_isTime.spec := textOf Go.Proofs.Tryz.f69
theorem impl_isTime.ok : CtrOK Go.Proofs.Tryz.prog gl impl_isTime.spec :=
  ctr_okS tabsN impl_isTime.text impl_isTime.seg_eq (fun n x => ⟨.p0 x.1, rfl, rfl, rfl⟩) (nilC)

/-! loop.example/g00039/impl.goodMoment -/
def impl_goodMoment.T : List Ctr := [impl_isTime.spec]
def impl_goodMoment.md : List (Nat × List Md) := []
noncomputable def impl_goodMoment.F : Fun := ⟨(Go.Proofs.Tryz.f89.body).getD .skip, [.v cU0], [(.tmp 2, .bool)], [], 0, []⟩
inductive impl_goodMoment.Pt where
  | p0 (a0 : tU1)
def impl_goodMoment.lb : impl_goodMoment.Pt → Nat
  | .p0 _ => 0
def impl_goodMoment.st : impl_goodMoment.Pt → St
  | .p0 a0 => enter [.v cU0 a0] 0
def impl_goodMoment.step (n : Nat) (K : impl_goodMoment.Pt → Option (Tup [.bool])) : impl_goodMoment.Pt → Option (Tup [.bool])
  | .p0 a0 => (impl_isTime n a0.2.2.2.2.2.2.1).bind fun r4 => cond r4 (cond a0.2.2.2.2.2.2.2.1 ((impl_isTime n a0.2.2.2.2.2.2.2.2.1).bind fun r5 => cond r5 (some true) (cond (!a0.2.2.2.2.2.2.2.1) (some (decide (a0.2.2.2.2.2.2.2.2.1 = (0 : Int)))) (some false))) (cond (!a0.2.2.2.2.2.2.2.1) (some (decide (a0.2.2.2.2.2.2.2.2.1 = (0 : Int)))) (some false))) (some false)
def impl_goodMoment (n : Nat) (a0 : tU1) : Option (Tup [.bool]) := goRec impl_goodMoment.step n (.p0 a0)
def impl_goodMoment.spec : Ctr := ⟨89, [.v cU0], [.bool], [], none, fun n x => impl_goodMoment n x.1⟩
theorem impl_goodMoment.seg_eq : SegEq tyN gl impl_goodMoment.F impl_goodMoment.md impl_goodMoment.T impl_goodMoment.spec impl_goodMoment.lb impl_goodMoment.st impl_goodMoment.step := by
  intro n goto y; cases y <;> kernel_rfl
theorem impl_goodMoment.text : Text Go.Proofs.Tryz.prog impl_goodMoment.F impl_goodMoment.spec := textOf Go.Proofs.Tryz.f89
theorem impl_goodMoment.ok : CtrOK Go.Proofs.Tryz.prog gl impl_goodMoment.spec :=
  ctr_okS tabsN impl_goodMoment.text impl_goodMoment.seg_eq (fun n x => ⟨.p0 x.1, rfl, rfl, rfl⟩) (consC impl_isTime.ok (nilC))

/-! loop.example/g00039/impl.compares -/
def impl_compares.T : List Ctr := []
def impl_compares.md : List (Nat × List Md) := []
noncomputable def impl_compares.F : Fun := ⟨(Go.Proofs.Tryz.f90.body).getD .skip, [.v (.int .i64)], [(.tmp 2, .bool)], [], 0, []⟩
inductive impl_compares.Pt where
  | p0 (a0 : Int)
def impl_compares.lb : impl_compares.Pt → Nat
  | .p0 _ => 0
def impl_compares.st : impl_compares.Pt → St
  | .p0 a0 => enter [.v (.int .i64) a0] 0
def impl_compares.step (n : Nat) (K : impl_compares.Pt → Option (Tup [.bool])) : impl_compares.Pt → Option (Tup [.bool])
  | .p0 a0 => cond (decide ((6 : Int) ≤ a0)) (some (decide (a0 ≤ (11 : Int)))) (some false)
def impl_compares (n : Nat) (a0 : Int) : Option (Tup [.bool]) := goRec impl_compares.step n (.p0 a0)
def impl_compares.spec : Ctr := ⟨90, [.v (.int .i64)], [.bool], [], none, fun n x => impl_compares n x.1⟩
theorem impl_compares.seg_eq : SegEq tyN gl impl_compares.F impl_compares.md impl_compares.T impl_compares.spec impl_compares.lb impl_compares.st impl_compares.step := by
  intro n goto y; cases y <;> kernel_rfl
theorem impl_compares.text : Text Go.Proofs.Tryz.prog impl_compares.F impl_compares.spec := textOf Go.Proofs.Tryz.f90
theorem impl_compares.ok : CtrOK Go.Proofs.Tryz.prog gl impl_compares.spec :=
  ctr_okS tabsN impl_compares.text impl_compares.seg_eq (fun n x => ⟨.p0 x.1, rfl, rfl, rfl⟩) (nilC)

/-! loop.example/g00039/impl.rising[string] -/
def impl_rising_string.T : List Ctr := []
def impl_rising_string.md : List (Nat × List Md) := []
noncomputable def impl_rising_string.F : Fun := ⟨(Go.Proofs.Tryz.f132.body).getD .skip, [.v (.sl false .str)], [(.tmp 2, .bool)], [], 0, [(7, ⟨[0, 3], [], [], false⟩)]⟩
inductive impl_rising_string.Pt where
  | p0 (a0 : List (ByteArray))
  | p7 (y1 : List (ByteArray)) (y2 : Int)
def impl_rising_string.lb : impl_rising_string.Pt → Nat
  | .p0 _ => 0
  | .p7 _ _ => 7
def impl_rising_string.st : impl_rising_string.Pt → St
  | .p0 a0 => enter [.v (.sl false .str) a0] 0
  | .p7 y1 y2 => ⟨[(0, .im (.sl false .str) y1), (3, .im (.int .i64) y2)], [], 0⟩
def impl_rising_string.step (n : Nat) (K : impl_rising_string.Pt → Option (Tup [.bool])) : impl_rising_string.Pt → Option (Tup [.bool])
  | .p0 a0 => K (.p7 a0 (1 : Int))
  | .p7 y1 y2 => cond (decide (y2 < ((List.length y1) : Int))) (cond (inB (IntKind.wrap .i64 (y2 - (1 : Int))) (List.length y1)) (cond (inB y2 (List.length y1)) (cond (!(slt (List.getD y1 (Int.toNat (IntKind.wrap .i64 (y2 - (1 : Int)))) default) (List.getD y1 (Int.toNat y2) default))) (some false) (K (.p7 y1 (IntKind.wrap .i64 (y2 + (1 : Int)))))) (none)) (none)) (some true)
def impl_rising_string (n : Nat) (a0 : List (ByteArray)) : Option (Tup [.bool]) := goRec impl_rising_string.step n (.p0 a0)
def impl_rising_string.spec : Ctr := ⟨132, [.v (.sl false .str)], [.bool], [], none, fun n x => impl_rising_string n x.1⟩
theorem impl_rising_string.seg_eq : SegEq tyN gl impl_rising_string.F impl_rising_string.md impl_rising_string.T impl_rising_string.spec impl_rising_string.lb impl_rising_string.st impl_rising_string.step := by
  intro n goto y; cases y <;> kernel_rfl
theorem impl_rising_string.text : Text Go.Proofs.Tryz.prog impl_rising_string.F impl_rising_string.spec := textOf Go.Proofs.Tryz.f132
theorem impl_rising_string.ok : CtrOK Go.Proofs.Tryz.prog gl impl_rising_string.spec :=
  ctr_okS tabsN impl_rising_string.text impl_rising_string.seg_eq (fun n x => ⟨.p0 x.1, rfl, rfl, rfl⟩) (nilC)

/-! loop.example/g00039/impl.goodNames$1 -/
def impl_goodNames_1.T : List Ctr := [impl_isName.spec]
def impl_goodNames_1.md : List (Nat × List Md) := []
noncomputable def impl_goodNames_1.F : Fun := ⟨(Go.Proofs.Tryz.f134.body).getD .skip, [.v .str], [(.tmp 2, .bool)], [], 0, []⟩
inductive impl_goodNames_1.Pt where
  | p0 (a0 : ByteArray)
def impl_goodNames_1.lb : impl_goodNames_1.Pt → Nat
  | .p0 _ => 0
def impl_goodNames_1.st : impl_goodNames_1.Pt → St
  | .p0 a0 => enter [.v .str a0] 0
def impl_goodNames_1.step (n : Nat) (K : impl_goodNames_1.Pt → Option (Tup [.bool])) : impl_goodNames_1.Pt → Option (Tup [.bool])
  | .p0 a0 => (impl_isName n a0).bind fun r4 => some (!r4)
def impl_goodNames_1 (n : Nat) (a0 : ByteArray) : Option (Tup [.bool]) := goRec impl_goodNames_1.step n (.p0 a0)
def impl_goodNames_1.spec : Ctr := ⟨134, [.v .str], [.bool], [], none, fun n x => impl_goodNames_1 n x.1⟩
theorem impl_goodNames_1.seg_eq : SegEq tyN gl impl_goodNames_1.F impl_goodNames_1.md impl_goodNames_1.T impl_goodNames_1.spec impl_goodNames_1.lb impl_goodNames_1.st impl_goodNames_1.step := by
  intro n goto y; cases y <;> kernel_rfl
theorem impl_goodNames_1.text : Text Go.Proofs.Tryz.prog impl_goodNames_1.F impl_goodNames_1.spec := textOf Go.Proofs.Tryz.f134
theorem impl_goodNames_1.ok : CtrOK Go.Proofs.Tryz.prog gl impl_goodNames_1.spec :=
  ctr_okS tabsN impl_goodNames_1.text impl_goodNames_1.seg_eq (fun n x => ⟨.p0 x.1, rfl, rfl, rfl⟩) (consC impl_isName.ok (nilC))

/-! slices.IndexFunc[[]string,string] -/
def slices_IndexFunc_string_impl_goodNames_1.T : List Ctr := [impl_goodNames_1.spec]
def slices_IndexFunc_string_impl_goodNames_1.md : List (Nat × List Md) := []
noncomputable def slices_IndexFunc_string_impl_goodNames_1.F : Fun := ⟨(Go.Proofs.Tryz.f155.body).getD .skip, [.v (.sl false .str), .fn 134 []], [(.tmp 4, (.int .i64))], [], 0, [(7, ⟨[0, 1, 7, 8], [], [], false⟩)]⟩
inductive slices_IndexFunc_string_impl_goodNames_1.Pt where
  | p0 (a0 : List (ByteArray))
  | p7 (y1 : List (ByteArray)) (y2 : Int) (y3 : Int)
def slices_IndexFunc_string_impl_goodNames_1.lb : slices_IndexFunc_string_impl_goodNames_1.Pt → Nat
  | .p0 _ => 0
  | .p7 _ _ _ => 7
def slices_IndexFunc_string_impl_goodNames_1.st : slices_IndexFunc_string_impl_goodNames_1.Pt → St
  | .p0 a0 => enter [.v (.sl false .str) a0, .fn 134 []] 0
  | .p7 y1 y2 y3 => ⟨[(0, .im (.sl false .str) y1), (1, .fn 134 []), (7, .im (.int .i64) y2), (8, .im (.int .i64) y3)], [], 0⟩
def slices_IndexFunc_string_impl_goodNames_1.step (n : Nat) (K : slices_IndexFunc_string_impl_goodNames_1.Pt → Option (Tup [(.int .i64)])) : slices_IndexFunc_string_impl_goodNames_1.Pt → Option (Tup [(.int .i64)])
  | .p0 a0 => K (.p7 a0 ((List.length a0) : Int) (0 : Int))
  | .p7 y1 y2 y3 => cond (decide (y3 < y2)) (cond (inB y3 (List.length y1)) ((impl_goodNames_1 n (List.getD y1 (Int.toNat y3) default)).bind fun r6 => cond r6 (some y3) (K (.p7 y1 y2 (IntKind.wrap .i64 (y3 + (1 : Int)))))) (none)) (some (-(1 : Int)))
def slices_IndexFunc_string_impl_goodNames_1 (n : Nat) (a0 : List (ByteArray)) : Option (Tup [(.int .i64)]) := goRec slices_IndexFunc_string_impl_goodNames_1.step n (.p0 a0)
def slices_IndexFunc_string_impl_goodNames_1.spec : Ctr := ⟨155, [.v (.sl false .str), .fn 134 []], [(.int .i64)], [], none, fun n x => slices_IndexFunc_string_impl_goodNames_1 n x.1⟩
theorem slices_IndexFunc_string_impl_goodNames_1.seg_eq : SegEq ty gl slices_IndexFunc_string_impl_goodNames_1.F slices_IndexFunc_string_impl_goodNames_1.md slices_IndexFunc_string_impl_goodNames_1.T slices_IndexFunc_string_impl_goodNames_1.spec slices_IndexFunc_string_impl_goodNames_1.lb slices_IndexFunc_string_impl_goodNames_1.st slices_IndexFunc_string_impl_goodNames_1.step := by
  intro n goto y; cases y <;> kernel_rfl
theorem slices_IndexFunc_string_impl_goodNames_1.text : Text Go.Proofs.Tryz.prog slices_IndexFunc_string_impl_goodNames_1.F slices_IndexFunc_string_impl_goodNames_1.spec := textOf Go.Proofs.Tryz.f155
theorem slices_IndexFunc_string_impl_goodNames_1.ok : CtrOK Go.Proofs.Tryz.prog gl slices_IndexFunc_string_impl_goodNames_1.spec :=
  ctr_okS tabs slices_IndexFunc_string_impl_goodNames_1.text slices_IndexFunc_string_impl_goodNames_1.seg_eq (fun n x => ⟨.p0 x.1, rfl, rfl, rfl⟩) (consC impl_goodNames_1.ok (nilC))

/-! slices.ContainsFunc[[]string,string] -/
def slices_ContainsFunc_string_impl_goodNames_1.T : List Ctr := [slices_IndexFunc_string_impl_goodNames_1.spec]
def slices_ContainsFunc_string_impl_goodNames_1.md : List (Nat × List Md) := [(155, [.v, .fn])]
noncomputable def slices_ContainsFunc_string_impl_goodNames_1.F : Fun := ⟨(Go.Proofs.Tryz.f133.body).getD .skip, [.v (.sl false .str), .fn 134 []], [(.tmp 4, .bool)], [], 0, []⟩
inductive slices_ContainsFunc_string_impl_goodNames_1.Pt where
  | p0 (a0 : List (ByteArray))
def slices_ContainsFunc_string_impl_goodNames_1.lb : slices_ContainsFunc_string_impl_goodNames_1.Pt → Nat
  | .p0 _ => 0
def slices_ContainsFunc_string_impl_goodNames_1.st : slices_ContainsFunc_string_impl_goodNames_1.Pt → St
  | .p0 a0 => enter [.v (.sl false .str) a0, .fn 134 []] 0
def slices_ContainsFunc_string_impl_goodNames_1.step (n : Nat) (K : slices_ContainsFunc_string_impl_goodNames_1.Pt → Option (Tup [.bool])) : slices_ContainsFunc_string_impl_goodNames_1.Pt → Option (Tup [.bool])
  | .p0 a0 => (slices_IndexFunc_string_impl_goodNames_1 n a0).bind fun (r4 : Int) => some (decide ((0 : Int) ≤ r4))
def slices_ContainsFunc_string_impl_goodNames_1 (n : Nat) (a0 : List (ByteArray)) : Option (Tup [.bool]) := goRec slices_ContainsFunc_string_impl_goodNames_1.step n (.p0 a0)
def slices_ContainsFunc_string_impl_goodNames_1.spec : Ctr := ⟨133, [.v (.sl false .str), .fn 134 []], [.bool], [], none, fun n x => slices_ContainsFunc_string_impl_goodNames_1 n x.1⟩
theorem slices_ContainsFunc_string_impl_goodNames_1.seg_eq : SegEq ty gl slices_ContainsFunc_string_impl_goodNames_1.F slices_ContainsFunc_string_impl_goodNames_1.md slices_ContainsFunc_string_impl_goodNames_1.T slices_ContainsFunc_string_impl_goodNames_1.spec slices_ContainsFunc_string_impl_goodNames_1.lb slices_ContainsFunc_string_impl_goodNames_1.st slices_ContainsFunc_string_impl_goodNames_1.step := by
  intro n goto y; cases y <;> kernel_rfl
theorem slices_ContainsFunc_string_impl_goodNames_1.text : Text Go.Proofs.Tryz.prog slices_ContainsFunc_string_impl_goodNames_1.F slices_ContainsFunc_string_impl_goodNames_1.spec := textOf Go.Proofs.Tryz.f133
theorem slices_ContainsFunc_string_impl_goodNames_1.ok : CtrOK Go.Proofs.Tryz.prog gl slices_ContainsFunc_string_impl_goodNames_1.spec :=
  ctr_okS tabs slices_ContainsFunc_string_impl_goodNames_1.text slices_ContainsFunc_string_impl_goodNames_1.seg_eq (fun n x => ⟨.p0 x.1, rfl, rfl, rfl⟩) (consC slices_IndexFunc_string_impl_goodNames_1.ok (nilC))

/-! loop.example/g00039/impl.goodNames -/
def impl_goodNames.T : List Ctr := [impl_rising_string.spec, impl_goodNames_1.spec, slices_ContainsFunc_string_impl_goodNames_1.spec]
def impl_goodNames.md : List (Nat × List Md) := [(133, [.v, .fn])]
noncomputable def impl_goodNames.F : Fun := ⟨(Go.Proofs.Tryz.f92.body).getD .skip, [.v (.sl false .str)], [(.tmp 2, .bool)], [], 0, []⟩
inductive impl_goodNames.Pt where
  | p0 (a0 : List (ByteArray))
def impl_goodNames.lb : impl_goodNames.Pt → Nat
  | .p0 _ => 0
def impl_goodNames.st : impl_goodNames.Pt → St
  | .p0 a0 => enter [.v (.sl false .str) a0] 0
def impl_goodNames.step (n : Nat) (K : impl_goodNames.Pt → Option (Tup [.bool])) : impl_goodNames.Pt → Option (Tup [.bool])
  | .p0 a0 => cond (decide (((List.length a0) : Int) ≤ (10 : Int))) ((impl_rising_string n a0).bind fun r4 => cond r4 ((slices_ContainsFunc_string_impl_goodNames_1 n a0).bind fun r5 => some (!r5)) (some false)) (some false)
def impl_goodNames (n : Nat) (a0 : List (ByteArray)) : Option (Tup [.bool]) := goRec impl_goodNames.step n (.p0 a0)
def impl_goodNames.spec : Ctr := ⟨92, [.v (.sl false .str)], [.bool], [], none, fun n x => impl_goodNames n x.1⟩
theorem impl_goodNames.seg_eq : SegEq tyN gl impl_goodNames.F impl_goodNames.md impl_goodNames.T impl_goodNames.spec impl_goodNames.lb impl_goodNames.st impl_goodNames.step := by
  intro n goto y; cases y <;> kernel_rfl
theorem impl_goodNames.text : Text Go.Proofs.Tryz.prog impl_goodNames.F impl_goodNames.spec := textOf Go.Proofs.Tryz.f92
theorem impl_goodNames.ok : CtrOK Go.Proofs.Tryz.prog gl impl_goodNames.spec :=
  ctr_okS tabsN impl_goodNames.text impl_goodNames.seg_eq (fun n x => ⟨.p0 x.1, rfl, rfl, rfl⟩) (consC impl_rising_string.ok (consC impl_goodNames_1.ok (consC slices_ContainsFunc_string_impl_goodNames_1.ok (nilC))))

/-! loop.example/g00039/impl.goodBy -/
def impl_goodBy.T : List Ctr := [impl_goodNames.spec]
def impl_goodBy.md : List (Nat × List Md) := []
noncomputable def impl_goodBy.F : Fun := ⟨(Go.Proofs.Tryz.f91.body).getD .skip, [.v cU0], [(.tmp 2, .bool)], [], 0, []⟩
inductive impl_goodBy.Pt where
  | p0 (a0 : tU1)
def impl_goodBy.lb : impl_goodBy.Pt → Nat
  | .p0 _ => 0
def impl_goodBy.st : impl_goodBy.Pt → St
  | .p0 a0 => enter [.v cU0 a0] 0
def impl_goodBy.step (n : Nat) (K : impl_goodBy.Pt → Option (Tup [.bool])) : impl_goodBy.Pt → Option (Tup [.bool])
  | .p0 a0 => cond (decide (a0.2.2.2.2.2.2.2.2.2.2.1 = (0 : Int))) (cond (decide (((List.length a0.2.2.2.2.2.2.2.2.2.2.2.1) : Int) = (0 : Int))) (some true) (cond (decide (a0.2.2.2.2.2.2.2.2.2.2.1 = (1 : Int))) ((impl_goodNames n a0.2.2.2.2.2.2.2.2.2.2.2.1).bind fun r4 => some r4) (cond (decide (a0.2.2.2.2.2.2.2.2.2.2.1 = (2 : Int))) ((impl_goodNames n a0.2.2.2.2.2.2.2.2.2.2.2.1).bind fun r4 => some r4) (some false)))) (cond (decide (a0.2.2.2.2.2.2.2.2.2.2.1 = (1 : Int))) ((impl_goodNames n a0.2.2.2.2.2.2.2.2.2.2.2.1).bind fun r4 => some r4) (cond (decide (a0.2.2.2.2.2.2.2.2.2.2.1 = (2 : Int))) ((impl_goodNames n a0.2.2.2.2.2.2.2.2.2.2.2.1).bind fun r4 => some r4) (some false)))
def impl_goodBy (n : Nat) (a0 : tU1) : Option (Tup [.bool]) := goRec impl_goodBy.step n (.p0 a0)
def impl_goodBy.spec : Ctr := ⟨91, [.v cU0], [.bool], [], none, fun n x => impl_goodBy n x.1⟩
theorem impl_goodBy.seg_eq : SegEq tyN gl impl_goodBy.F impl_goodBy.md impl_goodBy.T impl_goodBy.spec impl_goodBy.lb impl_goodBy.st impl_goodBy.step := by
  intro n goto y; cases y <;> kernel_rfl
theorem impl_goodBy.text : Text Go.Proofs.Tryz.prog impl_goodBy.F impl_goodBy.spec := textOf Go.Proofs.Tryz.f91
theorem impl_goodBy.ok : CtrOK Go.Proofs.Tryz.prog gl impl_goodBy.spec :=
  ctr_okS tabsN impl_goodBy.text impl_goodBy.seg_eq (fun n x => ⟨.p0 x.1, rfl, rfl, rfl⟩) (consC impl_goodNames.ok (nilC))

/-! loop.example/g00039/impl.goodNode$1 -/
def impl_goodNode_1.T : List Ctr := []
def impl_goodNode_1.md : List (Nat × List Md) := []
noncomputable def impl_goodNode_1.F : Fun := ⟨(Go.Proofs.Tryz.f85.body).getD .skip, [.p cU0], [], [some cU0], 1, []⟩
inductive impl_goodNode_1.Pt where
  | p0 (a0 : tU1)
def impl_goodNode_1.lb : impl_goodNode_1.Pt → Nat
  | .p0 _ => 0
def impl_goodNode_1.st : impl_goodNode_1.Pt → St
  | .p0 a0 => enter [.p cU0 a0] 1
def impl_goodNode_1.step (n : Nat) (K : impl_goodNode_1.Pt → Option (Tup [cU0])) : impl_goodNode_1.Pt → Option (Tup [cU0])
  | .p0 a0 => some (a0.1, (a0.2.1, (a0.2.2.1, (a0.2.2.2.1, (a0.2.2.2.2.1, (a0.2.2.2.2.2.1, ((0 : Int), (false, ((0 : Int), a0.2.2.2.2.2.2.2.2.2)))))))))
def impl_goodNode_1 (n : Nat) (a0 : tU1) : Option (Tup [cU0]) := goRec impl_goodNode_1.step n (.p0 a0)
def impl_goodNode_1.spec : Ctr := ⟨85, [.p cU0], [], [cU0], none, fun n x => impl_goodNode_1 n x.1⟩
theorem impl_goodNode_1.seg_eq : SegEq tyN gl impl_goodNode_1.F impl_goodNode_1.md impl_goodNode_1.T impl_goodNode_1.spec impl_goodNode_1.lb impl_goodNode_1.st impl_goodNode_1.step := by
  intro n goto y; cases y <;> kernel_rfl
theorem impl_goodNode_1.text : Text Go.Proofs.Tryz.prog impl_goodNode_1.F impl_goodNode_1.spec := textOf Go.Proofs.Tryz.f85
theorem impl_goodNode_1.ok : CtrOK Go.Proofs.Tryz.prog gl impl_goodNode_1.spec :=
  ctr_okS tabsN impl_goodNode_1.text impl_goodNode_1.seg_eq (fun n x => ⟨.p0 x.1, rfl, rfl, rfl⟩) (nilC)

/-! loop.example/g00039/impl.goodNode -/
def impl_goodNode.T : List Ctr := [impl_printed.spec, impl_isName.spec, impl_isFunction.spec, impl_isWord.spec, impl_GoodMatchers.spec, impl_goodMoment.spec, impl_compares.spec, impl_goodNames.spec, impl_goodBy.spec, impl_goodNode_1.spec]
def impl_goodNode.md : List (Nat × List Md) := [(85, [.p cU0]), (1000085, [.p cU0])]
noncomputable def impl_goodNode.F : Fun := ⟨(Go.Proofs.Tryz.f51.body).getD .skip, [.v cU0], [(.tmp 2, .bool)], [], 0, [(14, ⟨[3, 5], [], [(3, 5, (.bs cU3)), (3, 11, (.bs .str)), (3, 13, (.bs .str))], false⟩), (110, ⟨[3, 5], [], [(3, 5, (.bs cU3)), (3, 11, (.bs .str)), (3, 13, (.bs .str))], false⟩), (98, ⟨[1, 3, 8], [], [(1, 5, (.bs cU3)), (1, 11, (.bs .str)), (1, 13, (.bs .str)), (3, 5, (.bs cU3)), (3, 11, (.bs .str)), (3, 13, (.bs .str))], false⟩), (104, ⟨[3, 5], [], [(3, 5, (.bs cU3)), (3, 11, (.bs .str)), (3, 13, (.bs .str))], false⟩), (73, ⟨[1, 3, 5], [], [(1, 5, (.bs cU3)), (1, 11, (.bs .str)), (1, 13, (.bs .str)), (3, 5, (.bs cU3)), (3, 11, (.bs .str)), (3, 13, (.bs .str))], false⟩), (78, ⟨[3, 5], [], [(3, 5, (.bs cU3)), (3, 11, (.bs .str)), (3, 13, (.bs .str))], false⟩), (83, ⟨[1, 3, 5, 198], [], [(1, 5, (.bs cU3)), (1, 11, (.bs .str)), (1, 13, (.bs .str)), (3, 5, (.bs cU3)), (3, 11, (.bs .str)), (3, 13, (.bs .str))], false⟩), (61, ⟨[3, 4, 5], [], [(3, 5, (.bs cU3)), (3, 11, (.bs .str)), (3, 13, (.bs .str))], false⟩), (55, ⟨[3, 5], [], [(3, 5, (.bs cU3)), (3, 11, (.bs .str)), (3, 13, (.bs .str))], false⟩), (30, ⟨[1, 3, 4, 5], [], [(1, 5, (.bs cU3)), (1, 11, (.bs .str)), (1, 13, (.bs .str)), (3, 5, (.bs cU3)), (3, 11, (.bs .str)), (3, 13, (.bs .str))], false⟩), (36, ⟨[3, 4, 5, 85, 86, 87], [(85, cU3)], [(3, 5, (.bs cU3)), (3, 11, (.bs .str)), (3, 13, (.bs .str))], false⟩), (24, ⟨[3, 5], [], [(3, 5, (.bs cU3)), (3, 11, (.bs .str)), (3, 13, (.bs .str))], false⟩), (18, ⟨[3, 5], [], [(3, 5, (.bs cU3)), (3, 11, (.bs .str)), (3, 13, (.bs .str))], false⟩)]⟩
inductive impl_goodNode.Pt where
  | p0 (a0 : tU1)
  | p18 (y1 : Bool) (y2 : Int) (y3 : Int) (y4 : Int) (y5 : ByteArray) (y6 : Int) (y7 : List (tU4)) (y8 : Int) (y9 : Bool) (y10 : Int) (y11 : Bool) (y12 : Int) (y13 : List (ByteArray)) (y14 : Int) (y15 : List (ByteArray)) (y16 : Int)
  | p24 (y1 : Bool) (y2 : Int) (y3 : Int) (y4 : Int) (y5 : ByteArray) (y6 : Int) (y7 : List (tU4)) (y8 : Int) (y9 : Bool) (y10 : Int) (y11 : Bool) (y12 : Int) (y13 : List (ByteArray)) (y14 : Int) (y15 : List (ByteArray)) (y16 : Int)
  | p30 (y1 : Bool) (y2 : Int) (y3 : Int) (y4 : Int) (y5 : ByteArray) (y6 : Int) (y7 : List (tU4)) (y8 : Int) (y9 : Bool) (y10 : Int) (y11 : Bool) (y12 : Int) (y13 : List (ByteArray)) (y14 : Int) (y15 : List (ByteArray)) (y16 : Int) (y17 : Int) (y18 : Int) (y19 : Int) (y20 : ByteArray) (y21 : Int) (y22 : List (tU4)) (y23 : Int) (y24 : Bool) (y25 : Int) (y26 : Bool) (y27 : Int) (y28 : List (ByteArray)) (y29 : Int) (y30 : List (ByteArray)) (y31 : Int)
  | p55 (y1 : Bool) (y2 : Int) (y3 : Int) (y4 : Int) (y5 : ByteArray) (y6 : Int) (y7 : List (tU4)) (y8 : Int) (y9 : Bool) (y10 : Int) (y11 : Bool) (y12 : Int) (y13 : List (ByteArray)) (y14 : Int) (y15 : List (ByteArray)) (y16 : Int)
  | p61 (y1 : Bool) (y2 : Int) (y3 : Int) (y4 : Int) (y5 : ByteArray) (y6 : Int) (y7 : List (tU4)) (y8 : Int) (y9 : Bool) (y10 : Int) (y11 : Bool) (y12 : Int) (y13 : List (ByteArray)) (y14 : Int) (y15 : List (ByteArray)) (y16 : Int)
  | p14 (y1 : Bool) (y2 : Int) (y3 : Int) (y4 : Int) (y5 : ByteArray) (y6 : Int) (y7 : List (tU4)) (y8 : Int) (y9 : Bool) (y10 : Int) (y11 : Bool) (y12 : Int) (y13 : List (ByteArray)) (y14 : Int) (y15 : List (ByteArray)) (y16 : Int)
  | p73 (y1 : Bool) (y2 : Int) (y3 : Int) (y4 : Int) (y5 : ByteArray) (y6 : Int) (y7 : List (tU4)) (y8 : Int) (y9 : Bool) (y10 : Int) (y11 : Bool) (y12 : Int) (y13 : List (ByteArray)) (y14 : Int) (y15 : List (ByteArray)) (y16 : Int) (y17 : Int) (y18 : Int) (y19 : Int) (y20 : ByteArray) (y21 : Int) (y22 : List (tU4)) (y23 : Int) (y24 : Bool) (y25 : Int) (y26 : Bool) (y27 : Int) (y28 : List (ByteArray)) (y29 : Int) (y30 : List (ByteArray)) (y31 : Int)
  | p98 (y1 : Int) (y2 : Int) (y3 : Int) (y4 : Int) (y5 : ByteArray) (y6 : Int) (y7 : List (tU4)) (y8 : Int) (y9 : Bool) (y10 : Int) (y11 : Bool) (y12 : Int) (y13 : List (ByteArray)) (y14 : Int) (y15 : List (ByteArray)) (y16 : Int) (y17 : Int) (y18 : Int) (y19 : Int) (y20 : ByteArray) (y21 : Int) (y22 : List (tU4)) (y23 : Int) (y24 : Bool) (y25 : Int) (y26 : Bool) (y27 : Int) (y28 : List (ByteArray)) (y29 : Int) (y30 : List (ByteArray)) (y31 : Int)
  | p110 (y1 : Bool) (y2 : Int) (y3 : Int) (y4 : Int) (y5 : ByteArray) (y6 : Int) (y7 : List (tU4)) (y8 : Int) (y9 : Bool) (y10 : Int) (y11 : Bool) (y12 : Int) (y13 : List (ByteArray)) (y14 : Int) (y15 : List (ByteArray)) (y16 : Int)
  | p36 (y1 : Bool) (y2 : List (tU4)) (y3 : Int) (y4 : Int) (y5 : Int) (y6 : Int) (y7 : Int) (y8 : ByteArray) (y9 : Int) (y10 : List (tU4)) (y11 : Int) (y12 : Bool) (y13 : Int) (y14 : Bool) (y15 : Int) (y16 : List (ByteArray)) (y17 : Int) (y18 : List (ByteArray)) (y19 : Int)
  | p78 (y1 : Bool) (y2 : Int) (y3 : Int) (y4 : Int) (y5 : ByteArray) (y6 : Int) (y7 : List (tU4)) (y8 : Int) (y9 : Bool) (y10 : Int) (y11 : Bool) (y12 : Int) (y13 : List (ByteArray)) (y14 : Int) (y15 : List (ByteArray)) (y16 : Int)
  | p83 (y1 : Bool) (y2 : Bool) (y3 : Int) (y4 : Int) (y5 : Int) (y6 : ByteArray) (y7 : Int) (y8 : List (tU4)) (y9 : Int) (y10 : Bool) (y11 : Int) (y12 : Bool) (y13 : Int) (y14 : List (ByteArray)) (y15 : Int) (y16 : List (ByteArray)) (y17 : Int) (y18 : Int) (y19 : Int) (y20 : Int) (y21 : ByteArray) (y22 : Int) (y23 : List (tU4)) (y24 : Int) (y25 : Bool) (y26 : Int) (y27 : Bool) (y28 : Int) (y29 : List (ByteArray)) (y30 : Int) (y31 : List (ByteArray)) (y32 : Int)
  | p104 (y1 : Bool) (y2 : Int) (y3 : Int) (y4 : Int) (y5 : ByteArray) (y6 : Int) (y7 : List (tU4)) (y8 : Int) (y9 : Bool) (y10 : Int) (y11 : Bool) (y12 : Int) (y13 : List (ByteArray)) (y14 : Int) (y15 : List (ByteArray)) (y16 : Int)
def impl_goodNode.lb : impl_goodNode.Pt → Nat
  | .p0 _ => 0
  | .p18 _ _ _ _ _ _ _ _ _ _ _ _ _ _ _ _ => 18
  | .p24 _ _ _ _ _ _ _ _ _ _ _ _ _ _ _ _ => 24
  | .p30 _ _ _ _ _ _ _ _ _ _ _ _ _ _ _ _ _ _ _ _ _ _ _ _ _ _ _ _ _ _ _ => 30
  | .p55 _ _ _ _ _ _ _ _ _ _ _ _ _ _ _ _ => 55
  | .p61 _ _ _ _ _ _ _ _ _ _ _ _ _ _ _ _ => 61
  | .p14 _ _ _ _ _ _ _ _ _ _ _ _ _ _ _ _ => 14
  | .p73 _ _ _ _ _ _ _ _ _ _ _ _ _ _ _ _ _ _ _ _ _ _ _ _ _ _ _ _ _ _ _ => 73
  | .p98 _ _ _ _ _ _ _ _ _ _ _ _ _ _ _ _ _ _ _ _ _ _ _ _ _ _ _ _ _ _ _ => 98
  | .p110 _ _ _ _ _ _ _ _ _ _ _ _ _ _ _ _ => 110
  | .p36 _ _ _ _ _ _ _ _ _ _ _ _ _ _ _ _ _ _ _ => 36
  | .p78 _ _ _ _ _ _ _ _ _ _ _ _ _ _ _ _ => 78
  | .p83 _ _ _ _ _ _ _ _ _ _ _ _ _ _ _ _ _ _ _ _ _ _ _ _ _ _ _ _ _ _ _ _ => 83
  | .p104 _ _ _ _ _ _ _ _ _ _ _ _ _ _ _ _ => 104
def impl_goodNode.st : impl_goodNode.Pt → St
  | .p0 a0 => enter [.v cU0 a0] 0
  | .p18 y1 y2 y3 y4 y5 y6 y7 y8 y9 y10 y11 y12 y13 y14 y15 y16 => ⟨[(3, .po 0 0), (5, .im .bool y1)], [(0, .obj [.im (.int .i64) y2, .im (.int .i64) y3, .im (.int .i64) y4, .im .str y5, .im (.int .i64) y6, .im (.bs cU3) y7, .im (.int .i64) y8, .im .bool y9, .im (.int .i64) y10, .im .bool y11, .im (.int .i64) y12, .im (.bs .str) y13, .im (.int .i64) y14, .im (.bs .str) y15, .im (.int .i64) y16])], 1⟩
  | .p24 y1 y2 y3 y4 y5 y6 y7 y8 y9 y10 y11 y12 y13 y14 y15 y16 => ⟨[(3, .po 0 0), (5, .im .bool y1)], [(0, .obj [.im (.int .i64) y2, .im (.int .i64) y3, .im (.int .i64) y4, .im .str y5, .im (.int .i64) y6, .im (.bs cU3) y7, .im (.int .i64) y8, .im .bool y9, .im (.int .i64) y10, .im .bool y11, .im (.int .i64) y12, .im (.bs .str) y13, .im (.int .i64) y14, .im (.bs .str) y15, .im (.int .i64) y16])], 1⟩
  | .p30 y1 y2 y3 y4 y5 y6 y7 y8 y9 y10 y11 y12 y13 y14 y15 y16 y17 y18 y19 y20 y21 y22 y23 y24 y25 y26 y27 y28 y29 y30 y31 => ⟨[(1, .po 0 0), (3, .po 1 0), (4, .fn 85 [.po 1 0]), (5, .im .bool y1)], [(0, .obj [.im (.int .i64) y2, .im (.int .i64) y3, .im (.int .i64) y4, .im .str y5, .im (.int .i64) y6, .im (.bs cU3) y7, .im (.int .i64) y8, .im .bool y9, .im (.int .i64) y10, .im .bool y11, .im (.int .i64) y12, .im (.bs .str) y13, .im (.int .i64) y14, .im (.bs .str) y15, .im (.int .i64) y16]), (1, .obj [.im (.int .i64) y17, .im (.int .i64) y18, .im (.int .i64) y19, .im .str y20, .im (.int .i64) y21, .im (.bs cU3) y22, .im (.int .i64) y23, .im .bool y24, .im (.int .i64) y25, .im .bool y26, .im (.int .i64) y27, .im (.bs .str) y28, .im (.int .i64) y29, .im (.bs .str) y30, .im (.int .i64) y31])], 2⟩
  | .p55 y1 y2 y3 y4 y5 y6 y7 y8 y9 y10 y11 y12 y13 y14 y15 y16 => ⟨[(3, .po 0 0), (5, .im .bool y1)], [(0, .obj [.im (.int .i64) y2, .im (.int .i64) y3, .im (.int .i64) y4, .im .str y5, .im (.int .i64) y6, .im (.bs cU3) y7, .im (.int .i64) y8, .im .bool y9, .im (.int .i64) y10, .im .bool y11, .im (.int .i64) y12, .im (.bs .str) y13, .im (.int .i64) y14, .im (.bs .str) y15, .im (.int .i64) y16])], 1⟩
  | .p61 y1 y2 y3 y4 y5 y6 y7 y8 y9 y10 y11 y12 y13 y14 y15 y16 => ⟨[(3, .po 0 0), (4, .fn 85 [.po 0 0]), (5, .im .bool y1)], [(0, .obj [.im (.int .i64) y2, .im (.int .i64) y3, .im (.int .i64) y4, .im .str y5, .im (.int .i64) y6, .im (.bs cU3) y7, .im (.int .i64) y8, .im .bool y9, .im (.int .i64) y10, .im .bool y11, .im (.int .i64) y12, .im (.bs .str) y13, .im (.int .i64) y14, .im (.bs .str) y15, .im (.int .i64) y16])], 1⟩
  | .p14 y1 y2 y3 y4 y5 y6 y7 y8 y9 y10 y11 y12 y13 y14 y15 y16 => ⟨[(3, .po 0 0), (5, .im .bool y1)], [(0, .obj [.im (.int .i64) y2, .im (.int .i64) y3, .im (.int .i64) y4, .im .str y5, .im (.int .i64) y6, .im (.bs cU3) y7, .im (.int .i64) y8, .im .bool y9, .im (.int .i64) y10, .im .bool y11, .im (.int .i64) y12, .im (.bs .str) y13, .im (.int .i64) y14, .im (.bs .str) y15, .im (.int .i64) y16])], 1⟩
  | .p73 y1 y2 y3 y4 y5 y6 y7 y8 y9 y10 y11 y12 y13 y14 y15 y16 y17 y18 y19 y20 y21 y22 y23 y24 y25 y26 y27 y28 y29 y30 y31 => ⟨[(1, .po 0 0), (3, .po 1 0), (5, .im .bool y1)], [(0, .obj [.im (.int .i64) y2, .im (.int .i64) y3, .im (.int .i64) y4, .im .str y5, .im (.int .i64) y6, .im (.bs cU3) y7, .im (.int .i64) y8, .im .bool y9, .im (.int .i64) y10, .im .bool y11, .im (.int .i64) y12, .im (.bs .str) y13, .im (.int .i64) y14, .im (.bs .str) y15, .im (.int .i64) y16]), (1, .obj [.im (.int .i64) y17, .im (.int .i64) y18, .im (.int .i64) y19, .im .str y20, .im (.int .i64) y21, .im (.bs cU3) y22, .im (.int .i64) y23, .im .bool y24, .im (.int .i64) y25, .im .bool y26, .im (.int .i64) y27, .im (.bs .str) y28, .im (.int .i64) y29, .im (.bs .str) y30, .im (.int .i64) y31])], 2⟩
  | .p98 y1 y2 y3 y4 y5 y6 y7 y8 y9 y10 y11 y12 y13 y14 y15 y16 y17 y18 y19 y20 y21 y22 y23 y24 y25 y26 y27 y28 y29 y30 y31 => ⟨[(1, .po 0 0), (3, .po 1 0), (8, .im (.int .i64) y1)], [(0, .obj [.im (.int .i64) y2, .im (.int .i64) y3, .im (.int .i64) y4, .im .str y5, .im (.int .i64) y6, .im (.bs cU3) y7, .im (.int .i64) y8, .im .bool y9, .im (.int .i64) y10, .im .bool y11, .im (.int .i64) y12, .im (.bs .str) y13, .im (.int .i64) y14, .im (.bs .str) y15, .im (.int .i64) y16]), (1, .obj [.im (.int .i64) y17, .im (.int .i64) y18, .im (.int .i64) y19, .im .str y20, .im (.int .i64) y21, .im (.bs cU3) y22, .im (.int .i64) y23, .im .bool y24, .im (.int .i64) y25, .im .bool y26, .im (.int .i64) y27, .im (.bs .str) y28, .im (.int .i64) y29, .im (.bs .str) y30, .im (.int .i64) y31])], 2⟩
  | .p110 y1 y2 y3 y4 y5 y6 y7 y8 y9 y10 y11 y12 y13 y14 y15 y16 => ⟨[(3, .po 0 0), (5, .im .bool y1)], [(0, .obj [.im (.int .i64) y2, .im (.int .i64) y3, .im (.int .i64) y4, .im .str y5, .im (.int .i64) y6, .im (.bs cU3) y7, .im (.int .i64) y8, .im .bool y9, .im (.int .i64) y10, .im .bool y11, .im (.int .i64) y12, .im (.bs .str) y13, .im (.int .i64) y14, .im (.bs .str) y15, .im (.int .i64) y16])], 1⟩
  | .p36 y1 y2 y3 y4 y5 y6 y7 y8 y9 y10 y11 y12 y13 y14 y15 y16 y17 y18 y19 => ⟨[(3, .po 0 0), (4, .fn 85 [.po 0 0]), (5, .im .bool y1), (85, .im (.bs cU3) y2), (86, .im (.int .i64) y3), (87, .im (.int .i64) y4)], [(0, .obj [.im (.int .i64) y5, .im (.int .i64) y6, .im (.int .i64) y7, .im .str y8, .im (.int .i64) y9, .im (.bs cU3) y10, .im (.int .i64) y11, .im .bool y12, .im (.int .i64) y13, .im .bool y14, .im (.int .i64) y15, .im (.bs .str) y16, .im (.int .i64) y17, .im (.bs .str) y18, .im (.int .i64) y19])], 1⟩
  | .p78 y1 y2 y3 y4 y5 y6 y7 y8 y9 y10 y11 y12 y13 y14 y15 y16 => ⟨[(3, .po 0 0), (5, .im .bool y1)], [(0, .obj [.im (.int .i64) y2, .im (.int .i64) y3, .im (.int .i64) y4, .im .str y5, .im (.int .i64) y6, .im (.bs cU3) y7, .im (.int .i64) y8, .im .bool y9, .im (.int .i64) y10, .im .bool y11, .im (.int .i64) y12, .im (.bs .str) y13, .im (.int .i64) y14, .im (.bs .str) y15, .im (.int .i64) y16])], 1⟩
  | .p83 y1 y2 y3 y4 y5 y6 y7 y8 y9 y10 y11 y12 y13 y14 y15 y16 y17 y18 y19 y20 y21 y22 y23 y24 y25 y26 y27 y28 y29 y30 y31 y32 => ⟨[(1, .po 0 0), (3, .po 1 0), (5, .im .bool y1), (198, .im .bool y2)], [(0, .obj [.im (.int .i64) y3, .im (.int .i64) y4, .im (.int .i64) y5, .im .str y6, .im (.int .i64) y7, .im (.bs cU3) y8, .im (.int .i64) y9, .im .bool y10, .im (.int .i64) y11, .im .bool y12, .im (.int .i64) y13, .im (.bs .str) y14, .im (.int .i64) y15, .im (.bs .str) y16, .im (.int .i64) y17]), (1, .obj [.im (.int .i64) y18, .im (.int .i64) y19, .im (.int .i64) y20, .im .str y21, .im (.int .i64) y22, .im (.bs cU3) y23, .im (.int .i64) y24, .im .bool y25, .im (.int .i64) y26, .im .bool y27, .im (.int .i64) y28, .im (.bs .str) y29, .im (.int .i64) y30, .im (.bs .str) y31, .im (.int .i64) y32])], 2⟩
  | .p104 y1 y2 y3 y4 y5 y6 y7 y8 y9 y10 y11 y12 y13 y14 y15 y16 => ⟨[(3, .po 0 0), (5, .im .bool y1)], [(0, .obj [.im (.int .i64) y2, .im (.int .i64) y3, .im (.int .i64) y4, .im .str y5, .im (.int .i64) y6, .im (.bs cU3) y7, .im (.int .i64) y8, .im .bool y9, .im (.int .i64) y10, .im .bool y11, .im (.int .i64) y12, .im (.bs .str) y13, .im (.int .i64) y14, .im (.bs .str) y15, .im (.int .i64) y16])], 1⟩
def impl_goodNode.step (n : Nat) (K : impl_goodNode.Pt → Option (Tup [.bool])) : impl_goodNode.Pt → Option (Tup [.bool])
  | .p0 a0 => cond (decide (a0.1 = (1 : Int))) (cond (decide ((0 : Int) ≤ a0.2.1)) (K (.p18 (decide (a0.2.2.2.2.2.2.2.2.2.2.2.2.2.2.1 = (0 : Int))) (0 : Int) a0.2.1 a0.2.2.1 a0.2.2.2.1 a0.2.2.2.2.1 a0.2.2.2.2.2.1 a0.2.2.2.2.2.2.1 a0.2.2.2.2.2.2.2.1 a0.2.2.2.2.2.2.2.2.1 a0.2.2.2.2.2.2.2.2.2.1 a0.2.2.2.2.2.2.2.2.2.2.1 a0.2.2.2.2.2.2.2.2.2.2.2.1 a0.2.2.2.2.2.2.2.2.2.2.2.2.1 a0.2.2.2.2.2.2.2.2.2.2.2.2.2.1 (0 : Int))) (K (.p18 false (0 : Int) a0.2.1 a0.2.2.1 a0.2.2.2.1 a0.2.2.2.2.1 a0.2.2.2.2.2.1 a0.2.2.2.2.2.2.1 a0.2.2.2.2.2.2.2.1 a0.2.2.2.2.2.2.2.2.1 a0.2.2.2.2.2.2.2.2.2.1 a0.2.2.2.2.2.2.2.2.2.2.1 a0.2.2.2.2.2.2.2.2.2.2.2.1 a0.2.2.2.2.2.2.2.2.2.2.2.2.1 a0.2.2.2.2.2.2.2.2.2.2.2.2.2.1 (0 : Int)))) (cond (decide (a0.1 = (2 : Int))) ((impl_printed n a0.2.2.2.1 (100 : Int)).bind fun r4 => cond r4 (K (.p24 (decide (a0.2.2.2.2.2.2.2.2.2.2.2.2.2.2.1 = (0 : Int))) (0 : Int) a0.2.1 a0.2.2.1 a0.2.2.2.1 a0.2.2.2.2.1 a0.2.2.2.2.2.1 a0.2.2.2.2.2.2.1 a0.2.2.2.2.2.2.2.1 a0.2.2.2.2.2.2.2.2.1 a0.2.2.2.2.2.2.2.2.2.1 a0.2.2.2.2.2.2.2.2.2.2.1 a0.2.2.2.2.2.2.2.2.2.2.2.1 a0.2.2.2.2.2.2.2.2.2.2.2.2.1 a0.2.2.2.2.2.2.2.2.2.2.2.2.2.1 (0 : Int))) (K (.p24 false (0 : Int) a0.2.1 a0.2.2.1 a0.2.2.2.1 a0.2.2.2.2.1 a0.2.2.2.2.2.1 a0.2.2.2.2.2.2.1 a0.2.2.2.2.2.2.2.1 a0.2.2.2.2.2.2.2.2.1 a0.2.2.2.2.2.2.2.2.2.1 a0.2.2.2.2.2.2.2.2.2.2.1 a0.2.2.2.2.2.2.2.2.2.2.2.1 a0.2.2.2.2.2.2.2.2.2.2.2.2.1 a0.2.2.2.2.2.2.2.2.2.2.2.2.2.1 (0 : Int)))) (cond (decide (a0.1 = (3 : Int))) (cond (decide (a0.2.2.2.2.2.2.2.2.2.2.2.2.2.2.1 = (0 : Int))) (cond (seq a0.2.2.2.1 (⟨#[]⟩ : ByteArray)) ((impl_GoodMatchers n a0.2.2.2.2.2.1).bind fun r4 => cond r4 (cond (decide (((List.length a0.2.2.2.2.2.1) : Int) < (10 : Int))) (cond (!(seq a0.2.2.2.1 (⟨#[]⟩ : ByteArray))) ((impl_goodMoment n a0).bind fun r5 => K (.p30 r5 a0.1 a0.2.1 a0.2.2.1 a0.2.2.2.1 a0.2.2.2.2.1 a0.2.2.2.2.2.1 a0.2.2.2.2.2.2.1 a0.2.2.2.2.2.2.2.1 a0.2.2.2.2.2.2.2.2.1 a0.2.2.2.2.2.2.2.2.2.1 a0.2.2.2.2.2.2.2.2.2.2.1 a0.2.2.2.2.2.2.2.2.2.2.2.1 a0.2.2.2.2.2.2.2.2.2.2.2.2.1 a0.2.2.2.2.2.2.2.2.2.2.2.2.2.1 a0.2.2.2.2.2.2.2.2.2.2.2.2.2.2.1 (0 : Int) a0.2.1 a0.2.2.1 a0.2.2.2.1 a0.2.2.2.2.1 a0.2.2.2.2.2.1 a0.2.2.2.2.2.2.1 a0.2.2.2.2.2.2.2.1 a0.2.2.2.2.2.2.2.2.1 a0.2.2.2.2.2.2.2.2.2.1 a0.2.2.2.2.2.2.2.2.2.2.1 a0.2.2.2.2.2.2.2.2.2.2.2.1 a0.2.2.2.2.2.2.2.2.2.2.2.2.1 a0.2.2.2.2.2.2.2.2.2.2.2.2.2.1 (0 : Int))) (cond (decide ((0 : Int) < ((List.length a0.2.2.2.2.2.1) : Int))) ((impl_goodMoment n a0).bind fun r5 => K (.p30 r5 a0.1 a0.2.1 a0.2.2.1 a0.2.2.2.1 a0.2.2.2.2.1 a0.2.2.2.2.2.1 a0.2.2.2.2.2.2.1 a0.2.2.2.2.2.2.2.1 a0.2.2.2.2.2.2.2.2.1 a0.2.2.2.2.2.2.2.2.2.1 a0.2.2.2.2.2.2.2.2.2.2.1 a0.2.2.2.2.2.2.2.2.2.2.2.1 a0.2.2.2.2.2.2.2.2.2.2.2.2.1 a0.2.2.2.2.2.2.2.2.2.2.2.2.2.1 a0.2.2.2.2.2.2.2.2.2.2.2.2.2.2.1 (0 : Int) a0.2.1 a0.2.2.1 a0.2.2.2.1 a0.2.2.2.2.1 a0.2.2.2.2.2.1 a0.2.2.2.2.2.2.1 a0.2.2.2.2.2.2.2.1 a0.2.2.2.2.2.2.2.2.1 a0.2.2.2.2.2.2.2.2.2.1 a0.2.2.2.2.2.2.2.2.2.2.1 a0.2.2.2.2.2.2.2.2.2.2.2.1 a0.2.2.2.2.2.2.2.2.2.2.2.2.1 a0.2.2.2.2.2.2.2.2.2.2.2.2.2.1 (0 : Int))) (K (.p30 false a0.1 a0.2.1 a0.2.2.1 a0.2.2.2.1 a0.2.2.2.2.1 a0.2.2.2.2.2.1 a0.2.2.2.2.2.2.1 a0.2.2.2.2.2.2.2.1 a0.2.2.2.2.2.2.2.2.1 a0.2.2.2.2.2.2.2.2.2.1 a0.2.2.2.2.2.2.2.2.2.2.1 a0.2.2.2.2.2.2.2.2.2.2.2.1 a0.2.2.2.2.2.2.2.2.2.2.2.2.1 a0.2.2.2.2.2.2.2.2.2.2.2.2.2.1 a0.2.2.2.2.2.2.2.2.2.2.2.2.2.2.1 (0 : Int) a0.2.1 a0.2.2.1 a0.2.2.2.1 a0.2.2.2.2.1 a0.2.2.2.2.2.1 a0.2.2.2.2.2.2.1 a0.2.2.2.2.2.2.2.1 a0.2.2.2.2.2.2.2.2.1 a0.2.2.2.2.2.2.2.2.2.1 a0.2.2.2.2.2.2.2.2.2.2.1 a0.2.2.2.2.2.2.2.2.2.2.2.1 a0.2.2.2.2.2.2.2.2.2.2.2.2.1 a0.2.2.2.2.2.2.2.2.2.2.2.2.2.1 (0 : Int))))) (K (.p30 false a0.1 a0.2.1 a0.2.2.1 a0.2.2.2.1 a0.2.2.2.2.1 a0.2.2.2.2.2.1 a0.2.2.2.2.2.2.1 a0.2.2.2.2.2.2.2.1 a0.2.2.2.2.2.2.2.2.1 a0.2.2.2.2.2.2.2.2.2.1 a0.2.2.2.2.2.2.2.2.2.2.1 a0.2.2.2.2.2.2.2.2.2.2.2.1 a0.2.2.2.2.2.2.2.2.2.2.2.2.1 a0.2.2.2.2.2.2.2.2.2.2.2.2.2.1 a0.2.2.2.2.2.2.2.2.2.2.2.2.2.2.1 (0 : Int) a0.2.1 a0.2.2.1 a0.2.2.2.1 a0.2.2.2.2.1 a0.2.2.2.2.2.1 a0.2.2.2.2.2.2.1 a0.2.2.2.2.2.2.2.1 a0.2.2.2.2.2.2.2.2.1 a0.2.2.2.2.2.2.2.2.2.1 a0.2.2.2.2.2.2.2.2.2.2.1 a0.2.2.2.2.2.2.2.2.2.2.2.1 a0.2.2.2.2.2.2.2.2.2.2.2.2.1 a0.2.2.2.2.2.2.2.2.2.2.2.2.2.1 (0 : Int)))) (K (.p30 false a0.1 a0.2.1 a0.2.2.1 a0.2.2.2.1 a0.2.2.2.2.1 a0.2.2.2.2.2.1 a0.2.2.2.2.2.2.1 a0.2.2.2.2.2.2.2.1 a0.2.2.2.2.2.2.2.2.1 a0.2.2.2.2.2.2.2.2.2.1 a0.2.2.2.2.2.2.2.2.2.2.1 a0.2.2.2.2.2.2.2.2.2.2.2.1 a0.2.2.2.2.2.2.2.2.2.2.2.2.1 a0.2.2.2.2.2.2.2.2.2.2.2.2.2.1 a0.2.2.2.2.2.2.2.2.2.2.2.2.2.2.1 (0 : Int) a0.2.1 a0.2.2.1 a0.2.2.2.1 a0.2.2.2.2.1 a0.2.2.2.2.2.1 a0.2.2.2.2.2.2.1 a0.2.2.2.2.2.2.2.1 a0.2.2.2.2.2.2.2.2.1 a0.2.2.2.2.2.2.2.2.2.1 a0.2.2.2.2.2.2.2.2.2.2.1 a0.2.2.2.2.2.2.2.2.2.2.2.1 a0.2.2.2.2.2.2.2.2.2.2.2.2.1 a0.2.2.2.2.2.2.2.2.2.2.2.2.2.1 (0 : Int)))) ((impl_isName n a0.2.2.2.1).bind fun r4 => cond r4 ((impl_isWord n a0.2.2.2.1).bind fun r5 => cond (!r5) ((impl_GoodMatchers n a0.2.2.2.2.2.1).bind fun r6 => cond r6 (cond (decide (((List.length a0.2.2.2.2.2.1) : Int) < (10 : Int))) (cond (!(seq a0.2.2.2.1 (⟨#[]⟩ : ByteArray))) ((impl_goodMoment n a0).bind fun r7 => K (.p30 r7 a0.1 a0.2.1 a0.2.2.1 a0.2.2.2.1 a0.2.2.2.2.1 a0.2.2.2.2.2.1 a0.2.2.2.2.2.2.1 a0.2.2.2.2.2.2.2.1 a0.2.2.2.2.2.2.2.2.1 a0.2.2.2.2.2.2.2.2.2.1 a0.2.2.2.2.2.2.2.2.2.2.1 a0.2.2.2.2.2.2.2.2.2.2.2.1 a0.2.2.2.2.2.2.2.2.2.2.2.2.1 a0.2.2.2.2.2.2.2.2.2.2.2.2.2.1 a0.2.2.2.2.2.2.2.2.2.2.2.2.2.2.1 (0 : Int) a0.2.1 a0.2.2.1 a0.2.2.2.1 a0.2.2.2.2.1 a0.2.2.2.2.2.1 a0.2.2.2.2.2.2.1 a0.2.2.2.2.2.2.2.1 a0.2.2.2.2.2.2.2.2.1 a0.2.2.2.2.2.2.2.2.2.1 a0.2.2.2.2.2.2.2.2.2.2.1 a0.2.2.2.2.2.2.2.2.2.2.2.1 a0.2.2.2.2.2.2.2.2.2.2.2.2.1 a0.2.2.2.2.2.2.2.2.2.2.2.2.2.1 (0 : Int))) (cond (decide ((0 : Int) < ((List.length a0.2.2.2.2.2.1) : Int))) ((impl_goodMoment n a0).bind fun r7 => K (.p30 r7 a0.1 a0.2.1 a0.2.2.1 a0.2.2.2.1 a0.2.2.2.2.1 a0.2.2.2.2.2.1 a0.2.2.2.2.2.2.1 a0.2.2.2.2.2.2.2.1 a0.2.2.2.2.2.2.2.2.1 a0.2.2.2.2.2.2.2.2.2.1 a0.2.2.2.2.2.2.2.2.2.2.1 a0.2.2.2.2.2.2.2.2.2.2.2.1 a0.2.2.2.2.2.2.2.2.2.2.2.2.1 a0.2.2.2.2.2.2.2.2.2.2.2.2.2.1 a0.2.2.2.2.2.2.2.2.2.2.2.2.2.2.1 (0 : Int) a0.2.1 a0.2.2.1 a0.2.2.2.1 a0.2.2.2.2.1 a0.2.2.2.2.2.1 a0.2.2.2.2.2.2.1 a0.2.2.2.2.2.2.2.1 a0.2.2.2.2.2.2.2.2.1 a0.2.2.2.2.2.2.2.2.2.1 a0.2.2.2.2.2.2.2.2.2.2.1 a0.2.2.2.2.2.2.2.2.2.2.2.1 a0.2.2.2.2.2.2.2.2.2.2.2.2.1 a0.2.2.2.2.2.2.2.2.2.2.2.2.2.1 (0 : Int))) (K (.p30 false a0.1 a0.2.1 a0.2.2.1 a0.2.2.2.1 a0.2.2.2.2.1 a0.2.2.2.2.2.1 a0.2.2.2.2.2.2.1 a0.2.2.2.2.2.2.2.1 a0.2.2.2.2.2.2.2.2.1 a0.2.2.2.2.2.2.2.2.2.1 a0.2.2.2.2.2.2.2.2.2.2.1 a0.2.2.2.2.2.2.2.2.2.2.2.1 a0.2.2.2.2.2.2.2.2.2.2.2.2.1 a0.2.2.2.2.2.2.2.2.2.2.2.2.2.1 a0.2.2.2.2.2.2.2.2.2.2.2.2.2.2.1 (0 : Int) a0.2.1 a0.2.2.1 a0.2.2.2.1 a0.2.2.2.2.1 a0.2.2.2.2.2.1 a0.2.2.2.2.2.2.1 a0.2.2.2.2.2.2.2.1 a0.2.2.2.2.2.2.2.2.1 a0.2.2.2.2.2.2.2.2.2.1 a0.2.2.2.2.2.2.2.2.2.2.1 a0.2.2.2.2.2.2.2.2.2.2.2.1 a0.2.2.2.2.2.2.2.2.2.2.2.2.1 a0.2.2.2.2.2.2.2.2.2.2.2.2.2.1 (0 : Int))))) (K (.p30 false a0.1 a0.2.1 a0.2.2.1 a0.2.2.2.1 a0.2.2.2.2.1 a0.2.2.2.2.2.1 a0.2.2.2.2.2.2.1 a0.2.2.2.2.2.2.2.1 a0.2.2.2.2.2.2.2.2.1 a0.2.2.2.2.2.2.2.2.2.1 a0.2.2.2.2.2.2.2.2.2.2.1 a0.2.2.2.2.2.2.2.2.2.2.2.1 a0.2.2.2.2.2.2.2.2.2.2.2.2.1 a0.2.2.2.2.2.2.2.2.2.2.2.2.2.1 a0.2.2.2.2.2.2.2.2.2.2.2.2.2.2.1 (0 : Int) a0.2.1 a0.2.2.1 a0.2.2.2.1 a0.2.2.2.2.1 a0.2.2.2.2.2.1 a0.2.2.2.2.2.2.1 a0.2.2.2.2.2.2.2.1 a0.2.2.2.2.2.2.2.2.1 a0.2.2.2.2.2.2.2.2.2.1 a0.2.2.2.2.2.2.2.2.2.2.1 a0.2.2.2.2.2.2.2.2.2.2.2.1 a0.2.2.2.2.2.2.2.2.2.2.2.2.1 a0.2.2.2.2.2.2.2.2.2.2.2.2.2.1 (0 : Int)))) (K (.p30 false a0.1 a0.2.1 a0.2.2.1 a0.2.2.2.1 a0.2.2.2.2.1 a0.2.2.2.2.2.1 a0.2.2.2.2.2.2.1 a0.2.2.2.2.2.2.2.1 a0.2.2.2.2.2.2.2.2.1 a0.2.2.2.2.2.2.2.2.2.1 a0.2.2.2.2.2.2.2.2.2.2.1 a0.2.2.2.2.2.2.2.2.2.2.2.1 a0.2.2.2.2.2.2.2.2.2.2.2.2.1 a0.2.2.2.2.2.2.2.2.2.2.2.2.2.1 a0.2.2.2.2.2.2.2.2.2.2.2.2.2.2.1 (0 : Int) a0.2.1 a0.2.2.1 a0.2.2.2.1 a0.2.2.2.2.1 a0.2.2.2.2.2.1 a0.2.2.2.2.2.2.1 a0.2.2.2.2.2.2.2.1 a0.2.2.2.2.2.2.2.2.1 a0.2.2.2.2.2.2.2.2.2.1 a0.2.2.2.2.2.2.2.2.2.2.1 a0.2.2.2.2.2.2.2.2.2.2.2.1 a0.2.2.2.2.2.2.2.2.2.2.2.2.1 a0.2.2.2.2.2.2.2.2.2.2.2.2.2.1 (0 : Int)))) (K (.p30 false a0.1 a0.2.1 a0.2.2.1 a0.2.2.2.1 a0.2.2.2.2.1 a0.2.2.2.2.2.1 a0.2.2.2.2.2.2.1 a0.2.2.2.2.2.2.2.1 a0.2.2.2.2.2.2.2.2.1 a0.2.2.2.2.2.2.2.2.2.1 a0.2.2.2.2.2.2.2.2.2.2.1 a0.2.2.2.2.2.2.2.2.2.2.2.1 a0.2.2.2.2.2.2.2.2.2.2.2.2.1 a0.2.2.2.2.2.2.2.2.2.2.2.2.2.1 a0.2.2.2.2.2.2.2.2.2.2.2.2.2.2.1 (0 : Int) a0.2.1 a0.2.2.1 a0.2.2.2.1 a0.2.2.2.2.1 a0.2.2.2.2.2.1 a0.2.2.2.2.2.2.1 a0.2.2.2.2.2.2.2.1 a0.2.2.2.2.2.2.2.2.1 a0.2.2.2.2.2.2.2.2.2.1 a0.2.2.2.2.2.2.2.2.2.2.1 a0.2.2.2.2.2.2.2.2.2.2.2.1 a0.2.2.2.2.2.2.2.2.2.2.2.2.1 a0.2.2.2.2.2.2.2.2.2.2.2.2.2.1 (0 : Int)))) (K (.p30 false a0.1 a0.2.1 a0.2.2.1 a0.2.2.2.1 a0.2.2.2.2.1 a0.2.2.2.2.2.1 a0.2.2.2.2.2.2.1 a0.2.2.2.2.2.2.2.1 a0.2.2.2.2.2.2.2.2.1 a0.2.2.2.2.2.2.2.2.2.1 a0.2.2.2.2.2.2.2.2.2.2.1 a0.2.2.2.2.2.2.2.2.2.2.2.1 a0.2.2.2.2.2.2.2.2.2.2.2.2.1 a0.2.2.2.2.2.2.2.2.2.2.2.2.2.1 a0.2.2.2.2.2.2.2.2.2.2.2.2.2.2.1 (0 : Int) a0.2.1 a0.2.2.1 a0.2.2.2.1 a0.2.2.2.2.1 a0.2.2.2.2.2.1 a0.2.2.2.2.2.2.1 a0.2.2.2.2.2.2.2.1 a0.2.2.2.2.2.2.2.2.1 a0.2.2.2.2.2.2.2.2.2.1 a0.2.2.2.2.2.2.2.2.2.2.1 a0.2.2.2.2.2.2.2.2.2.2.2.1 a0.2.2.2.2.2.2.2.2.2.2.2.2.1 a0.2.2.2.2.2.2.2.2.2.2.2.2.2.1 (0 : Int))))) (K (.p30 false a0.1 a0.2.1 a0.2.2.1 a0.2.2.2.1 a0.2.2.2.2.1 a0.2.2.2.2.2.1 a0.2.2.2.2.2.2.1 a0.2.2.2.2.2.2.2.1 a0.2.2.2.2.2.2.2.2.1 a0.2.2.2.2.2.2.2.2.2.1 a0.2.2.2.2.2.2.2.2.2.2.1 a0.2.2.2.2.2.2.2.2.2.2.2.1 a0.2.2.2.2.2.2.2.2.2.2.2.2.1 a0.2.2.2.2.2.2.2.2.2.2.2.2.2.1 a0.2.2.2.2.2.2.2.2.2.2.2.2.2.2.1 (0 : Int) a0.2.1 a0.2.2.1 a0.2.2.2.1 a0.2.2.2.2.1 a0.2.2.2.2.2.1 a0.2.2.2.2.2.2.1 a0.2.2.2.2.2.2.2.1 a0.2.2.2.2.2.2.2.2.1 a0.2.2.2.2.2.2.2.2.2.1 a0.2.2.2.2.2.2.2.2.2.2.1 a0.2.2.2.2.2.2.2.2.2.2.2.1 a0.2.2.2.2.2.2.2.2.2.2.2.2.1 a0.2.2.2.2.2.2.2.2.2.2.2.2.2.1 (0 : Int)))) (cond (decide (a0.1 = (4 : Int))) (cond (decide (a0.2.2.2.2.2.2.2.2.2.2.2.2.2.2.1 = (1 : Int))) (cond (decide ((1 : Int) ≤ a0.2.1)) (K (.p55 (decide (a0.2.1 ≤ (1000000000000 : Int))) (0 : Int) a0.2.1 a0.2.2.1 a0.2.2.2.1 a0.2.2.2.2.1 a0.2.2.2.2.2.1 a0.2.2.2.2.2.2.1 a0.2.2.2.2.2.2.2.1 a0.2.2.2.2.2.2.2.2.1 a0.2.2.2.2.2.2.2.2.2.1 a0.2.2.2.2.2.2.2.2.2.2.1 a0.2.2.2.2.2.2.2.2.2.2.2.1 a0.2.2.2.2.2.2.2.2.2.2.2.2.1 a0.2.2.2.2.2.2.2.2.2.2.2.2.2.1 (0 : Int))) (K (.p55 false (0 : Int) a0.2.1 a0.2.2.1 a0.2.2.2.1 a0.2.2.2.2.1 a0.2.2.2.2.2.1 a0.2.2.2.2.2.2.1 a0.2.2.2.2.2.2.2.1 a0.2.2.2.2.2.2.2.2.1 a0.2.2.2.2.2.2.2.2.2.1 a0.2.2.2.2.2.2.2.2.2.2.1 a0.2.2.2.2.2.2.2.2.2.2.2.1 a0.2.2.2.2.2.2.2.2.2.2.2.2.1 a0.2.2.2.2.2.2.2.2.2.2.2.2.2.1 (0 : Int)))) (K (.p55 false (0 : Int) a0.2.1 a0.2.2.1 a0.2.2.2.1 a0.2.2.2.2.1 a0.2.2.2.2.2.1 a0.2.2.2.2.2.2.1 a0.2.2.2.2.2.2.2.1 a0.2.2.2.2.2.2.2.2.1 a0.2.2.2.2.2.2.2.2.2.1 a0.2.2.2.2.2.2.2.2.2.2.1 a0.2.2.2.2.2.2.2.2.2.2.2.1 a0.2.2.2.2.2.2.2.2.2.2.2.2.1 a0.2.2.2.2.2.2.2.2.2.2.2.2.2.1 (0 : Int)))) (cond (decide (a0.1 = (5 : Int))) (cond (decide (a0.2.2.2.2.2.2.2.2.2.2.2.2.2.2.1 = (1 : Int))) (cond (decide ((1 : Int) ≤ a0.2.1)) (cond (decide (a0.2.1 ≤ (1000000000000 : Int))) (cond (decide ((1 : Int) ≤ a0.2.2.1)) (cond (decide (a0.2.2.1 ≤ a0.2.1)) ((impl_goodMoment n a0).bind fun r4 => K (.p61 r4 (0 : Int) a0.2.1 a0.2.2.1 a0.2.2.2.1 a0.2.2.2.2.1 a0.2.2.2.2.2.1 a0.2.2.2.2.2.2.1 a0.2.2.2.2.2.2.2.1 a0.2.2.2.2.2.2.2.2.1 a0.2.2.2.2.2.2.2.2.2.1 a0.2.2.2.2.2.2.2.2.2.2.1 a0.2.2.2.2.2.2.2.2.2.2.2.1 a0.2.2.2.2.2.2.2.2.2.2.2.2.1 a0.2.2.2.2.2.2.2.2.2.2.2.2.2.1 (0 : Int))) (K (.p61 false (0 : Int) a0.2.1 a0.2.2.1 a0.2.2.2.1 a0.2.2.2.2.1 a0.2.2.2.2.2.1 a0.2.2.2.2.2.2.1 a0.2.2.2.2.2.2.2.1 a0.2.2.2.2.2.2.2.2.1 a0.2.2.2.2.2.2.2.2.2.1 a0.2.2.2.2.2.2.2.2.2.2.1 a0.2.2.2.2.2.2.2.2.2.2.2.1 a0.2.2.2.2.2.2.2.2.2.2.2.2.1 a0.2.2.2.2.2.2.2.2.2.2.2.2.2.1 (0 : Int)))) (K (.p61 false (0 : Int) a0.2.1 a0.2.2.1 a0.2.2.2.1 a0.2.2.2.2.1 a0.2.2.2.2.2.1 a0.2.2.2.2.2.2.1 a0.2.2.2.2.2.2.2.1 a0.2.2.2.2.2.2.2.2.1 a0.2.2.2.2.2.2.2.2.2.1 a0.2.2.2.2.2.2.2.2.2.2.1 a0.2.2.2.2.2.2.2.2.2.2.2.1 a0.2.2.2.2.2.2.2.2.2.2.2.2.1 a0.2.2.2.2.2.2.2.2.2.2.2.2.2.1 (0 : Int)))) (K (.p61 false (0 : Int) a0.2.1 a0.2.2.1 a0.2.2.2.1 a0.2.2.2.2.1 a0.2.2.2.2.2.1 a0.2.2.2.2.2.2.1 a0.2.2.2.2.2.2.2.1 a0.2.2.2.2.2.2.2.2.1 a0.2.2.2.2.2.2.2.2.2.1 a0.2.2.2.2.2.2.2.2.2.2.1 a0.2.2.2.2.2.2.2.2.2.2.2.1 a0.2.2.2.2.2.2.2.2.2.2.2.2.1 a0.2.2.2.2.2.2.2.2.2.2.2.2.2.1 (0 : Int)))) (K (.p61 false (0 : Int) a0.2.1 a0.2.2.1 a0.2.2.2.1 a0.2.2.2.2.1 a0.2.2.2.2.2.1 a0.2.2.2.2.2.2.1 a0.2.2.2.2.2.2.2.1 a0.2.2.2.2.2.2.2.2.1 a0.2.2.2.2.2.2.2.2.2.1 a0.2.2.2.2.2.2.2.2.2.2.1 a0.2.2.2.2.2.2.2.2.2.2.2.1 a0.2.2.2.2.2.2.2.2.2.2.2.2.1 a0.2.2.2.2.2.2.2.2.2.2.2.2.2.1 (0 : Int)))) (K (.p61 false (0 : Int) a0.2.1 a0.2.2.1 a0.2.2.2.1 a0.2.2.2.2.1 a0.2.2.2.2.2.1 a0.2.2.2.2.2.2.1 a0.2.2.2.2.2.2.2.1 a0.2.2.2.2.2.2.2.2.1 a0.2.2.2.2.2.2.2.2.2.1 a0.2.2.2.2.2.2.2.2.2.2.1 a0.2.2.2.2.2.2.2.2.2.2.2.1 a0.2.2.2.2.2.2.2.2.2.2.2.2.1 a0.2.2.2.2.2.2.2.2.2.2.2.2.2.1 (0 : Int)))) (cond (decide (a0.1 = (6 : Int))) (K (.p14 (decide (a0.2.2.2.2.2.2.2.2.2.2.2.2.2.2.1 = (1 : Int))) (0 : Int) a0.2.1 a0.2.2.1 a0.2.2.2.1 a0.2.2.2.2.1 a0.2.2.2.2.2.1 a0.2.2.2.2.2.2.1 a0.2.2.2.2.2.2.2.1 a0.2.2.2.2.2.2.2.2.1 a0.2.2.2.2.2.2.2.2.2.1 a0.2.2.2.2.2.2.2.2.2.2.1 a0.2.2.2.2.2.2.2.2.2.2.2.1 a0.2.2.2.2.2.2.2.2.2.2.2.2.1 a0.2.2.2.2.2.2.2.2.2.2.2.2.2.1 (0 : Int))) (cond (decide (a0.1 = (7 : Int))) (cond (decide (a0.2.2.2.2.2.2.2.2.2.2.2.2.2.2.1 = (2 : Int))) (cond (decide ((1 : Int) ≤ a0.2.2.2.2.1)) (cond (decide (a0.2.2.2.2.1 ≤ (14 : Int))) (cond (!a0.2.2.2.2.2.2.2.2.2.1) ((impl_goodBy n a0).bind fun r4 => K (.p73 r4 a0.1 a0.2.1 a0.2.2.1 a0.2.2.2.1 a0.2.2.2.2.1 a0.2.2.2.2.2.1 a0.2.2.2.2.2.2.1 a0.2.2.2.2.2.2.2.1 a0.2.2.2.2.2.2.2.2.1 a0.2.2.2.2.2.2.2.2.2.1 a0.2.2.2.2.2.2.2.2.2.2.1 a0.2.2.2.2.2.2.2.2.2.2.2.1 a0.2.2.2.2.2.2.2.2.2.2.2.2.1 a0.2.2.2.2.2.2.2.2.2.2.2.2.2.1 a0.2.2.2.2.2.2.2.2.2.2.2.2.2.2.1 (0 : Int) a0.2.1 a0.2.2.1 a0.2.2.2.1 a0.2.2.2.2.1 a0.2.2.2.2.2.1 a0.2.2.2.2.2.2.1 a0.2.2.2.2.2.2.2.1 a0.2.2.2.2.2.2.2.2.1 a0.2.2.2.2.2.2.2.2.2.1 a0.2.2.2.2.2.2.2.2.2.2.1 a0.2.2.2.2.2.2.2.2.2.2.2.1 a0.2.2.2.2.2.2.2.2.2.2.2.2.1 a0.2.2.2.2.2.2.2.2.2.2.2.2.2.1 (0 : Int))) ((impl_compares n a0.2.2.2.2.1).bind fun r4 => cond r4 ((impl_goodBy n a0).bind fun r5 => K (.p73 r5 a0.1 a0.2.1 a0.2.2.1 a0.2.2.2.1 a0.2.2.2.2.1 a0.2.2.2.2.2.1 a0.2.2.2.2.2.2.1 a0.2.2.2.2.2.2.2.1 a0.2.2.2.2.2.2.2.2.1 a0.2.2.2.2.2.2.2.2.2.1 a0.2.2.2.2.2.2.2.2.2.2.1 a0.2.2.2.2.2.2.2.2.2.2.2.1 a0.2.2.2.2.2.2.2.2.2.2.2.2.1 a0.2.2.2.2.2.2.2.2.2.2.2.2.2.1 a0.2.2.2.2.2.2.2.2.2.2.2.2.2.2.1 (0 : Int) a0.2.1 a0.2.2.1 a0.2.2.2.1 a0.2.2.2.2.1 a0.2.2.2.2.2.1 a0.2.2.2.2.2.2.1 a0.2.2.2.2.2.2.2.1 a0.2.2.2.2.2.2.2.2.1 a0.2.2.2.2.2.2.2.2.2.1 a0.2.2.2.2.2.2.2.2.2.2.1 a0.2.2.2.2.2.2.2.2.2.2.2.1 a0.2.2.2.2.2.2.2.2.2.2.2.2.1 a0.2.2.2.2.2.2.2.2.2.2.2.2.2.1 (0 : Int))) (K (.p73 false a0.1 a0.2.1 a0.2.2.1 a0.2.2.2.1 a0.2.2.2.2.1 a0.2.2.2.2.2.1 a0.2.2.2.2.2.2.1 a0.2.2.2.2.2.2.2.1 a0.2.2.2.2.2.2.2.2.1 a0.2.2.2.2.2.2.2.2.2.1 a0.2.2.2.2.2.2.2.2.2.2.1 a0.2.2.2.2.2.2.2.2.2.2.2.1 a0.2.2.2.2.2.2.2.2.2.2.2.2.1 a0.2.2.2.2.2.2.2.2.2.2.2.2.2.1 a0.2.2.2.2.2.2.2.2.2.2.2.2.2.2.1 (0 : Int) a0.2.1 a0.2.2.1 a0.2.2.2.1 a0.2.2.2.2.1 a0.2.2.2.2.2.1 a0.2.2.2.2.2.2.1 a0.2.2.2.2.2.2.2.1 a0.2.2.2.2.2.2.2.2.1 a0.2.2.2.2.2.2.2.2.2.1 a0.2.2.2.2.2.2.2.2.2.2.1 a0.2.2.2.2.2.2.2.2.2.2.2.1 a0.2.2.2.2.2.2.2.2.2.2.2.2.1 a0.2.2.2.2.2.2.2.2.2.2.2.2.2.1 (0 : Int))))) (K (.p73 false a0.1 a0.2.1 a0.2.2.1 a0.2.2.2.1 a0.2.2.2.2.1 a0.2.2.2.2.2.1 a0.2.2.2.2.2.2.1 a0.2.2.2.2.2.2.2.1 a0.2.2.2.2.2.2.2.2.1 a0.2.2.2.2.2.2.2.2.2.1 a0.2.2.2.2.2.2.2.2.2.2.1 a0.2.2.2.2.2.2.2.2.2.2.2.1 a0.2.2.2.2.2.2.2.2.2.2.2.2.1 a0.2.2.2.2.2.2.2.2.2.2.2.2.2.1 a0.2.2.2.2.2.2.2.2.2.2.2.2.2.2.1 (0 : Int) a0.2.1 a0.2.2.1 a0.2.2.2.1 a0.2.2.2.2.1 a0.2.2.2.2.2.1 a0.2.2.2.2.2.2.1 a0.2.2.2.2.2.2.2.1 a0.2.2.2.2.2.2.2.2.1 a0.2.2.2.2.2.2.2.2.2.1 a0.2.2.2.2.2.2.2.2.2.2.1 a0.2.2.2.2.2.2.2.2.2.2.2.1 a0.2.2.2.2.2.2.2.2.2.2.2.2.1 a0.2.2.2.2.2.2.2.2.2.2.2.2.2.1 (0 : Int)))) (K (.p73 false a0.1 a0.2.1 a0.2.2.1 a0.2.2.2.1 a0.2.2.2.2.1 a0.2.2.2.2.2.1 a0.2.2.2.2.2.2.1 a0.2.2.2.2.2.2.2.1 a0.2.2.2.2.2.2.2.2.1 a0.2.2.2.2.2.2.2.2.2.1 a0.2.2.2.2.2.2.2.2.2.2.1 a0.2.2.2.2.2.2.2.2.2.2.2.1 a0.2.2.2.2.2.2.2.2.2.2.2.2.1 a0.2.2.2.2.2.2.2.2.2.2.2.2.2.1 a0.2.2.2.2.2.2.2.2.2.2.2.2.2.2.1 (0 : Int) a0.2.1 a0.2.2.1 a0.2.2.2.1 a0.2.2.2.2.1 a0.2.2.2.2.2.1 a0.2.2.2.2.2.2.1 a0.2.2.2.2.2.2.2.1 a0.2.2.2.2.2.2.2.2.1 a0.2.2.2.2.2.2.2.2.2.1 a0.2.2.2.2.2.2.2.2.2.2.1 a0.2.2.2.2.2.2.2.2.2.2.2.1 a0.2.2.2.2.2.2.2.2.2.2.2.2.1 a0.2.2.2.2.2.2.2.2.2.2.2.2.2.1 (0 : Int)))) (K (.p73 false a0.1 a0.2.1 a0.2.2.1 a0.2.2.2.1 a0.2.2.2.2.1 a0.2.2.2.2.2.1 a0.2.2.2.2.2.2.1 a0.2.2.2.2.2.2.2.1 a0.2.2.2.2.2.2.2.2.1 a0.2.2.2.2.2.2.2.2.2.1 a0.2.2.2.2.2.2.2.2.2.2.1 a0.2.2.2.2.2.2.2.2.2.2.2.1 a0.2.2.2.2.2.2.2.2.2.2.2.2.1 a0.2.2.2.2.2.2.2.2.2.2.2.2.2.1 a0.2.2.2.2.2.2.2.2.2.2.2.2.2.2.1 (0 : Int) a0.2.1 a0.2.2.1 a0.2.2.2.1 a0.2.2.2.2.1 a0.2.2.2.2.2.1 a0.2.2.2.2.2.2.1 a0.2.2.2.2.2.2.2.1 a0.2.2.2.2.2.2.2.2.1 a0.2.2.2.2.2.2.2.2.2.1 a0.2.2.2.2.2.2.2.2.2.2.1 a0.2.2.2.2.2.2.2.2.2.2.2.1 a0.2.2.2.2.2.2.2.2.2.2.2.2.1 a0.2.2.2.2.2.2.2.2.2.2.2.2.2.1 (0 : Int)))) (cond (decide (a0.1 = (8 : Int))) (cond (decide ((6 : Int) ≤ a0.2.2.2.2.1)) (K (.p98 (2 : Int) a0.1 a0.2.1 a0.2.2.1 a0.2.2.2.1 a0.2.2.2.2.1 a0.2.2.2.2.2.1 a0.2.2.2.2.2.2.1 a0.2.2.2.2.2.2.2.1 a0.2.2.2.2.2.2.2.2.1 a0.2.2.2.2.2.2.2.2.2.1 a0.2.2.2.2.2.2.2.2.2.2.1 a0.2.2.2.2.2.2.2.2.2.2.2.1 a0.2.2.2.2.2.2.2.2.2.2.2.2.1 a0.2.2.2.2.2.2.2.2.2.2.2.2.2.1 a0.2.2.2.2.2.2.2.2.2.2.2.2.2.2.1 (0 : Int) a0.2.1 a0.2.2.1 a0.2.2.2.1 a0.2.2.2.2.1 a0.2.2.2.2.2.1 a0.2.2.2.2.2.2.1 a0.2.2.2.2.2.2.2.1 a0.2.2.2.2.2.2.2.2.1 a0.2.2.2.2.2.2.2.2.2.1 a0.2.2.2.2.2.2.2.2.2.2.1 a0.2.2.2.2.2.2.2.2.2.2.2.1 a0.2.2.2.2.2.2.2.2.2.2.2.2.1 a0.2.2.2.2.2.2.2.2.2.2.2.2.2.1 (0 : Int))) (K (.p98 (1 : Int) a0.1 a0.2.1 a0.2.2.1 a0.2.2.2.1 a0.2.2.2.2.1 a0.2.2.2.2.2.1 a0.2.2.2.2.2.2.1 a0.2.2.2.2.2.2.2.1 a0.2.2.2.2.2.2.2.2.1 a0.2.2.2.2.2.2.2.2.2.1 a0.2.2.2.2.2.2.2.2.2.2.1 a0.2.2.2.2.2.2.2.2.2.2.2.1 a0.2.2.2.2.2.2.2.2.2.2.2.2.1 a0.2.2.2.2.2.2.2.2.2.2.2.2.2.1 a0.2.2.2.2.2.2.2.2.2.2.2.2.2.2.1 (0 : Int) a0.2.1 a0.2.2.1 a0.2.2.2.1 a0.2.2.2.2.1 a0.2.2.2.2.2.1 a0.2.2.2.2.2.2.1 a0.2.2.2.2.2.2.2.1 a0.2.2.2.2.2.2.2.2.1 a0.2.2.2.2.2.2.2.2.2.1 a0.2.2.2.2.2.2.2.2.2.2.1 a0.2.2.2.2.2.2.2.2.2.2.2.1 a0.2.2.2.2.2.2.2.2.2.2.2.2.1 a0.2.2.2.2.2.2.2.2.2.2.2.2.2.1 (0 : Int)))) (cond (decide (a0.1 = (9 : Int))) ((impl_isFunction n a0.2.2.2.1).bind fun r4 => cond r4 (cond (decide ((0 : Int) ≤ a0.2.2.2.2.2.2.2.2.2.2.2.2.2.2.1)) (K (.p110 (decide (a0.2.2.2.2.2.2.2.2.2.2.2.2.2.2.1 ≤ (10 : Int))) (0 : Int) a0.2.1 a0.2.2.1 a0.2.2.2.1 a0.2.2.2.2.1 a0.2.2.2.2.2.1 a0.2.2.2.2.2.2.1 a0.2.2.2.2.2.2.2.1 a0.2.2.2.2.2.2.2.2.1 a0.2.2.2.2.2.2.2.2.2.1 a0.2.2.2.2.2.2.2.2.2.2.1 a0.2.2.2.2.2.2.2.2.2.2.2.1 a0.2.2.2.2.2.2.2.2.2.2.2.2.1 a0.2.2.2.2.2.2.2.2.2.2.2.2.2.1 (0 : Int))) (K (.p110 false (0 : Int) a0.2.1 a0.2.2.1 a0.2.2.2.1 a0.2.2.2.2.1 a0.2.2.2.2.2.1 a0.2.2.2.2.2.2.1 a0.2.2.2.2.2.2.2.1 a0.2.2.2.2.2.2.2.2.1 a0.2.2.2.2.2.2.2.2.2.1 a0.2.2.2.2.2.2.2.2.2.2.1 a0.2.2.2.2.2.2.2.2.2.2.2.1 a0.2.2.2.2.2.2.2.2.2.2.2.2.1 a0.2.2.2.2.2.2.2.2.2.2.2.2.2.1 (0 : Int)))) (K (.p110 false (0 : Int) a0.2.1 a0.2.2.1 a0.2.2.2.1 a0.2.2.2.2.1 a0.2.2.2.2.2.1 a0.2.2.2.2.2.2.1 a0.2.2.2.2.2.2.2.1 a0.2.2.2.2.2.2.2.2.1 a0.2.2.2.2.2.2.2.2.2.1 a0.2.2.2.2.2.2.2.2.2.2.1 a0.2.2.2.2.2.2.2.2.2.2.2.1 a0.2.2.2.2.2.2.2.2.2.2.2.2.1 a0.2.2.2.2.2.2.2.2.2.2.2.2.2.1 (0 : Int)))) (some false)))))))))
  | .p18 y1 y2 y3 y4 y5 y6 y7 y8 y9 y10 y11 y12 y13 y14 y15 y16 => K (.p14 y1 y2 (0 : Int) y4 y5 y6 y7 y8 y9 y10 y11 y12 y13 y14 y15 y16)
  | .p24 y1 y2 y3 y4 y5 y6 y7 y8 y9 y10 y11 y12 y13 y14 y15 y16 => K (.p14 y1 y2 y3 y4 (⟨#[]⟩ : ByteArray) y6 y7 y8 y9 y10 y11 y12 y13 y14 y15 y16)
  | .p30 y1 y2 y3 y4 y5 y6 y7 y8 y9 y10 y11 y12 y13 y14 y15 y16 y17 y18 y19 y20 y21 y22 y23 y24 y25 y26 y27 y28 y29 y30 y31 => K (.p36 y1 y7 ((List.length y7) : Int) (0 : Int) y17 y18 y19 y20 y21 y22 y23 y24 y25 y26 y27 y28 y29 y30 y31)
  | .p55 y1 y2 y3 y4 y5 y6 y7 y8 y9 y10 y11 y12 y13 y14 y15 y16 => K (.p14 y1 y2 (0 : Int) y4 y5 y6 y7 y8 y9 y10 y11 y12 y13 y14 y15 y16)
  | .p61 y1 y2 y3 y4 y5 y6 y7 y8 y9 y10 y11 y12 y13 y14 y15 y16 => (impl_goodNode_1 n (y2, ((0 : Int), ((0 : Int), (y5, (y6, (y7, (y8, (y9, (y10, (y11, (y12, (y13, (y14, (y15, (y16, ())))))))))))))))).bind fun r19 => K (.p14 y1 r19.1 r19.2.1 r19.2.2.1 r19.2.2.2.1 r19.2.2.2.2.1 r19.2.2.2.2.2.1 r19.2.2.2.2.2.2.1 r19.2.2.2.2.2.2.2.1 r19.2.2.2.2.2.2.2.2.1 r19.2.2.2.2.2.2.2.2.2.1 r19.2.2.2.2.2.2.2.2.2.2.1 r19.2.2.2.2.2.2.2.2.2.2.2.1 r19.2.2.2.2.2.2.2.2.2.2.2.2.1 r19.2.2.2.2.2.2.2.2.2.2.2.2.2.1 r19.2.2.2.2.2.2.2.2.2.2.2.2.2.2.1)
  | .p14 y1 y2 y3 y4 y5 y6 y7 y8 y9 y10 y11 y12 y13 y14 y15 y16 => cond y1 (cond (decide (y3 = (0 : Int))) (cond (decide (y4 = (0 : Int))) (cond (seq y5 (⟨#[]⟩ : ByteArray)) (cond (decide (y6 = (0 : Int))) (cond (decide (((List.length y7) : Int) = (0 : Int))) (cond (decide (y8 = (0 : Int))) (cond (!y9) (cond (decide (y10 = (0 : Int))) (cond (!y11) (cond (decide (y12 = (0 : Int))) (cond (decide (((List.length y13) : Int) = (0 : Int))) (cond (decide (y14 = (0 : Int))) (some (decide (((List.length y15) : Int) = (0 : Int)))) (some false)) (some false)) (some false)) (some false)) (some false)) (some false)) (some false)) (some false)) (some false)) (some false)) (some false)) (some false)) (some false)
  | .p73 y1 y2 y3 y4 y5 y6 y7 y8 y9 y10 y11 y12 y13 y14 y15 y16 y17 y18 y19 y20 y21 y22 y23 y24 y25 y26 y27 y28 y29 y30 y31 => cond (decide (y14 = (0 : Int))) (cond y1 (K (.p78 (decide (((List.length y15) : Int) = (0 : Int))) y17 y18 y19 y20 y21 y22 y23 y24 y25 y26 y27 y28 y29 y30 y31)) (K (.p78 false y17 y18 y19 y20 y21 y22 y23 y24 y25 y26 y27 y28 y29 y30 y31))) (cond (decide (y14 = (1 : Int))) (K (.p83 y1 (decide (y14 = (1 : Int))) y2 y3 y4 y5 y6 y7 y8 y9 y10 y11 y12 y13 y14 y15 y16 y17 y18 y19 y20 y21 y22 y23 y24 y25 y26 y27 y28 y29 y30 y31)) (K (.p83 y1 (decide (y14 = (2 : Int))) y2 y3 y4 y5 y6 y7 y8 y9 y10 y11 y12 y13 y14 y15 y16 y17 y18 y19 y20 y21 y22 y23 y24 y25 y26 y27 y28 y29 y30 y31)))
  | .p98 y1 y2 y3 y4 y5 y6 y7 y8 y9 y10 y11 y12 y13 y14 y15 y16 y17 y18 y19 y20 y21 y22 y23 y24 y25 y26 y27 y28 y29 y30 y31 => cond (decide ((1 : Int) ≤ y6)) (cond (decide (y6 ≤ (8 : Int))) (cond (decide (y16 = y1)) ((impl_goodBy n (y2, (y3, (y4, (y5, (y6, (y7, (y8, (y9, (y10, (y11, (y12, (y13, (y14, (y15, (y16, ())))))))))))))))).bind fun r34 => K (.p104 r34 y17 y18 y19 y20 y21 y22 y23 y24 y25 y26 y27 y28 y29 y30 y31)) (K (.p104 false y17 y18 y19 y20 y21 y22 y23 y24 y25 y26 y27 y28 y29 y30 y31))) (K (.p104 false y17 y18 y19 y20 y21 y22 y23 y24 y25 y26 y27 y28 y29 y30 y31))) (K (.p104 false y17 y18 y19 y20 y21 y22 y23 y24 y25 y26 y27 y28 y29 y30 y31))
  | .p110 y1 y2 y3 y4 y5 y6 y7 y8 y9 y10 y11 y12 y13 y14 y15 y16 => K (.p14 y1 y2 y3 y4 (⟨#[]⟩ : ByteArray) y6 y7 y8 y9 y10 y11 y12 y13 y14 y15 y16)
  | .p36 y1 y2 y3 y4 y5 y6 y7 y8 y9 y10 y11 y12 y13 y14 y15 y16 y17 y18 y19 => cond (decide (y4 < y3)) (cond (inB y4 (List.length y2)) (cond y1 (K (.p36 (!(seq (List.getD y2 (Int.toNat y4) default).1 (⟨#[95, 110, 97, 109, 101]⟩ : ByteArray))) y2 y3 (IntKind.wrap .i64 (y4 + (1 : Int))) y5 y6 y7 y8 y9 y10 y11 y12 y13 y14 y15 y16 y17 y18 y19)) (K (.p36 false y2 y3 (IntKind.wrap .i64 (y4 + (1 : Int))) y5 y6 y7 y8 y9 y10 y11 y12 y13 y14 y15 y16 y17 y18 y19))) (none)) ((impl_goodNode_1 n (y5, (y6, (y7, ((⟨#[]⟩ : ByteArray), (y9, (([] : List (tU4)), (y11, (y12, (y13, (y14, (y15, (y16, (y17, (y18, (y19, ())))))))))))))))).bind fun r22 => K (.p14 y1 r22.1 r22.2.1 r22.2.2.1 r22.2.2.2.1 r22.2.2.2.2.1 r22.2.2.2.2.2.1 r22.2.2.2.2.2.2.1 r22.2.2.2.2.2.2.2.1 r22.2.2.2.2.2.2.2.2.1 r22.2.2.2.2.2.2.2.2.2.1 r22.2.2.2.2.2.2.2.2.2.2.1 r22.2.2.2.2.2.2.2.2.2.2.2.1 r22.2.2.2.2.2.2.2.2.2.2.2.2.1 r22.2.2.2.2.2.2.2.2.2.2.2.2.2.1 r22.2.2.2.2.2.2.2.2.2.2.2.2.2.2.1))
  | .p78 y1 y2 y3 y4 y5 y6 y7 y8 y9 y10 y11 y12 y13 y14 y15 y16 => K (.p14 y1 y2 y3 y4 y5 (0 : Int) y7 y8 y9 y10 false (0 : Int) ([] : List (ByteArray)) (0 : Int) ([] : List (ByteArray)) y16)
  | .p83 y1 y2 y3 y4 y5 y6 y7 y8 y9 y10 y11 y12 y13 y14 y15 y16 y17 y18 y19 y20 y21 y22 y23 y24 y25 y26 y27 y28 y29 y30 y31 y32 => cond y2 (cond y1 (cond (!(decide (y13 = (0 : Int)))) (cond (decide (y7 ≤ (11 : Int))) ((impl_goodNames n y16).bind fun r35 => K (.p78 r35 y18 y19 y20 y21 y22 y23 y24 y25 y26 y27 y28 y29 y30 y31 y32)) (K (.p78 false y18 y19 y20 y21 y22 y23 y24 y25 y26 y27 y28 y29 y30 y31 y32))) (K (.p78 false y18 y19 y20 y21 y22 y23 y24 y25 y26 y27 y28 y29 y30 y31 y32))) (K (.p78 false y18 y19 y20 y21 y22 y23 y24 y25 y26 y27 y28 y29 y30 y31 y32))) (K (.p78 false y18 y19 y20 y21 y22 y23 y24 y25 y26 y27 y28 y29 y30 y31 y32))
  | .p104 y1 y2 y3 y4 y5 y6 y7 y8 y9 y10 y11 y12 y13 y14 y15 y16 => K (.p14 y1 y2 y3 y4 y5 (0 : Int) y7 y8 y9 y10 y11 (0 : Int) ([] : List (ByteArray)) y14 y15 y16)
def impl_goodNode (n : Nat) (a0 : tU1) : Option (Tup [.bool]) := goRec impl_goodNode.step n (.p0 a0)
def impl_goodNode.spec : Ctr := ⟨51, [.v cU0], [.bool], [], none, fun n x => impl_goodNode n x.1⟩
theorem impl_goodNode.seg_eq : SegEq tyN gl impl_goodNode.F impl_goodNode.md impl_goodNode.T impl_goodNode.spec impl_goodNode.lb impl_goodNode.st impl_goodNode.step := by
  intro n goto y; cases y <;> kernel_rfl
theorem impl_goodNode.text : Text Go.Proofs.Tryz.prog impl_goodNode.F impl_goodNode.spec := textOf Go.Proofs.Tryz.f51
theorem impl_goodNode.ok : CtrOK Go.Proofs.Tryz.prog gl impl_goodNode.spec :=
  ctr_okS tabsN impl_goodNode.text impl_goodNode.seg_eq (fun n x => ⟨.p0 x.1, rfl, rfl, rfl⟩) (consC impl_printed.ok (consC impl_isName.ok (consC impl_isFunction.ok (consC impl_isWord.ok (consC impl_GoodMatchers.ok (consC impl_goodMoment.ok (consC impl_compares.ok (consC impl_goodNames.ok (consC impl_goodBy.ok (consC impl_goodNode_1.ok (nilC)))))))))))

/-! loop.example/g00039/impl.treeOf$1 -/
def impl_treeOf_1.T : List Ctr := [impl_goodNode.spec]
def impl_treeOf_1.md : List (Nat × List Md) := [(50, [.v, .p (.int .i64), .q (.sl false cU0), .me 50 1]), (1000050, [.p (.int .i64), .q (.sl false cU0), .me 50 1])]
noncomputable def impl_treeOf_1.F : Fun := ⟨(Go.Proofs.Tryz.f50.body).getD .skip, [.v (.int .i64), .p (.int .i64), .q (.sl false cU0), .me 50 1], [(.tmp 5, (.pt cU0))], [some (.int .i64)], 1, [(4, ⟨[0, 1, 2, 3, 23], [], [], false⟩), (19, ⟨[0, 3, 6, 36, 37], [], [(6, 5, (.bs cU3)), (6, 11, (.bs .str)), (6, 13, (.bs .str)), (6, 15, (.pt cU0))], false⟩), (31, ⟨[0, 3, 6, 7, 36, 37, 60], [], [(6, 5, (.bs cU3)), (6, 11, (.bs .str)), (6, 13, (.bs .str)), (6, 15, (.pt cU0))], false⟩)]⟩
inductive impl_treeOf_1.Pt where
  | p0 (a0 : Int) (a1 : Int) (a2 : List (tU1)) (a3 : Unit)
  | p4 (y1 : Int) (y2 : Bool) (y3 : Int) (y4 : List (tU1))
  | p19 (y1 : Int) (y2 : Int) (y3 : Int) (y4 : Int) (y5 : List (tU1)) (y6 : Int) (y7 : Int) (y8 : Int) (y9 : ByteArray) (y10 : Int) (y11 : List (tU4)) (y12 : Int) (y13 : Bool) (y14 : Int) (y15 : Bool) (y16 : Int) (y17 : List (ByteArray)) (y18 : Int) (y19 : List (ByteArray)) (y20 : Int) (y21 : List (Tr (tU1)))
  | p31 (y1 : Int) (y2 : Int) (y3 : Int) (y4 : Bool) (y5 : Int) (y6 : List (tU1)) (y7 : Int) (y8 : Int) (y9 : Int) (y10 : ByteArray) (y11 : Int) (y12 : List (tU4)) (y13 : Int) (y14 : Bool) (y15 : Int) (y16 : Bool) (y17 : Int) (y18 : List (ByteArray)) (y19 : Int) (y20 : List (ByteArray)) (y21 : Int) (y22 : Tr (tU1)) (y23 : List (Tr (tU1)))
def impl_treeOf_1.lb : impl_treeOf_1.Pt → Nat
  | .p0 _ _ _ _ => 0
  | .p4 _ _ _ _ => 4
  | .p19 _ _ _ _ _ _ _ _ _ _ _ _ _ _ _ _ _ _ _ _ _ => 19
  | .p31 _ _ _ _ _ _ _ _ _ _ _ _ _ _ _ _ _ _ _ _ _ _ _ => 31
def impl_treeOf_1.st : impl_treeOf_1.Pt → St
  | .p0 a0 a1 a2 a3 => enter [.v (.int .i64) a0, .p (.int .i64) a1, .q (.sl false cU0) a2, .me 50 1] 1
  | .p4 y1 y2 y3 y4 => ⟨[(0, .im (.int .i64) y1), (1, .po 0 0), (2, .po 1 0), (3, .px 50 [.po 0 0, .po 1 0] 3), (23, .im .bool y2)], [(0, .obj [.im (.int .i64) y3]), (1, .imm (.sl false cU0) y4)], 2⟩
  | .p19 y1 y2 y3 y4 y5 y6 y7 y8 y9 y10 y11 y12 y13 y14 y15 y16 y17 y18 y19 y20 y21 => ⟨[(0, .im (.int .i64) y1), (3, .px 50 [.po 0 0, .po 1 0] 3), (6, .po 2 0), (36, .im (.int .i64) y2), (37, .im (.int .i64) y3)], [(0, .obj [.im (.int .i64) y4]), (1, .imm (.sl false cU0) y5), (2, .obj [.im (.int .i64) y6, .im (.int .i64) y7, .im (.int .i64) y8, .im .str y9, .im (.int .i64) y10, .im (.bs cU3) y11, .im (.int .i64) y12, .im .bool y13, .im (.int .i64) y14, .im .bool y15, .im (.int .i64) y16, .im (.bs .str) y17, .im (.int .i64) y18, .im (.bs .str) y19, .im (.int .i64) y20, .hs 3 [] none 0]), (3, .arr true (.pt cU0) y21 0)], 4⟩
  | .p31 y1 y2 y3 y4 y5 y6 y7 y8 y9 y10 y11 y12 y13 y14 y15 y16 y17 y18 y19 y20 y21 y22 y23 => ⟨[(0, .im (.int .i64) y1), (3, .px 50 [.po 0 0, .po 1 0] 3), (6, .po 2 0), (7, .tp 3), (36, .im (.int .i64) y2), (37, .im (.int .i64) y3), (60, .im .bool y4)], [(0, .obj [.im (.int .i64) y5]), (1, .imm (.sl false cU0) y6), (2, .obj [.im (.int .i64) y7, .im (.int .i64) y8, .im (.int .i64) y9, .im .str y10, .im (.int .i64) y11, .im (.bs cU3) y12, .im (.int .i64) y13, .im .bool y14, .im (.int .i64) y15, .im .bool y16, .im (.int .i64) y17, .im (.bs .str) y18, .im (.int .i64) y19, .im (.bs .str) y20, .im (.int .i64) y21, .hs 4 [] none 0]), (3, .tre cU0 y22), (4, .arr true (.pt cU0) y23 0)], 5⟩
def impl_treeOf_1.step (n : Nat) (self : Ty.Els [.v (.int .i64), .p (.int .i64), .q (.sl false cU0), .me 50 1] → Option (Tup [(.pt cU0), (.int .i64)])) (K : impl_treeOf_1.Pt → Option (Tup [(.pt cU0), (.int .i64)])) : impl_treeOf_1.Pt → Option (Tup [(.pt cU0), (.int .i64)])
  | .p0 a0 a1 a2 a3 => cond (decide (a1 = ((List.length a2) : Int))) (K (.p4 a0 true a1 a2)) (cond (decide ((12 : Int) < a0)) (K (.p4 a0 true a1 a2)) (cond (inB a1 (List.length a2)) ((impl_goodNode n (List.getD a2 (Int.toNat a1) default)).bind fun r7 => K (.p4 a0 (!r7) a1 a2)) (none)))
  | .p4 y1 y2 y3 y4 => cond y2 (some (Tr.nil, y3)) (cond (inB y3 (List.length y4)) (K (.p19 y1 (List.getD y4 (Int.toNat y3) default).2.2.2.2.2.2.2.2.2.2.2.2.2.2.1 (0 : Int) (IntKind.wrap .i64 (y3 + (1 : Int))) y4 (List.getD y4 (Int.toNat y3) default).1 (List.getD y4 (Int.toNat y3) default).2.1 (List.getD y4 (Int.toNat y3) default).2.2.1 (List.getD y4 (Int.toNat y3) default).2.2.2.1 (List.getD y4 (Int.toNat y3) default).2.2.2.2.1 (List.getD y4 (Int.toNat y3) default).2.2.2.2.2.1 (List.getD y4 (Int.toNat y3) default).2.2.2.2.2.2.1 (List.getD y4 (Int.toNat y3) default).2.2.2.2.2.2.2.1 (List.getD y4 (Int.toNat y3) default).2.2.2.2.2.2.2.2.1 (List.getD y4 (Int.toNat y3) default).2.2.2.2.2.2.2.2.2.1 (List.getD y4 (Int.toNat y3) default).2.2.2.2.2.2.2.2.2.2.1 (List.getD y4 (Int.toNat y3) default).2.2.2.2.2.2.2.2.2.2.2.1 (List.getD y4 (Int.toNat y3) default).2.2.2.2.2.2.2.2.2.2.2.2.1 (List.getD y4 (Int.toNat y3) default).2.2.2.2.2.2.2.2.2.2.2.2.2.1 (List.getD y4 (Int.toNat y3) default).2.2.2.2.2.2.2.2.2.2.2.2.2.2.1 ([] : List (Tr (tU1))))) (none))
  | .p19 y1 y2 y3 y4 y5 y6 y7 y8 y9 y10 y11 y12 y13 y14 y15 y16 y17 y18 y19 y20 y21 => cond (decide (y3 < y2)) ((self ((IntKind.wrap .i64 (y1 + (1 : Int))), y4, (List.getD [y5] 0 default), (), ())).bind fun r24 => cond (!(Tr.is r24.1)) (K (.p31 y1 y2 y3 true r24.2 y5 y6 y7 y8 y9 y10 y11 y12 y13 y14 y15 y16 y17 y18 y19 y20 r24.1 y21)) (cond (decide (y6 = (4 : Int))) (cond (Tr.is r24.1) (K (.p31 y1 y2 y3 (!(decide ((Tr.val default r24.1).1 = (3 : Int)))) r24.2 y5 y6 y7 y8 y9 y10 y11 y12 y13 y14 y15 y16 y17 y18 y19 y20 r24.1 y21)) (none)) (K (.p31 y1 y2 y3 false r24.2 y5 y6 y7 y8 y9 y10 y11 y12 y13 y14 y15 y16 y17 y18 y19 y20 r24.1 y21)))) (some ((Tr.node (y6, (y7, (y8, (y9, (y10, (y11, (y12, (y13, (y14, (y15, (y16, (y17, (y18, (y19, (y20, ()))))))))))))))) y21), y4))
  | .p31 y1 y2 y3 y4 y5 y6 y7 y8 y9 y10 y11 y12 y13 y14 y15 y16 y17 y18 y19 y20 y21 y22 y23 => cond y4 (some (Tr.nil, y5)) (cond (room ((List.length y23) + (List.length [y22]))) (K (.p19 y1 y2 (IntKind.wrap .i64 (y3 + (1 : Int))) y5 y6 y7 y8 y9 y10 y11 y12 y13 y14 y15 y16 y17 y18 y19 y20 y21 (y23 ++ [y22]))) (none))
def impl_treeOf_1 (n : Nat) (a0 : Int) (a1 : Int) (a2 : List (tU1)) (a3 : Unit) : Option (Tup [(.pt cU0), (.int .i64)]) := goRec (fun n K => impl_treeOf_1.step n (fun x => K (.p0 x.1 x.2.1 x.2.2.1 x.2.2.2.1)) K) n (.p0 a0 a1 a2 a3)
def impl_treeOf_1.spec : Ctr := ⟨50, [.v (.int .i64), .p (.int .i64), .q (.sl false cU0), .me 50 1], [(.pt cU0)], [(.int .i64)], none, fun n x => impl_treeOf_1 n x.1 x.2.1 x.2.2.1 x.2.2.2.1⟩
theorem impl_treeOf_1.seg_eq (n : Nat) (φ : Ty.Els [.v (.int .i64), .p (.int .i64), .q (.sl false cU0), .me 50 1] → Option (Tup [(.pt cU0), (.int .i64)])) (goto : Nat → St → Option (Tup [(.pt cU0), (.int .i64)])) (y : impl_treeOf_1.Pt) : seg ⟨tyN, gl, impl_treeOf_1.md, calOf (impl_treeOf_1.spec.at φ :: impl_treeOf_1.T) n⟩ impl_treeOf_1.F.np impl_treeOf_1.F.ks goto (impl_treeOf_1.F.fin ⟨tyN, gl, impl_treeOf_1.md, calOf impl_treeOf_1.T 0⟩ [(.pt cU0), (.int .i64)] none) impl_treeOf_1.F.c (impl_treeOf_1.lb y) (impl_treeOf_1.st y) = impl_treeOf_1.step n φ (fun z => goto (impl_treeOf_1.lb z) (impl_treeOf_1.st z)) y := by
  cases y <;> kernel_rfl
theorem impl_treeOf_1.text : Text Go.Proofs.Tryz.prog impl_treeOf_1.F impl_treeOf_1.spec := textOf Go.Proofs.Tryz.f50
theorem impl_treeOf_1.ok : CtrOK Go.Proofs.Tryz.prog gl impl_treeOf_1.spec :=
  ctr_rec (T := impl_treeOf_1.T) (F := impl_treeOf_1.F) (lb := impl_treeOf_1.lb) (st := impl_treeOf_1.st) (ent := fun x => .p0 x.1 x.2.1 x.2.2.1 x.2.2.2.1) (stp := impl_treeOf_1.step) (md := impl_treeOf_1.md) tabsN impl_treeOf_1.text impl_treeOf_1.seg_eq (fun _ => ⟨rfl, rfl⟩) (fun _ _ => rfl) (consC impl_goodNode.ok (nilC))

end Go.SH
