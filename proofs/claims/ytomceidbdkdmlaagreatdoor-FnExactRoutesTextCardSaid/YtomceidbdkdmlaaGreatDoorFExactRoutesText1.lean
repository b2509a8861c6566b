/- The functions that the law reaches, each as a Lean function and with its contract, part 1. -/
import Derived.Test.YtomceidbdkdmlaaGreatDoorV1
import Derived.Test.YtomceidbdkdmlaaGreatDoorV2
import Derived.Test.YtomceidbdkdmlaaGreatDoorV3
import Derived.Tactics
import Derived.Tactics2
import Derived.WalkKit
import Derived.Laws.Pointers
import Derived.Lib.Builder
import Derived.Lib.AppendStr
import Derived.Lib.UnsafeStr
import Derived.Shelf.RegionOpenPlain
import Derived.Lib.Bytealg
import Derived.Shelf.Lays
import Derived.Shelf.Small.Strs
import Derived.Lib.Repeat
import Derived.Shelf.Strings.Repeat
import Derived.Lib.Join
import Derived.Shelf.Strings.OnBuilder
import Derived.Lib.LaidTab
import Derived.Shelf.LaysM
import Derived.Shelf.Strconv.Itoa3
import Derived.Test.YtomceidbdkdmlaaGreatDoorProg
open Go Go.VM
namespace Go.RX
set_option maxRecDepth 100000
set_option linter.unusedVariables false
set_option linter.unusedSimpArgs false
set_option linter.unusedSectionVars false
variable [Bor]
def ty : List (Nat × U) := [(1, .oth), (2, (.int .i64)), (3, (.int .i64)), (4, .bool), (5, (.int .u8)), (6, (.int .u8)), (7, (.pair (.int .i64) (.pair (.int .i64) (.pair .bool (.pair (.int .u8) .unit))))), (8, (.pair (.int .i64) (.pair (.int .i64) (.pair .bool (.pair (.int .u8) .unit))))), (9, .str), (10, .str), (11, .str), (12, (.int .u64)), (15, .oth), (16, .oth), (17, .oth), (18, (.pair .oth .unit)), (19, (.pair .oth .unit)), (20, .oth), (21, (.int .i32)), (22, (.sl false (.pair .str (.pair (.sl false (.pair .str (.pair (.int .i64) (.pair .str .unit)))) (.pair (.sl false .str) (.pair (.int .i64) (.pair (.int .i64) (.pair (.int .i64) (.pair (.sl false (.int .i64)) (.pair .bool (.pair (.int .i64) .unit))))))))))), (23, .oth), (24, .oth), (25, (.sl false (.pair .str (.pair (.sl false (.pair .str (.pair (.int .i64) (.pair .str .unit)))) (.pair (.sl false .str) (.pair (.int .i64) (.pair (.int .i64) (.pair (.int .i64) (.pair (.sl false (.int .i64)) (.pair .bool (.pair (.int .i64) .unit))))))))))), (26, .oth), (27, .oth), (28, .oth), (29, .oth), (30, (.sl false (.pair .str (.pair (.int .i64) (.pair .str .unit))))), (31, (.sl false .str)), (32, (.sl false (.int .i64))), (33, (.pair .str (.pair (.sl false (.pair .str (.pair (.int .i64) (.pair .str .unit)))) (.pair (.sl false .str) (.pair (.int .i64) (.pair (.int .i64) (.pair (.int .i64) (.pair (.sl false (.int .i64)) (.pair .bool (.pair (.int .i64) .unit)))))))))), (34, (.pair .str (.pair (.sl false (.pair .str (.pair (.int .i64) (.pair .str .unit)))) (.pair (.sl false .str) (.pair (.int .i64) (.pair (.int .i64) (.pair (.int .i64) (.pair (.sl false (.int .i64)) (.pair .bool (.pair (.int .i64) .unit)))))))))), (35, .oth), (37, .oth), (38, (.sl false (.pair .str (.pair (.int .i64) (.pair .str .unit))))), (39, (.pair .str (.pair (.sl false (.pair .str (.pair (.int .i64) (.pair .str .unit)))) (.pair (.sl false .str) (.pair (.int .i64) (.pair (.int .i64) (.pair (.int .i64) (.pair (.sl false (.int .i64)) (.pair .bool (.pair (.int .i64) .unit)))))))))), (40, (.pair .str (.pair (.sl false (.pair .str (.pair (.int .i64) (.pair .str .unit)))) (.pair (.sl false .str) (.pair (.int .i64) (.pair (.int .i64) (.pair (.int .i64) (.pair (.sl false (.int .i64)) (.pair .bool (.pair (.int .i64) .unit)))))))))), (41, .oth), (42, .oth), (43, .oth), (44, (.sl false (.int .u8))), (45, (.pair .oth (.pair (.sl false (.int .u8)) .unit))), (46, (.pair .oth (.pair (.sl false (.int .u8)) .unit))), (47, .oth), (48, .oth), (49, .oth), (51, .oth), (52, .oth), (53, .oth), (54, .oth), (55, .oth), (56, .oth), (57, .oth), (58, .oth), (59, .oth), (60, .oth), (61, .oth), (62, .oth), (63, .oth), (64, .oth), (65, .oth), (66, .oth), (67, .oth), (68, .oth), (69, .oth), (70, (.int .u64)), (72, .oth), (73, .oth), (74, .oth), (75, .oth), (76, .oth), (77, .oth), (78, .oth), (79, .oth), (80, .oth), (81, (.pair .str (.pair (.int .i64) (.pair .str .unit)))), (82, (.pair .str (.pair (.int .i64) (.pair .str .unit)))), (83, (.pair .str (.pair (.int .i64) (.pair .str .unit)))), (84, .oth), (85, .oth), (86, .oth), (87, .oth), (88, .oth), (89, .oth), (90, .oth), (91, .oth), (92, .oth), (93, .oth), (94, (.int .u32)), (96, .oth), (97, (.int .u64)), (99, .oth), (100, .oth), (101, .oth), (102, .oth), (103, .oth), (104, .oth), (105, .oth), (106, .oth), (107, (.ar 5 .str)), (108, .oth), (109, .oth), (110, .oth), (111, .oth), (112, (.sl false (.sl false (.int .i64)))), (114, .oth), (115, .oth), (116, (.sl false (.sl false (.pair (.int .u8) (.pair .bool (.pair .bool .unit)))))), (118, .oth), (119, (.ar 24 (.int .u8))), (120, .oth), (121, .oth), (123, .oth), (124, .oth), (125, (.pair (.int .u8) (.pair .bool (.pair .bool .unit)))), (126, (.pair (.int .u8) (.pair .bool (.pair .bool .unit)))), (127, (.sl false (.pair (.int .u8) (.pair .bool (.pair .bool .unit))))), (128, .oth), (129, .oth), (130, .oth), (131, .oth), (132, (.ar 20 (.int .u64))), (133, (.ar 65 (.int .u8))), (134, .oth), (135, .oth), (136, (.ar 32 (.int .u8))), (137, (.ar 64 (.int .u8))), (138, (.pair .oth (.pair .oth (.pair .oth (.pair .str .unit))))), (139, (.pair .oth (.pair .oth (.pair .oth (.pair .str .unit))))), (140, (.ar 0 .oth)), (143, (.int .u8)), (144, (.int .u8)), (145, .oth), (146, (.int .i32)), (147, (.int .i32)), (148, (.pair (.int .u64) (.pair (.int .u64) (.pair (.int .u32) (.pair (.int .u8) (.pair (.int .u8) (.pair (.int .u8) (.pair (.int .u8) (.pair .oth (.pair .oth (.pair (.int .i32) (.pair (.int .i32) .unit)))))))))))), (149, (.pair (.int .u64) (.pair (.int .u64) (.pair (.int .u32) (.pair (.int .u8) (.pair (.int .u8) (.pair (.int .u8) (.pair (.int .u8) (.pair .oth (.pair .oth (.pair (.int .i32) (.pair (.int .i32) .unit))))))))))))]
def gl : List (Nat × TV) := [(0, ⟨.ar 5 .str, ([⟨#[]⟩, ⟨#[61]⟩, ⟨#[33, 61]⟩, ⟨#[61, 126]⟩, ⟨#[33, 126]⟩] : List ByteArray)⟩), (2, ⟨.ar 20 (.int .u64), ([1, 10, 100, 1000, 10000, 100000, 1000000, 10000000, 100000000, 1000000000, 10000000000, 100000000000, 1000000000000, 10000000000000, 100000000000000, 1000000000000000, 10000000000000000, 100000000000000000, 1000000000000000000, 10000000000000000000] : List Int)⟩)]
theorem tabs : Tabs Go.Proofs.Tryz.prog ty gl := tabs_ofG (by kernel_rfl) (by kernel_rfl) (by kernel_rfl)
/-! loop.example/g00039/laws.szMatcher -/
def laws_szMatcher.T : List Ctr := []
def laws_szMatcher.md : List (Nat × List Md) := []
noncomputable def laws_szMatcher.F : Fun := ⟨(Go.Proofs.Tryz.f48.body).getD .skip, [.v (.pair .str (.pair (.int .i64) (.pair .str .unit))), .v (.int .i64)], [(.tmp 4, (.int .i64))], [], 0, []⟩
inductive laws_szMatcher.Pt where
  | p0 (a0 : (ByteArray) × ((Int) × ((ByteArray) × (Unit)))) (a1 : Int)
def laws_szMatcher.lb : laws_szMatcher.Pt → Nat
  | .p0 _ _ => 0
def laws_szMatcher.st : laws_szMatcher.Pt → St
  | .p0 a0 a1 => enter [.v (.pair .str (.pair (.int .i64) (.pair .str .unit))) a0, .v (.int .i64) a1] 0
def laws_szMatcher.step (n : Nat) (K : laws_szMatcher.Pt → Option (Tup [(.int .i64)])) : laws_szMatcher.Pt → Option (Tup [(.int .i64)])
  | .p0 a0 a1 => cond (decide ((IntKind.wrap .i64 (a1 - ((ByteArray.size a0.1) : Int))) < (0 : Int))) (some (-(1 : Int))) (cond (decide ((IntKind.wrap .i64 ((IntKind.wrap .i64 (a1 - ((ByteArray.size a0.1) : Int))) - ((ByteArray.size a0.2.2.1) : Int))) < (0 : Int))) (some (-(1 : Int))) (some (IntKind.wrap .i64 ((IntKind.wrap .i64 (a1 - ((ByteArray.size a0.1) : Int))) - ((ByteArray.size a0.2.2.1) : Int)))))
def laws_szMatcher (n : Nat) (a0 : (ByteArray) × ((Int) × ((ByteArray) × (Unit)))) (a1 : Int) : Option (Tup [(.int .i64)]) := goRec laws_szMatcher.step n (.p0 a0 a1)
def laws_szMatcher.spec : Ctr := ⟨48, [.v (.pair .str (.pair (.int .i64) (.pair .str .unit))), .v (.int .i64)], [(.int .i64)], [], none, fun n x => laws_szMatcher n x.1 x.2.1⟩
theorem laws_szMatcher.seg_eq : SegEq ty gl laws_szMatcher.F laws_szMatcher.md laws_szMatcher.T laws_szMatcher.spec laws_szMatcher.lb laws_szMatcher.st laws_szMatcher.step := by
  intro n goto y; cases y <;> kernel_rfl
theorem laws_szMatcher.text : Text Go.Proofs.Tryz.prog laws_szMatcher.F laws_szMatcher.spec := textOf Go.Proofs.Tryz.f48
theorem laws_szMatcher.ok : CtrOK Go.Proofs.Tryz.prog gl laws_szMatcher.spec :=
  ctr_okS tabs laws_szMatcher.text laws_szMatcher.seg_eq (fun n x => ⟨.p0 x.1 x.2.1, rfl, rfl, rfl⟩) (nilC)

/-! loop.example/g00039/laws.szMatcherS -/
def laws_szMatcherS.T : List Ctr := [laws_szMatcher.spec]
def laws_szMatcherS.md : List (Nat × List Md) := []
noncomputable def laws_szMatcherS.F : Fun := ⟨(Go.Proofs.Tryz.f22.body).getD .skip, [.v (.sl false (.pair .str (.pair (.int .i64) (.pair .str .unit)))), .v (.int .i64)], [(.tmp 4, (.int .i64))], [], 0, [(17, ⟨[0, 1, 5], [], [], false⟩)]⟩
inductive laws_szMatcherS.Pt where
  | p0 (a0 : List ((ByteArray) × ((Int) × ((ByteArray) × (Unit))))) (a1 : Int)
  | p17 (y1 : List ((ByteArray) × ((Int) × ((ByteArray) × (Unit))))) (y2 : Int) (y3 : Int)
def laws_szMatcherS.lb : laws_szMatcherS.Pt → Nat
  | .p0 _ _ => 0
  | .p17 _ _ _ => 17
def laws_szMatcherS.st : laws_szMatcherS.Pt → St
  | .p0 a0 a1 => enter [.v (.sl false (.pair .str (.pair (.int .i64) (.pair .str .unit)))) a0, .v (.int .i64) a1] 0
  | .p17 y1 y2 y3 => ⟨[(0, .im (.sl false (.pair .str (.pair (.int .i64) (.pair .str .unit)))) y1), (1, .im (.int .i64) y2), (5, .im (.int .i64) y3)], [], 0⟩
def laws_szMatcherS.step (n : Nat) (K : laws_szMatcherS.Pt → Option (Tup [(.int .i64)])) : laws_szMatcherS.Pt → Option (Tup [(.int .i64)])
  | .p0 a0 a1 => cond (decide ((IntKind.wrap .i64 (a1 - ((List.length a0) : Int))) < (0 : Int))) (some (-(1 : Int))) (K (.p17 a0 (IntKind.wrap .i64 (a1 - ((List.length a0) : Int))) (0 : Int)))
  | .p17 y1 y2 y3 => cond (decide (y3 < ((List.length y1) : Int))) (cond (inB y3 (List.length y1)) ((laws_szMatcher n (List.getD y1 (Int.toNat y3) default) y2).bind fun (r6 : Int) => cond (decide (r6 < (0 : Int))) (some (-(1 : Int))) (K (.p17 y1 r6 (IntKind.wrap .i64 (y3 + (1 : Int)))))) (none)) (some y2)
def laws_szMatcherS (n : Nat) (a0 : List ((ByteArray) × ((Int) × ((ByteArray) × (Unit))))) (a1 : Int) : Option (Tup [(.int .i64)]) := goRec laws_szMatcherS.step n (.p0 a0 a1)
def laws_szMatcherS.spec : Ctr := ⟨22, [.v (.sl false (.pair .str (.pair (.int .i64) (.pair .str .unit)))), .v (.int .i64)], [(.int .i64)], [], none, fun n x => laws_szMatcherS n x.1 x.2.1⟩
theorem laws_szMatcherS.seg_eq : SegEq ty gl laws_szMatcherS.F laws_szMatcherS.md laws_szMatcherS.T laws_szMatcherS.spec laws_szMatcherS.lb laws_szMatcherS.st laws_szMatcherS.step := by
  intro n goto y; cases y <;> kernel_rfl
theorem laws_szMatcherS.text : Text Go.Proofs.Tryz.prog laws_szMatcherS.F laws_szMatcherS.spec := textOf Go.Proofs.Tryz.f22
theorem laws_szMatcherS.ok : CtrOK Go.Proofs.Tryz.prog gl laws_szMatcherS.spec :=
  ctr_okS tabs laws_szMatcherS.text laws_szMatcherS.seg_eq (fun n x => ⟨.p0 x.1 x.2.1, rfl, rfl, rfl⟩) (consC laws_szMatcher.ok (nilC))

/-! loop.example/g00039/laws.szStringS -/
def laws_szStringS.T : List Ctr := []
def laws_szStringS.md : List (Nat × List Md) := []
noncomputable def laws_szStringS.F : Fun := ⟨(Go.Proofs.Tryz.f23.body).getD .skip, [.v (.sl false .str), .v (.int .i64)], [(.tmp 4, (.int .i64))], [], 0, [(17, ⟨[0, 1, 5], [], [], false⟩)]⟩
inductive laws_szStringS.Pt where
  | p0 (a0 : List (ByteArray)) (a1 : Int)
  | p17 (y1 : List (ByteArray)) (y2 : Int) (y3 : Int)
def laws_szStringS.lb : laws_szStringS.Pt → Nat
  | .p0 _ _ => 0
  | .p17 _ _ _ => 17
def laws_szStringS.st : laws_szStringS.Pt → St
  | .p0 a0 a1 => enter [.v (.sl false .str) a0, .v (.int .i64) a1] 0
  | .p17 y1 y2 y3 => ⟨[(0, .im (.sl false .str) y1), (1, .im (.int .i64) y2), (5, .im (.int .i64) y3)], [], 0⟩
def laws_szStringS.step (n : Nat) (K : laws_szStringS.Pt → Option (Tup [(.int .i64)])) : laws_szStringS.Pt → Option (Tup [(.int .i64)])
  | .p0 a0 a1 => cond (decide ((IntKind.wrap .i64 (a1 - ((List.length a0) : Int))) < (0 : Int))) (some (-(1 : Int))) (K (.p17 a0 (IntKind.wrap .i64 (a1 - ((List.length a0) : Int))) (0 : Int)))
  | .p17 y1 y2 y3 => cond (decide (y3 < ((List.length y1) : Int))) (cond (inB y3 (List.length y1)) (cond (decide ((IntKind.wrap .i64 (y2 - ((ByteArray.size (List.getD y1 (Int.toNat y3) default)) : Int))) < (0 : Int))) (some (-(1 : Int))) (K (.p17 y1 (IntKind.wrap .i64 (y2 - ((ByteArray.size (List.getD y1 (Int.toNat y3) default)) : Int))) (IntKind.wrap .i64 (y3 + (1 : Int)))))) (none)) (some y2)
def laws_szStringS (n : Nat) (a0 : List (ByteArray)) (a1 : Int) : Option (Tup [(.int .i64)]) := goRec laws_szStringS.step n (.p0 a0 a1)
def laws_szStringS.spec : Ctr := ⟨23, [.v (.sl false .str), .v (.int .i64)], [(.int .i64)], [], none, fun n x => laws_szStringS n x.1 x.2.1⟩
theorem laws_szStringS.seg_eq : SegEq ty gl laws_szStringS.F laws_szStringS.md laws_szStringS.T laws_szStringS.spec laws_szStringS.lb laws_szStringS.st laws_szStringS.step := by
  intro n goto y; cases y <;> kernel_rfl
theorem laws_szStringS.text : Text Go.Proofs.Tryz.prog laws_szStringS.F laws_szStringS.spec := textOf Go.Proofs.Tryz.f23
theorem laws_szStringS.ok : CtrOK Go.Proofs.Tryz.prog gl laws_szStringS.spec :=
  ctr_okS tabs laws_szStringS.text laws_szStringS.seg_eq (fun n x => ⟨.p0 x.1 x.2.1, rfl, rfl, rfl⟩) (nilC)

/-! loop.example/g00039/laws.szIntS -/
def laws_szIntS.T : List Ctr := []
def laws_szIntS.md : List (Nat × List Md) := []
noncomputable def laws_szIntS.F : Fun := ⟨(Go.Proofs.Tryz.f24.body).getD .skip, [.v (.sl false (.int .i64)), .v (.int .i64)], [(.tmp 4, (.int .i64))], [], 0, []⟩
inductive laws_szIntS.Pt where
  | p0 (a0 : List (Int)) (a1 : Int)
def laws_szIntS.lb : laws_szIntS.Pt → Nat
  | .p0 _ _ => 0
def laws_szIntS.st : laws_szIntS.Pt → St
  | .p0 a0 a1 => enter [.v (.sl false (.int .i64)) a0, .v (.int .i64) a1] 0
def laws_szIntS.step (n : Nat) (K : laws_szIntS.Pt → Option (Tup [(.int .i64)])) : laws_szIntS.Pt → Option (Tup [(.int .i64)])
  | .p0 a0 a1 => cond (decide ((IntKind.wrap .i64 (a1 - ((List.length a0) : Int))) < (0 : Int))) (some (-(1 : Int))) (some (IntKind.wrap .i64 (a1 - ((List.length a0) : Int))))
def laws_szIntS (n : Nat) (a0 : List (Int)) (a1 : Int) : Option (Tup [(.int .i64)]) := goRec laws_szIntS.step n (.p0 a0 a1)
def laws_szIntS.spec : Ctr := ⟨24, [.v (.sl false (.int .i64)), .v (.int .i64)], [(.int .i64)], [], none, fun n x => laws_szIntS n x.1 x.2.1⟩
theorem laws_szIntS.seg_eq : SegEq ty gl laws_szIntS.F laws_szIntS.md laws_szIntS.T laws_szIntS.spec laws_szIntS.lb laws_szIntS.st laws_szIntS.step := by
  intro n goto y; cases y <;> kernel_rfl
theorem laws_szIntS.text : Text Go.Proofs.Tryz.prog laws_szIntS.F laws_szIntS.spec := textOf Go.Proofs.Tryz.f24
theorem laws_szIntS.ok : CtrOK Go.Proofs.Tryz.prog gl laws_szIntS.spec :=
  ctr_okS tabs laws_szIntS.text laws_szIntS.seg_eq (fun n x => ⟨.p0 x.1 x.2.1, rfl, rfl, rfl⟩) (nilC)

/-! loop.example/g00039/laws.szRoute -/
def laws_szRoute.T : List Ctr := [laws_szMatcherS.spec, laws_szStringS.spec, laws_szIntS.spec]
def laws_szRoute.md : List (Nat × List Md) := []
noncomputable def laws_szRoute.F : Fun := ⟨(Go.Proofs.Tryz.f9.body).getD .skip, [.v (.pair .str (.pair (.sl false (.pair .str (.pair (.int .i64) (.pair .str .unit)))) (.pair (.sl false .str) (.pair (.int .i64) (.pair (.int .i64) (.pair (.int .i64) (.pair (.sl false (.int .i64)) (.pair .bool (.pair (.int .i64) .unit))))))))), .v (.int .i64)], [(.tmp 4, (.int .i64))], [], 0, []⟩
inductive laws_szRoute.Pt where
  | p0 (a0 : (ByteArray) × ((List ((ByteArray) × ((Int) × ((ByteArray) × (Unit))))) × ((List (ByteArray)) × ((Int) × ((Int) × ((Int) × ((List (Int)) × ((Bool) × ((Int) × (Unit)))))))))) (a1 : Int)
def laws_szRoute.lb : laws_szRoute.Pt → Nat
  | .p0 _ _ => 0
def laws_szRoute.st : laws_szRoute.Pt → St
  | .p0 a0 a1 => enter [.v (.pair .str (.pair (.sl false (.pair .str (.pair (.int .i64) (.pair .str .unit)))) (.pair (.sl false .str) (.pair (.int .i64) (.pair (.int .i64) (.pair (.int .i64) (.pair (.sl false (.int .i64)) (.pair .bool (.pair (.int .i64) .unit))))))))) a0, .v (.int .i64) a1] 0
def laws_szRoute.step (n : Nat) (K : laws_szRoute.Pt → Option (Tup [(.int .i64)])) : laws_szRoute.Pt → Option (Tup [(.int .i64)])
  | .p0 a0 a1 => cond (decide ((IntKind.wrap .i64 (a1 - ((ByteArray.size a0.1) : Int))) < (0 : Int))) (some (-(1 : Int))) ((laws_szMatcherS n a0.2.1 (IntKind.wrap .i64 (a1 - ((ByteArray.size a0.1) : Int)))).bind fun (r5 : Int) => cond (decide (r5 < (0 : Int))) (some (-(1 : Int))) ((laws_szStringS n a0.2.2.1 r5).bind fun (r6 : Int) => cond (decide (r6 < (0 : Int))) (some (-(1 : Int))) ((laws_szIntS n a0.2.2.2.2.2.2.1 r6).bind fun (r7 : Int) => cond (decide (r7 < (0 : Int))) (some (-(1 : Int))) (some r7))))
def laws_szRoute (n : Nat) (a0 : (ByteArray) × ((List ((ByteArray) × ((Int) × ((ByteArray) × (Unit))))) × ((List (ByteArray)) × ((Int) × ((Int) × ((Int) × ((List (Int)) × ((Bool) × ((Int) × (Unit)))))))))) (a1 : Int) : Option (Tup [(.int .i64)]) := goRec laws_szRoute.step n (.p0 a0 a1)
def laws_szRoute.spec : Ctr := ⟨9, [.v (.pair .str (.pair (.sl false (.pair .str (.pair (.int .i64) (.pair .str .unit)))) (.pair (.sl false .str) (.pair (.int .i64) (.pair (.int .i64) (.pair (.int .i64) (.pair (.sl false (.int .i64)) (.pair .bool (.pair (.int .i64) .unit))))))))), .v (.int .i64)], [(.int .i64)], [], none, fun n x => laws_szRoute n x.1 x.2.1⟩
theorem laws_szRoute.seg_eq : SegEq ty gl laws_szRoute.F laws_szRoute.md laws_szRoute.T laws_szRoute.spec laws_szRoute.lb laws_szRoute.st laws_szRoute.step := by
  intro n goto y; cases y <;> kernel_rfl
theorem laws_szRoute.text : Text Go.Proofs.Tryz.prog laws_szRoute.F laws_szRoute.spec := textOf Go.Proofs.Tryz.f9
theorem laws_szRoute.ok : CtrOK Go.Proofs.Tryz.prog gl laws_szRoute.spec :=
  ctr_okS tabs laws_szRoute.text laws_szRoute.seg_eq (fun n x => ⟨.p0 x.1 x.2.1, rfl, rfl, rfl⟩) (consC laws_szMatcherS.ok (consC laws_szStringS.ok (consC laws_szIntS.ok (nilC))))

/-! loop.example/g00039/laws.szRouteS -/
def laws_szRouteS.T : List Ctr := [laws_szRoute.spec]
def laws_szRouteS.md : List (Nat × List Md) := []
noncomputable def laws_szRouteS.F : Fun := ⟨(Go.Proofs.Tryz.f4.body).getD .skip, [.v (.sl false (.pair .str (.pair (.sl false (.pair .str (.pair (.int .i64) (.pair .str .unit)))) (.pair (.sl false .str) (.pair (.int .i64) (.pair (.int .i64) (.pair (.int .i64) (.pair (.sl false (.int .i64)) (.pair .bool (.pair (.int .i64) .unit)))))))))), .v (.int .i64)], [(.tmp 4, (.int .i64))], [], 0, [(17, ⟨[0, 1, 5], [], [], false⟩)]⟩
inductive laws_szRouteS.Pt where
  | p0 (a0 : List ((ByteArray) × ((List ((ByteArray) × ((Int) × ((ByteArray) × (Unit))))) × ((List (ByteArray)) × ((Int) × ((Int) × ((Int) × ((List (Int)) × ((Bool) × ((Int) × (Unit))))))))))) (a1 : Int)
  | p17 (y1 : List ((ByteArray) × ((List ((ByteArray) × ((Int) × ((ByteArray) × (Unit))))) × ((List (ByteArray)) × ((Int) × ((Int) × ((Int) × ((List (Int)) × ((Bool) × ((Int) × (Unit))))))))))) (y2 : Int) (y3 : Int)
def laws_szRouteS.lb : laws_szRouteS.Pt → Nat
  | .p0 _ _ => 0
  | .p17 _ _ _ => 17
def laws_szRouteS.st : laws_szRouteS.Pt → St
  | .p0 a0 a1 => enter [.v (.sl false (.pair .str (.pair (.sl false (.pair .str (.pair (.int .i64) (.pair .str .unit)))) (.pair (.sl false .str) (.pair (.int .i64) (.pair (.int .i64) (.pair (.int .i64) (.pair (.sl false (.int .i64)) (.pair .bool (.pair (.int .i64) .unit)))))))))) a0, .v (.int .i64) a1] 0
  | .p17 y1 y2 y3 => ⟨[(0, .im (.sl false (.pair .str (.pair (.sl false (.pair .str (.pair (.int .i64) (.pair .str .unit)))) (.pair (.sl false .str) (.pair (.int .i64) (.pair (.int .i64) (.pair (.int .i64) (.pair (.sl false (.int .i64)) (.pair .bool (.pair (.int .i64) .unit)))))))))) y1), (1, .im (.int .i64) y2), (5, .im (.int .i64) y3)], [], 0⟩
def laws_szRouteS.step (n : Nat) (K : laws_szRouteS.Pt → Option (Tup [(.int .i64)])) : laws_szRouteS.Pt → Option (Tup [(.int .i64)])
  | .p0 a0 a1 => cond (decide ((IntKind.wrap .i64 (a1 - ((List.length a0) : Int))) < (0 : Int))) (some (-(1 : Int))) (K (.p17 a0 (IntKind.wrap .i64 (a1 - ((List.length a0) : Int))) (0 : Int)))
  | .p17 y1 y2 y3 => cond (decide (y3 < ((List.length y1) : Int))) (cond (inB y3 (List.length y1)) ((laws_szRoute n (List.getD y1 (Int.toNat y3) default) y2).bind fun (r6 : Int) => cond (decide (r6 < (0 : Int))) (some (-(1 : Int))) (K (.p17 y1 r6 (IntKind.wrap .i64 (y3 + (1 : Int)))))) (none)) (some y2)
def laws_szRouteS (n : Nat) (a0 : List ((ByteArray) × ((List ((ByteArray) × ((Int) × ((ByteArray) × (Unit))))) × ((List (ByteArray)) × ((Int) × ((Int) × ((Int) × ((List (Int)) × ((Bool) × ((Int) × (Unit))))))))))) (a1 : Int) : Option (Tup [(.int .i64)]) := goRec laws_szRouteS.step n (.p0 a0 a1)
def laws_szRouteS.spec : Ctr := ⟨4, [.v (.sl false (.pair .str (.pair (.sl false (.pair .str (.pair (.int .i64) (.pair .str .unit)))) (.pair (.sl false .str) (.pair (.int .i64) (.pair (.int .i64) (.pair (.int .i64) (.pair (.sl false (.int .i64)) (.pair .bool (.pair (.int .i64) .unit)))))))))), .v (.int .i64)], [(.int .i64)], [], none, fun n x => laws_szRouteS n x.1 x.2.1⟩
theorem laws_szRouteS.seg_eq : SegEq ty gl laws_szRouteS.F laws_szRouteS.md laws_szRouteS.T laws_szRouteS.spec laws_szRouteS.lb laws_szRouteS.st laws_szRouteS.step := by
  intro n goto y; cases y <;> kernel_rfl
theorem laws_szRouteS.text : Text Go.Proofs.Tryz.prog laws_szRouteS.F laws_szRouteS.spec := textOf Go.Proofs.Tryz.f4
theorem laws_szRouteS.ok : CtrOK Go.Proofs.Tryz.prog gl laws_szRouteS.spec :=
  ctr_okS tabs laws_szRouteS.text laws_szRouteS.seg_eq (fun n x => ⟨.p0 x.1 x.2.1, rfl, rfl, rfl⟩) (consC laws_szRoute.ok (nilC))

/-! loop.example/g00039/laws.toMatcher -/
def laws_toMatcher.T : List Ctr := []
def laws_toMatcher.md : List (Nat × List Md) := []
noncomputable def laws_toMatcher.F : Fun := ⟨(Go.Proofs.Tryz.f52.body).getD .skip, [.v (.pair .str (.pair (.int .i64) (.pair .str .unit)))], [(.cell 2 83, (.pair .str (.pair (.int .i64) (.pair .str .unit))))], [], 0, []⟩
inductive laws_toMatcher.Pt where
  | p0 (a0 : (ByteArray) × ((Int) × ((ByteArray) × (Unit))))
def laws_toMatcher.lb : laws_toMatcher.Pt → Nat
  | .p0 _ => 0
def laws_toMatcher.st : laws_toMatcher.Pt → St
  | .p0 a0 => enter [.v (.pair .str (.pair (.int .i64) (.pair .str .unit))) a0] 0
def laws_toMatcher.step (n : Nat) (K : laws_toMatcher.Pt → Option (Tup [(.pair .str (.pair (.int .i64) (.pair .str .unit)))])) : laws_toMatcher.Pt → Option (Tup [(.pair .str (.pair (.int .i64) (.pair .str .unit)))])
  | .p0 a0 => some a0
def laws_toMatcher (n : Nat) (a0 : (ByteArray) × ((Int) × ((ByteArray) × (Unit)))) : Option (Tup [(.pair .str (.pair (.int .i64) (.pair .str .unit)))]) := goRec laws_toMatcher.step n (.p0 a0)
def laws_toMatcher.spec : Ctr := ⟨52, [.v (.pair .str (.pair (.int .i64) (.pair .str .unit)))], [(.pair .str (.pair (.int .i64) (.pair .str .unit)))], [], none, fun n x => laws_toMatcher n x.1⟩
theorem laws_toMatcher.seg_eq : SegEq ty gl laws_toMatcher.F laws_toMatcher.md laws_toMatcher.T laws_toMatcher.spec laws_toMatcher.lb laws_toMatcher.st laws_toMatcher.step := by
  intro n goto y; cases y <;> kernel_rfl
theorem laws_toMatcher.text : Text Go.Proofs.Tryz.prog laws_toMatcher.F laws_toMatcher.spec := textOf Go.Proofs.Tryz.f52
theorem laws_toMatcher.ok : CtrOK Go.Proofs.Tryz.prog gl laws_toMatcher.spec :=
  ctr_okS tabs laws_toMatcher.text laws_toMatcher.seg_eq (fun n x => ⟨.p0 x.1, rfl, rfl, rfl⟩) (nilC)

/-! loop.example/g00039/laws.toMatcherS -/
def laws_toMatcherS.T : List Ctr := [laws_toMatcher.spec]
def laws_toMatcherS.md : List (Nat × List Md) := []
noncomputable def laws_toMatcherS.F : Fun := ⟨(Go.Proofs.Tryz.f30.body).getD .skip, [.v (.sl false (.pair .str (.pair (.int .i64) (.pair .str .unit))))], [(.tmp 2, (.sl false (.pair .str (.pair (.int .i64) (.pair .str .unit)))))], [], 0, [(9, ⟨[0, 3, 4], [(3, (.pair .str (.pair (.int .i64) (.pair .str .unit))))], [], false⟩)]⟩
inductive laws_toMatcherS.Pt where
  | p0 (a0 : List ((ByteArray) × ((Int) × ((ByteArray) × (Unit)))))
  | p9 (y1 : List ((ByteArray) × ((Int) × ((ByteArray) × (Unit))))) (y2 : Int) (y3 : List ((ByteArray) × ((Int) × ((ByteArray) × (Unit)))))
def laws_toMatcherS.lb : laws_toMatcherS.Pt → Nat
  | .p0 _ => 0
  | .p9 _ _ _ => 9
def laws_toMatcherS.st : laws_toMatcherS.Pt → St
  | .p0 a0 => enter [.v (.sl false (.pair .str (.pair (.int .i64) (.pair .str .unit)))) a0] 0
  | .p9 y1 y2 y3 => ⟨[(0, .im (.sl false (.pair .str (.pair (.int .i64) (.pair .str .unit)))) y1), (3, .hs 0 [] none 0), (4, .im (.int .i64) y2)], [(0, .arr false (.pair .str (.pair (.int .i64) (.pair .str .unit))) y3 0)], 1⟩
def laws_toMatcherS.step (n : Nat) (K : laws_toMatcherS.Pt → Option (Tup [(.sl false (.pair .str (.pair (.int .i64) (.pair .str .unit))))])) : laws_toMatcherS.Pt → Option (Tup [(.sl false (.pair .str (.pair (.int .i64) (.pair .str .unit))))])
  | .p0 a0 => cond (inC ((List.length a0) : Int) ((List.length a0) : Int) 1000000000) (K (.p9 a0 (0 : Int) (List.replicate (Int.toNat ((List.length a0) : Int)) (default : (ByteArray) × ((Int) × ((ByteArray) × (Unit))))))) (none)
  | .p9 y1 y2 y3 => cond (decide (y2 < ((List.length y1) : Int))) (cond (inB y2 (List.length y1)) ((laws_toMatcher n (List.getD y1 (Int.toNat y2) default)).bind fun r6 => cond (inB y2 (List.length y3)) (K (.p9 y1 (IntKind.wrap .i64 (y2 + (1 : Int))) (List.set y3 (0 + (Int.toNat y2)) r6))) (none)) (none)) (some y3)
def laws_toMatcherS (n : Nat) (a0 : List ((ByteArray) × ((Int) × ((ByteArray) × (Unit))))) : Option (Tup [(.sl false (.pair .str (.pair (.int .i64) (.pair .str .unit))))]) := goRec laws_toMatcherS.step n (.p0 a0)
def laws_toMatcherS.spec : Ctr := ⟨30, [.v (.sl false (.pair .str (.pair (.int .i64) (.pair .str .unit))))], [(.sl false (.pair .str (.pair (.int .i64) (.pair .str .unit))))], [], none, fun n x => laws_toMatcherS n x.1⟩
theorem laws_toMatcherS.seg_eq : SegEq ty gl laws_toMatcherS.F laws_toMatcherS.md laws_toMatcherS.T laws_toMatcherS.spec laws_toMatcherS.lb laws_toMatcherS.st laws_toMatcherS.step := by
  intro n goto y; cases y <;> kernel_rfl
theorem laws_toMatcherS.text : Text Go.Proofs.Tryz.prog laws_toMatcherS.F laws_toMatcherS.spec := textOf Go.Proofs.Tryz.f30
theorem laws_toMatcherS.ok : CtrOK Go.Proofs.Tryz.prog gl laws_toMatcherS.spec :=
  ctr_okS tabs laws_toMatcherS.text laws_toMatcherS.seg_eq (fun n x => ⟨.p0 x.1, rfl, rfl, rfl⟩) (consC laws_toMatcher.ok (nilC))

/-! loop.example/g00039/laws.toStringS -/
def laws_toStringS.T : List Ctr := []
def laws_toStringS.md : List (Nat × List Md) := []
noncomputable def laws_toStringS.F : Fun := ⟨(Go.Proofs.Tryz.f31.body).getD .skip, [.v (.sl false .str)], [(.tmp 2, (.sl false .str))], [], 0, [(9, ⟨[0, 3, 4], [(3, .str)], [], false⟩)]⟩
inductive laws_toStringS.Pt where
  | p0 (a0 : List (ByteArray))
  | p9 (y1 : List (ByteArray)) (y2 : Int) (y3 : List (ByteArray))
def laws_toStringS.lb : laws_toStringS.Pt → Nat
  | .p0 _ => 0
  | .p9 _ _ _ => 9
def laws_toStringS.st : laws_toStringS.Pt → St
  | .p0 a0 => enter [.v (.sl false .str) a0] 0
  | .p9 y1 y2 y3 => ⟨[(0, .im (.sl false .str) y1), (3, .hs 0 [] none 0), (4, .im (.int .i64) y2)], [(0, .arr false .str y3 0)], 1⟩
def laws_toStringS.step (n : Nat) (K : laws_toStringS.Pt → Option (Tup [(.sl false .str)])) : laws_toStringS.Pt → Option (Tup [(.sl false .str)])
  | .p0 a0 => cond (inC ((List.length a0) : Int) ((List.length a0) : Int) 1000000000) (K (.p9 a0 (0 : Int) (List.replicate (Int.toNat ((List.length a0) : Int)) (default : ByteArray)))) (none)
  | .p9 y1 y2 y3 => cond (decide (y2 < ((List.length y1) : Int))) (cond (inB y2 (List.length y1)) (cond (inB y2 (List.length y3)) (K (.p9 y1 (IntKind.wrap .i64 (y2 + (1 : Int))) (List.set y3 (0 + (Int.toNat y2)) (List.getD y1 (Int.toNat y2) default)))) (none)) (none)) (some y3)
def laws_toStringS (n : Nat) (a0 : List (ByteArray)) : Option (Tup [(.sl false .str)]) := goRec laws_toStringS.step n (.p0 a0)
def laws_toStringS.spec : Ctr := ⟨31, [.v (.sl false .str)], [(.sl false .str)], [], none, fun n x => laws_toStringS n x.1⟩
theorem laws_toStringS.seg_eq : SegEq ty gl laws_toStringS.F laws_toStringS.md laws_toStringS.T laws_toStringS.spec laws_toStringS.lb laws_toStringS.st laws_toStringS.step := by
  intro n goto y; cases y <;> kernel_rfl
theorem laws_toStringS.text : Text Go.Proofs.Tryz.prog laws_toStringS.F laws_toStringS.spec := textOf Go.Proofs.Tryz.f31
theorem laws_toStringS.ok : CtrOK Go.Proofs.Tryz.prog gl laws_toStringS.spec :=
  ctr_okS tabs laws_toStringS.text laws_toStringS.seg_eq (fun n x => ⟨.p0 x.1, rfl, rfl, rfl⟩) (nilC)

/-! loop.example/g00039/laws.toIntS -/
def laws_toIntS.T : List Ctr := []
def laws_toIntS.md : List (Nat × List Md) := []
noncomputable def laws_toIntS.F : Fun := ⟨(Go.Proofs.Tryz.f32.body).getD .skip, [.v (.sl false (.int .i64))], [(.tmp 2, (.sl false (.int .i64)))], [], 0, [(9, ⟨[0, 3, 4], [(3, (.int .i64))], [], false⟩)]⟩
inductive laws_toIntS.Pt where
  | p0 (a0 : List (Int))
  | p9 (y1 : List (Int)) (y2 : Int) (y3 : List (Int))
def laws_toIntS.lb : laws_toIntS.Pt → Nat
  | .p0 _ => 0
  | .p9 _ _ _ => 9
def laws_toIntS.st : laws_toIntS.Pt → St
  | .p0 a0 => enter [.v (.sl false (.int .i64)) a0] 0
  | .p9 y1 y2 y3 => ⟨[(0, .im (.sl false (.int .i64)) y1), (3, .hs 0 [] none 0), (4, .im (.int .i64) y2)], [(0, .arr false (.int .i64) y3 0)], 1⟩
def laws_toIntS.step (n : Nat) (K : laws_toIntS.Pt → Option (Tup [(.sl false (.int .i64))])) : laws_toIntS.Pt → Option (Tup [(.sl false (.int .i64))])
  | .p0 a0 => cond (inC ((List.length a0) : Int) ((List.length a0) : Int) 1000000000) (K (.p9 a0 (0 : Int) (List.replicate (Int.toNat ((List.length a0) : Int)) (default : Int)))) (none)
  | .p9 y1 y2 y3 => cond (decide (y2 < ((List.length y1) : Int))) (cond (inB y2 (List.length y1)) (cond (inB y2 (List.length y3)) (K (.p9 y1 (IntKind.wrap .i64 (y2 + (1 : Int))) (List.set y3 (0 + (Int.toNat y2)) (List.getD y1 (Int.toNat y2) default)))) (none)) (none)) (some y3)
def laws_toIntS (n : Nat) (a0 : List (Int)) : Option (Tup [(.sl false (.int .i64))]) := goRec laws_toIntS.step n (.p0 a0)
def laws_toIntS.spec : Ctr := ⟨32, [.v (.sl false (.int .i64))], [(.sl false (.int .i64))], [], none, fun n x => laws_toIntS n x.1⟩
theorem laws_toIntS.seg_eq : SegEq ty gl laws_toIntS.F laws_toIntS.md laws_toIntS.T laws_toIntS.spec laws_toIntS.lb laws_toIntS.st laws_toIntS.step := by
  intro n goto y; cases y <;> kernel_rfl
theorem laws_toIntS.text : Text Go.Proofs.Tryz.prog laws_toIntS.F laws_toIntS.spec := textOf Go.Proofs.Tryz.f32
theorem laws_toIntS.ok : CtrOK Go.Proofs.Tryz.prog gl laws_toIntS.spec :=
  ctr_okS tabs laws_toIntS.text laws_toIntS.seg_eq (fun n x => ⟨.p0 x.1, rfl, rfl, rfl⟩) (nilC)

/-! loop.example/g00039/laws.toRoute -/
def laws_toRoute.T : List Ctr := [laws_toMatcherS.spec, laws_toStringS.spec, laws_toIntS.spec]
def laws_toRoute.md : List (Nat × List Md) := []
noncomputable def laws_toRoute.F : Fun := ⟨(Go.Proofs.Tryz.f13.body).getD .skip, [.v (.pair .str (.pair (.sl false (.pair .str (.pair (.int .i64) (.pair .str .unit)))) (.pair (.sl false .str) (.pair (.int .i64) (.pair (.int .i64) (.pair (.int .i64) (.pair (.sl false (.int .i64)) (.pair .bool (.pair (.int .i64) .unit)))))))))], [(.cell 2 40, (.pair .str (.pair (.sl false (.pair .str (.pair (.int .i64) (.pair .str .unit)))) (.pair (.sl false .str) (.pair (.int .i64) (.pair (.int .i64) (.pair (.int .i64) (.pair (.sl false (.int .i64)) (.pair .bool (.pair (.int .i64) .unit))))))))))], [], 0, []⟩
inductive laws_toRoute.Pt where
  | p0 (a0 : (ByteArray) × ((List ((ByteArray) × ((Int) × ((ByteArray) × (Unit))))) × ((List (ByteArray)) × ((Int) × ((Int) × ((Int) × ((List (Int)) × ((Bool) × ((Int) × (Unit))))))))))
def laws_toRoute.lb : laws_toRoute.Pt → Nat
  | .p0 _ => 0
def laws_toRoute.st : laws_toRoute.Pt → St
  | .p0 a0 => enter [.v (.pair .str (.pair (.sl false (.pair .str (.pair (.int .i64) (.pair .str .unit)))) (.pair (.sl false .str) (.pair (.int .i64) (.pair (.int .i64) (.pair (.int .i64) (.pair (.sl false (.int .i64)) (.pair .bool (.pair (.int .i64) .unit))))))))) a0] 0
def laws_toRoute.step (n : Nat) (K : laws_toRoute.Pt → Option (Tup [(.pair .str (.pair (.sl false (.pair .str (.pair (.int .i64) (.pair .str .unit)))) (.pair (.sl false .str) (.pair (.int .i64) (.pair (.int .i64) (.pair (.int .i64) (.pair (.sl false (.int .i64)) (.pair .bool (.pair (.int .i64) .unit)))))))))])) : laws_toRoute.Pt → Option (Tup [(.pair .str (.pair (.sl false (.pair .str (.pair (.int .i64) (.pair .str .unit)))) (.pair (.sl false .str) (.pair (.int .i64) (.pair (.int .i64) (.pair (.int .i64) (.pair (.sl false (.int .i64)) (.pair .bool (.pair (.int .i64) .unit)))))))))])
  | .p0 a0 => (laws_toMatcherS n a0.2.1).bind fun r4 => (laws_toStringS n a0.2.2.1).bind fun r5 => (laws_toIntS n a0.2.2.2.2.2.2.1).bind fun r6 => some (a0.1, (r4, (r5, (a0.2.2.2.1, (a0.2.2.2.2.1, (a0.2.2.2.2.2.1, (r6, a0.2.2.2.2.2.2.2)))))))
def laws_toRoute (n : Nat) (a0 : (ByteArray) × ((List ((ByteArray) × ((Int) × ((ByteArray) × (Unit))))) × ((List (ByteArray)) × ((Int) × ((Int) × ((Int) × ((List (Int)) × ((Bool) × ((Int) × (Unit)))))))))) : Option (Tup [(.pair .str (.pair (.sl false (.pair .str (.pair (.int .i64) (.pair .str .unit)))) (.pair (.sl false .str) (.pair (.int .i64) (.pair (.int .i64) (.pair (.int .i64) (.pair (.sl false (.int .i64)) (.pair .bool (.pair (.int .i64) .unit)))))))))]) := goRec laws_toRoute.step n (.p0 a0)
def laws_toRoute.spec : Ctr := ⟨13, [.v (.pair .str (.pair (.sl false (.pair .str (.pair (.int .i64) (.pair .str .unit)))) (.pair (.sl false .str) (.pair (.int .i64) (.pair (.int .i64) (.pair (.int .i64) (.pair (.sl false (.int .i64)) (.pair .bool (.pair (.int .i64) .unit)))))))))], [(.pair .str (.pair (.sl false (.pair .str (.pair (.int .i64) (.pair .str .unit)))) (.pair (.sl false .str) (.pair (.int .i64) (.pair (.int .i64) (.pair (.int .i64) (.pair (.sl false (.int .i64)) (.pair .bool (.pair (.int .i64) .unit)))))))))], [], none, fun n x => laws_toRoute n x.1⟩
theorem laws_toRoute.seg_eq : SegEq ty gl laws_toRoute.F laws_toRoute.md laws_toRoute.T laws_toRoute.spec laws_toRoute.lb laws_toRoute.st laws_toRoute.step := by
  intro n goto y; cases y <;> kernel_rfl
theorem laws_toRoute.text : Text Go.Proofs.Tryz.prog laws_toRoute.F laws_toRoute.spec := textOf Go.Proofs.Tryz.f13
theorem laws_toRoute.ok : CtrOK Go.Proofs.Tryz.prog gl laws_toRoute.spec :=
  ctr_okS tabs laws_toRoute.text laws_toRoute.seg_eq (fun n x => ⟨.p0 x.1, rfl, rfl, rfl⟩) (consC laws_toMatcherS.ok (consC laws_toStringS.ok (consC laws_toIntS.ok (nilC))))

/-! loop.example/g00039/laws.toRouteS -/
def laws_toRouteS.T : List Ctr := [laws_toRoute.spec]
def laws_toRouteS.md : List (Nat × List Md) := []
noncomputable def laws_toRouteS.F : Fun := ⟨(Go.Proofs.Tryz.f6.body).getD .skip, [.v (.sl false (.pair .str (.pair (.sl false (.pair .str (.pair (.int .i64) (.pair .str .unit)))) (.pair (.sl false .str) (.pair (.int .i64) (.pair (.int .i64) (.pair (.int .i64) (.pair (.sl false (.int .i64)) (.pair .bool (.pair (.int .i64) .unit))))))))))], [(.tmp 2, (.sl false (.pair .str (.pair (.sl false (.pair .str (.pair (.int .i64) (.pair .str .unit)))) (.pair (.sl false .str) (.pair (.int .i64) (.pair (.int .i64) (.pair (.int .i64) (.pair (.sl false (.int .i64)) (.pair .bool (.pair (.int .i64) .unit)))))))))))], [], 0, [(9, ⟨[0, 3, 4], [(3, (.pair .str (.pair (.sl false (.pair .str (.pair (.int .i64) (.pair .str .unit)))) (.pair (.sl false .str) (.pair (.int .i64) (.pair (.int .i64) (.pair (.int .i64) (.pair (.sl false (.int .i64)) (.pair .bool (.pair (.int .i64) .unit))))))))))], [], false⟩)]⟩
inductive laws_toRouteS.Pt where
  | p0 (a0 : List ((ByteArray) × ((List ((ByteArray) × ((Int) × ((ByteArray) × (Unit))))) × ((List (ByteArray)) × ((Int) × ((Int) × ((Int) × ((List (Int)) × ((Bool) × ((Int) × (Unit)))))))))))
  | p9 (y1 : List ((ByteArray) × ((List ((ByteArray) × ((Int) × ((ByteArray) × (Unit))))) × ((List (ByteArray)) × ((Int) × ((Int) × ((Int) × ((List (Int)) × ((Bool) × ((Int) × (Unit))))))))))) (y2 : Int) (y3 : List ((ByteArray) × ((List ((ByteArray) × ((Int) × ((ByteArray) × (Unit))))) × ((List (ByteArray)) × ((Int) × ((Int) × ((Int) × ((List (Int)) × ((Bool) × ((Int) × (Unit)))))))))))
def laws_toRouteS.lb : laws_toRouteS.Pt → Nat
  | .p0 _ => 0
  | .p9 _ _ _ => 9
def laws_toRouteS.st : laws_toRouteS.Pt → St
  | .p0 a0 => enter [.v (.sl false (.pair .str (.pair (.sl false (.pair .str (.pair (.int .i64) (.pair .str .unit)))) (.pair (.sl false .str) (.pair (.int .i64) (.pair (.int .i64) (.pair (.int .i64) (.pair (.sl false (.int .i64)) (.pair .bool (.pair (.int .i64) .unit)))))))))) a0] 0
  | .p9 y1 y2 y3 => ⟨[(0, .im (.sl false (.pair .str (.pair (.sl false (.pair .str (.pair (.int .i64) (.pair .str .unit)))) (.pair (.sl false .str) (.pair (.int .i64) (.pair (.int .i64) (.pair (.int .i64) (.pair (.sl false (.int .i64)) (.pair .bool (.pair (.int .i64) .unit)))))))))) y1), (3, .hs 0 [] none 0), (4, .im (.int .i64) y2)], [(0, .arr false (.pair .str (.pair (.sl false (.pair .str (.pair (.int .i64) (.pair .str .unit)))) (.pair (.sl false .str) (.pair (.int .i64) (.pair (.int .i64) (.pair (.int .i64) (.pair (.sl false (.int .i64)) (.pair .bool (.pair (.int .i64) .unit))))))))) y3 0)], 1⟩
def laws_toRouteS.step (n : Nat) (K : laws_toRouteS.Pt → Option (Tup [(.sl false (.pair .str (.pair (.sl false (.pair .str (.pair (.int .i64) (.pair .str .unit)))) (.pair (.sl false .str) (.pair (.int .i64) (.pair (.int .i64) (.pair (.int .i64) (.pair (.sl false (.int .i64)) (.pair .bool (.pair (.int .i64) .unit))))))))))])) : laws_toRouteS.Pt → Option (Tup [(.sl false (.pair .str (.pair (.sl false (.pair .str (.pair (.int .i64) (.pair .str .unit)))) (.pair (.sl false .str) (.pair (.int .i64) (.pair (.int .i64) (.pair (.int .i64) (.pair (.sl false (.int .i64)) (.pair .bool (.pair (.int .i64) .unit))))))))))])
  | .p0 a0 => cond (inC ((List.length a0) : Int) ((List.length a0) : Int) 1000000000) (K (.p9 a0 (0 : Int) (List.replicate (Int.toNat ((List.length a0) : Int)) (default : (ByteArray) × ((List ((ByteArray) × ((Int) × ((ByteArray) × (Unit))))) × ((List (ByteArray)) × ((Int) × ((Int) × ((Int) × ((List (Int)) × ((Bool) × ((Int) × (Unit))))))))))))) (none)
  | .p9 y1 y2 y3 => cond (decide (y2 < ((List.length y1) : Int))) (cond (inB y2 (List.length y1)) ((laws_toRoute n (List.getD y1 (Int.toNat y2) default)).bind fun r6 => cond (inB y2 (List.length y3)) (K (.p9 y1 (IntKind.wrap .i64 (y2 + (1 : Int))) (List.set y3 (0 + (Int.toNat y2)) r6))) (none)) (none)) (some y3)
def laws_toRouteS (n : Nat) (a0 : List ((ByteArray) × ((List ((ByteArray) × ((Int) × ((ByteArray) × (Unit))))) × ((List (ByteArray)) × ((Int) × ((Int) × ((Int) × ((List (Int)) × ((Bool) × ((Int) × (Unit))))))))))) : Option (Tup [(.sl false (.pair .str (.pair (.sl false (.pair .str (.pair (.int .i64) (.pair .str .unit)))) (.pair (.sl false .str) (.pair (.int .i64) (.pair (.int .i64) (.pair (.int .i64) (.pair (.sl false (.int .i64)) (.pair .bool (.pair (.int .i64) .unit))))))))))]) := goRec laws_toRouteS.step n (.p0 a0)
def laws_toRouteS.spec : Ctr := ⟨6, [.v (.sl false (.pair .str (.pair (.sl false (.pair .str (.pair (.int .i64) (.pair .str .unit)))) (.pair (.sl false .str) (.pair (.int .i64) (.pair (.int .i64) (.pair (.int .i64) (.pair (.sl false (.int .i64)) (.pair .bool (.pair (.int .i64) .unit))))))))))], [(.sl false (.pair .str (.pair (.sl false (.pair .str (.pair (.int .i64) (.pair .str .unit)))) (.pair (.sl false .str) (.pair (.int .i64) (.pair (.int .i64) (.pair (.int .i64) (.pair (.sl false (.int .i64)) (.pair .bool (.pair (.int .i64) .unit))))))))))], [], none, fun n x => laws_toRouteS n x.1⟩
theorem laws_toRouteS.seg_eq : SegEq ty gl laws_toRouteS.F laws_toRouteS.md laws_toRouteS.T laws_toRouteS.spec laws_toRouteS.lb laws_toRouteS.st laws_toRouteS.step := by
  intro n goto y; cases y <;> kernel_rfl
theorem laws_toRouteS.text : Text Go.Proofs.Tryz.prog laws_toRouteS.F laws_toRouteS.spec := textOf Go.Proofs.Tryz.f6
theorem laws_toRouteS.ok : CtrOK Go.Proofs.Tryz.prog gl laws_toRouteS.spec :=
  ctr_okS tabs laws_toRouteS.text laws_toRouteS.seg_eq (fun n x => ⟨.p0 x.1, rfl, rfl, rfl⟩) (consC laws_toRoute.ok (nilC))

/-! loop.example/g00039/spec.l2Digit -/
def spec_l2Digit.T : List Ctr := []
def spec_l2Digit.md : List (Nat × List Md) := []
noncomputable def spec_l2Digit.F : Fun := ⟨(Go.Proofs.Tryz.f83.body).getD .skip, [.v (.int .u8)], [(.tmp 2, .bool)], [], 0, []⟩
inductive spec_l2Digit.Pt where
  | p0 (a0 : Int)
def spec_l2Digit.lb : spec_l2Digit.Pt → Nat
  | .p0 _ => 0
def spec_l2Digit.st : spec_l2Digit.Pt → St
  | .p0 a0 => enter [.v (.int .u8) a0] 0
def spec_l2Digit.step (n : Nat) (K : spec_l2Digit.Pt → Option (Tup [.bool])) : spec_l2Digit.Pt → Option (Tup [.bool])
  | .p0 a0 => cond (decide ((48 : Int) ≤ a0)) (some (decide (a0 ≤ (57 : Int)))) (some false)
def spec_l2Digit (n : Nat) (a0 : Int) : Option (Tup [.bool]) := goRec spec_l2Digit.step n (.p0 a0)
def spec_l2Digit.spec : Ctr := ⟨83, [.v (.int .u8)], [.bool], [], none, fun n x => spec_l2Digit n x.1⟩
theorem spec_l2Digit.seg_eq : SegEq ty gl spec_l2Digit.F spec_l2Digit.md spec_l2Digit.T spec_l2Digit.spec spec_l2Digit.lb spec_l2Digit.st spec_l2Digit.step := by
  intro n goto y; cases y <;> kernel_rfl
theorem spec_l2Digit.text : Text Go.Proofs.Tryz.prog spec_l2Digit.F spec_l2Digit.spec := textOf Go.Proofs.Tryz.f83
theorem spec_l2Digit.ok : CtrOK Go.Proofs.Tryz.prog gl spec_l2Digit.spec :=
  ctr_okS tabs spec_l2Digit.text spec_l2Digit.seg_eq (fun n x => ⟨.p0 x.1, rfl, rfl, rfl⟩) (nilC)

/-! loop.example/g00039/spec.l2Letter -/
def spec_l2Letter.T : List Ctr := []
def spec_l2Letter.md : List (Nat × List Md) := []
noncomputable def spec_l2Letter.F : Fun := ⟨(Go.Proofs.Tryz.f84.body).getD .skip, [.v (.int .u8)], [(.tmp 2, .bool)], [], 0, []⟩
inductive spec_l2Letter.Pt where
  | p0 (a0 : Int)
def spec_l2Letter.lb : spec_l2Letter.Pt → Nat
  | .p0 _ => 0
def spec_l2Letter.st : spec_l2Letter.Pt → St
  | .p0 a0 => enter [.v (.int .u8) a0] 0
def spec_l2Letter.step (n : Nat) (K : spec_l2Letter.Pt → Option (Tup [.bool])) : spec_l2Letter.Pt → Option (Tup [.bool])
  | .p0 a0 => cond (decide ((97 : Int) ≤ a0)) (cond (decide (a0 ≤ (122 : Int))) (some true) (cond (decide ((65 : Int) ≤ a0)) (some (decide (a0 ≤ (90 : Int)))) (some false))) (cond (decide ((65 : Int) ≤ a0)) (some (decide (a0 ≤ (90 : Int)))) (some false))
def spec_l2Letter (n : Nat) (a0 : Int) : Option (Tup [.bool]) := goRec spec_l2Letter.step n (.p0 a0)
def spec_l2Letter.spec : Ctr := ⟨84, [.v (.int .u8)], [.bool], [], none, fun n x => spec_l2Letter n x.1⟩
theorem spec_l2Letter.seg_eq : SegEq ty gl spec_l2Letter.F spec_l2Letter.md spec_l2Letter.T spec_l2Letter.spec spec_l2Letter.lb spec_l2Letter.st spec_l2Letter.step := by
  intro n goto y; cases y <;> kernel_rfl
theorem spec_l2Letter.text : Text Go.Proofs.Tryz.prog spec_l2Letter.F spec_l2Letter.spec := textOf Go.Proofs.Tryz.f84
theorem spec_l2Letter.ok : CtrOK Go.Proofs.Tryz.prog gl spec_l2Letter.spec :=
  ctr_okS tabs spec_l2Letter.text spec_l2Letter.seg_eq (fun n x => ⟨.p0 x.1, rfl, rfl, rfl⟩) (nilC)

/-! loop.example/g00039/spec.l2Name -/
def spec_l2Name.T : List Ctr := [spec_l2Digit.spec, spec_l2Letter.spec]
def spec_l2Name.md : List (Nat × List Md) := []
noncomputable def spec_l2Name.F : Fun := ⟨(Go.Proofs.Tryz.f67.body).getD .skip, [.v .str], [(.tmp 2, .bool)], [], 0, [(4, ⟨[0, 16], [], [], false⟩), (15, ⟨[0, 3], [], [], false⟩), (24, ⟨[0, 3, 40], [], [], false⟩)]⟩
inductive spec_l2Name.Pt where
  | p0 (a0 : ByteArray)
  | p4 (y1 : ByteArray) (y2 : Bool)
  | p15 (y1 : ByteArray) (y2 : Int)
  | p24 (y1 : ByteArray) (y2 : Int) (y3 : Bool)
def spec_l2Name.lb : spec_l2Name.Pt → Nat
  | .p0 _ => 0
  | .p4 _ _ => 4
  | .p15 _ _ => 15
  | .p24 _ _ _ => 24
def spec_l2Name.st : spec_l2Name.Pt → St
  | .p0 a0 => enter [.v .str a0] 0
  | .p4 y1 y2 => ⟨[(0, .im .str y1), (16, .im .bool y2)], [], 0⟩
  | .p15 y1 y2 => ⟨[(0, .im .str y1), (3, .im (.int .i64) y2)], [], 0⟩
  | .p24 y1 y2 y3 => ⟨[(0, .im .str y1), (3, .im (.int .i64) y2), (40, .im .bool y3)], [], 0⟩
def spec_l2Name.step (n : Nat) (K : spec_l2Name.Pt → Option (Tup [.bool])) : spec_l2Name.Pt → Option (Tup [.bool])
  | .p0 a0 => cond (decide (((ByteArray.size a0) : Int) < (1 : Int))) (K (.p4 a0 true)) (cond (decide ((40 : Int) < ((ByteArray.size a0) : Int))) (K (.p4 a0 true)) (cond (inB (0 : Int) (ByteArray.size a0)) ((spec_l2Digit n (bt a0 (0 : Int))).bind fun r4 => K (.p4 a0 r4)) (none)))
  | .p4 y1 y2 => cond y2 (some false) (K (.p15 y1 (0 : Int)))
  | .p15 y1 y2 => cond (decide (y2 < ((ByteArray.size y1) : Int))) (cond (inB y2 (ByteArray.size y1)) ((spec_l2Letter n (bt y1 y2)).bind fun r5 => cond (!r5) (cond (inB y2 (ByteArray.size y1)) ((spec_l2Digit n (bt y1 y2)).bind fun r6 => cond (!r6) (cond (inB y2 (ByteArray.size y1)) (K (.p24 y1 y2 (!(decide ((bt y1 y2) = (95 : Int)))))) (none)) (K (.p24 y1 y2 false))) (none)) (K (.p24 y1 y2 false))) (none)) (some true)
  | .p24 y1 y2 y3 => cond y3 (some false) (K (.p15 y1 (IntKind.wrap .i64 (y2 + (1 : Int)))))
def spec_l2Name (n : Nat) (a0 : ByteArray) : Option (Tup [.bool]) := goRec spec_l2Name.step n (.p0 a0)
def spec_l2Name.spec : Ctr := ⟨67, [.v .str], [.bool], [], none, fun n x => spec_l2Name n x.1⟩
theorem spec_l2Name.seg_eq : SegEq ty gl spec_l2Name.F spec_l2Name.md spec_l2Name.T spec_l2Name.spec spec_l2Name.lb spec_l2Name.st spec_l2Name.step := by
  intro n goto y; cases y <;> kernel_rfl
theorem spec_l2Name.text : Text Go.Proofs.Tryz.prog spec_l2Name.F spec_l2Name.spec := textOf Go.Proofs.Tryz.f67
theorem spec_l2Name.ok : CtrOK Go.Proofs.Tryz.prog gl spec_l2Name.spec :=
  ctr_okS tabs spec_l2Name.text spec_l2Name.seg_eq (fun n x => ⟨.p0 x.1, rfl, rfl, rfl⟩) (consC spec_l2Digit.ok (consC spec_l2Letter.ok (nilC)))

/-! loop.example/g00039/spec.l2Printed -/
def spec_l2Printed.T : List Ctr := []
def spec_l2Printed.md : List (Nat × List Md) := []
noncomputable def spec_l2Printed.F : Fun := ⟨(Go.Proofs.Tryz.f85.body).getD .skip, [.v .str], [(.tmp 2, .bool)], [], 0, [(7, ⟨[0, 3], [], [], false⟩)]⟩
inductive spec_l2Printed.Pt where
  | p0 (a0 : ByteArray)
  | p7 (y1 : ByteArray) (y2 : Int)
def spec_l2Printed.lb : spec_l2Printed.Pt → Nat
  | .p0 _ => 0
  | .p7 _ _ => 7
def spec_l2Printed.st : spec_l2Printed.Pt → St
  | .p0 a0 => enter [.v .str a0] 0
  | .p7 y1 y2 => ⟨[(0, .im .str y1), (3, .im (.int .i64) y2)], [], 0⟩
def spec_l2Printed.step (n : Nat) (K : spec_l2Printed.Pt → Option (Tup [.bool])) : spec_l2Printed.Pt → Option (Tup [.bool])
  | .p0 a0 => K (.p7 a0 (0 : Int))
  | .p7 y1 y2 => cond (decide (y2 < ((ByteArray.size y1) : Int))) (cond (inB y2 (ByteArray.size y1)) (cond (decide ((bt y1 y2) < (32 : Int))) (some false) (cond (inB y2 (ByteArray.size y1)) (cond (decide ((126 : Int) < (bt y1 y2))) (some false) (K (.p7 y1 (IntKind.wrap .i64 (y2 + (1 : Int)))))) (none))) (none)) (some true)
def spec_l2Printed (n : Nat) (a0 : ByteArray) : Option (Tup [.bool]) := goRec spec_l2Printed.step n (.p0 a0)
def spec_l2Printed.spec : Ctr := ⟨85, [.v .str], [.bool], [], none, fun n x => spec_l2Printed n x.1⟩
theorem spec_l2Printed.seg_eq : SegEq ty gl spec_l2Printed.F spec_l2Printed.md spec_l2Printed.T spec_l2Printed.spec spec_l2Printed.lb spec_l2Printed.st spec_l2Printed.step := by
  intro n goto y; cases y <;> kernel_rfl
theorem spec_l2Printed.text : Text Go.Proofs.Tryz.prog spec_l2Printed.F spec_l2Printed.spec := textOf Go.Proofs.Tryz.f85
theorem spec_l2Printed.ok : CtrOK Go.Proofs.Tryz.prog gl spec_l2Printed.spec :=
  ctr_okS tabs spec_l2Printed.text spec_l2Printed.seg_eq (fun n x => ⟨.p0 x.1, rfl, rfl, rfl⟩) (nilC)

/-! loop.example/g00039/spec.l2Alternatives -/
def spec_l2Alternatives.T : List Ctr := [spec_l2Printed.spec]
def spec_l2Alternatives.md : List (Nat × List Md) := []
noncomputable def spec_l2Alternatives.F : Fun := ⟨(Go.Proofs.Tryz.f94.body).getD .skip, [.v .str], [(.tmp 2, (.sl false (.sl false (.int .i64)))), (.tmp 3, .bool)], [], 0, [(8, ⟨[0, 4, 5, 14], [(4, (.sl false (.int .i64))), (5, (.int .i64))], [], false⟩), (19, ⟨[0, 4, 5, 6], [(4, (.sl false (.int .i64))), (5, (.int .i64))], [], false⟩), (51, ⟨[0, 4, 5, 6, 78], [(4, (.sl false (.int .i64))), (5, (.int .i64))], [], false⟩)]⟩
inductive spec_l2Alternatives.Pt where
  | p0 (a0 : ByteArray)
  | p8 (y1 : ByteArray) (y2 : Bool) (y3 : List (List (Int))) (y4 : List (Int))
  | p19 (y1 : ByteArray) (y2 : Int) (y3 : List (List (Int))) (y4 : List (Int))
  | p51 (y1 : ByteArray) (y2 : Int) (y3 : Bool) (y4 : List (List (Int))) (y5 : List (Int))
def spec_l2Alternatives.lb : spec_l2Alternatives.Pt → Nat
  | .p0 _ => 0
  | .p8 _ _ _ _ => 8
  | .p19 _ _ _ _ => 19
  | .p51 _ _ _ _ _ => 51
def spec_l2Alternatives.st : spec_l2Alternatives.Pt → St
  | .p0 a0 => enter [.v .str a0] 0
  | .p8 y1 y2 y3 y4 => ⟨[(0, .im .str y1), (4, .hs 0 [] none 0), (5, .hs 1 [] none 0), (14, .im .bool y2)], [(0, .arr true (.sl false (.int .i64)) y3 0), (1, .arr true (.int .i64) y4 0)], 2⟩
  | .p19 y1 y2 y3 y4 => ⟨[(0, .im .str y1), (4, .hs 0 [] none 0), (5, .hs 1 [] none 0), (6, .im (.int .i64) y2)], [(0, .arr true (.sl false (.int .i64)) y3 0), (1, .arr true (.int .i64) y4 0)], 2⟩
  | .p51 y1 y2 y3 y4 y5 => ⟨[(0, .im .str y1), (4, .hs 0 [] none 0), (5, .hs 1 [] none 0), (6, .im (.int .i64) y2), (78, .im .bool y3)], [(0, .arr true (.sl false (.int .i64)) y4 0), (1, .arr true (.int .i64) y5 0)], 2⟩
def spec_l2Alternatives.step (n : Nat) (K : spec_l2Alternatives.Pt → Option (Tup [(.sl false (.sl false (.int .i64))), .bool])) : spec_l2Alternatives.Pt → Option (Tup [(.sl false (.sl false (.int .i64))), .bool])
  | .p0 a0 => cond (decide ((100 : Int) < ((ByteArray.size a0) : Int))) (K (.p8 a0 true ([] : List (List (Int))) ([] : List (Int)))) ((spec_l2Printed n a0).bind fun r4 => K (.p8 a0 (!r4) ([] : List (List (Int))) ([] : List (Int))))
  | .p8 y1 y2 y3 y4 => cond y2 (some (([] : List (List (Int))), false)) (K (.p19 y1 (0 : Int) y3 y4))
  | .p19 y1 y2 y3 y4 => cond (decide (y2 < ((ByteArray.size y1) : Int))) (cond (inB y2 (ByteArray.size y1)) (cond (decide ((bt y1 y2) = (124 : Int))) (cond (room ((List.length y3) + (List.length [y4]))) (K (.p19 y1 (IntKind.wrap .i64 (y2 + (1 : Int))) (y3 ++ [y4]) ([] : List (Int)))) (none)) (cond (decide ((bt y1 y2) = (42 : Int))) (cond (room ((List.length y4) + (List.length [(-(1 : Int))]))) (K (.p19 y1 (IntKind.wrap .i64 (y2 + (1 : Int))) y3 (y4 ++ [(-(1 : Int))]))) (none)) (cond (decide ((bt y1 y2) = (63 : Int))) (cond (room ((List.length y4) + (List.length [(-(2 : Int))]))) (K (.p19 y1 (IntKind.wrap .i64 (y2 + (1 : Int))) y3 (y4 ++ [(-(2 : Int))]))) (none)) (cond (decide ((bt y1 y2) = (92 : Int))) (cond (decide ((IntKind.wrap .i64 (y2 + (1 : Int))) = ((ByteArray.size y1) : Int))) (K (.p51 y1 (IntKind.wrap .i64 (y2 + (1 : Int))) true y3 y4)) (cond (inB (IntKind.wrap .i64 (y2 + (1 : Int))) (ByteArray.size y1)) (cond (!(decide ((bt y1 (IntKind.wrap .i64 (y2 + (1 : Int)))) = (42 : Int)))) (cond (inB (IntKind.wrap .i64 (y2 + (1 : Int))) (ByteArray.size y1)) (cond (!(decide ((bt y1 (IntKind.wrap .i64 (y2 + (1 : Int)))) = (63 : Int)))) (cond (inB (IntKind.wrap .i64 (y2 + (1 : Int))) (ByteArray.size y1)) (cond (!(decide ((bt y1 (IntKind.wrap .i64 (y2 + (1 : Int)))) = (124 : Int)))) (cond (inB (IntKind.wrap .i64 (y2 + (1 : Int))) (ByteArray.size y1)) (K (.p51 y1 (IntKind.wrap .i64 (y2 + (1 : Int))) (!(decide ((bt y1 (IntKind.wrap .i64 (y2 + (1 : Int)))) = (92 : Int)))) y3 y4)) (none)) (K (.p51 y1 (IntKind.wrap .i64 (y2 + (1 : Int))) false y3 y4))) (none)) (K (.p51 y1 (IntKind.wrap .i64 (y2 + (1 : Int))) false y3 y4))) (none)) (K (.p51 y1 (IntKind.wrap .i64 (y2 + (1 : Int))) false y3 y4))) (none))) (cond (inB y2 (ByteArray.size y1)) (cond (room ((List.length y4) + (List.length [(IntKind.wrap .i64 (bt y1 y2))]))) (K (.p19 y1 (IntKind.wrap .i64 (y2 + (1 : Int))) y3 (y4 ++ [(IntKind.wrap .i64 (bt y1 y2))]))) (none)) (none)))))) (none)) (cond (room ((List.length y3) + (List.length [y4]))) (some ((y3 ++ [y4]), true)) (none))
  | .p51 y1 y2 y3 y4 y5 => cond y3 (some (([] : List (List (Int))), false)) (cond (inB y2 (ByteArray.size y1)) (cond (room ((List.length y5) + (List.length [(IntKind.wrap .i64 (bt y1 y2))]))) (K (.p19 y1 (IntKind.wrap .i64 (y2 + (1 : Int))) y4 (y5 ++ [(IntKind.wrap .i64 (bt y1 y2))]))) (none)) (none))
def spec_l2Alternatives (n : Nat) (a0 : ByteArray) : Option (Tup [(.sl false (.sl false (.int .i64))), .bool]) := goRec spec_l2Alternatives.step n (.p0 a0)
def spec_l2Alternatives.spec : Ctr := ⟨94, [.v .str], [(.sl false (.sl false (.int .i64))), .bool], [], none, fun n x => spec_l2Alternatives n x.1⟩
theorem spec_l2Alternatives.seg_eq : SegEq ty gl spec_l2Alternatives.F spec_l2Alternatives.md spec_l2Alternatives.T spec_l2Alternatives.spec spec_l2Alternatives.lb spec_l2Alternatives.st spec_l2Alternatives.step := by
  intro n goto y; cases y <;> kernel_rfl
theorem spec_l2Alternatives.text : Text Go.Proofs.Tryz.prog spec_l2Alternatives.F spec_l2Alternatives.spec := textOf Go.Proofs.Tryz.f94
theorem spec_l2Alternatives.ok : CtrOK Go.Proofs.Tryz.prog gl spec_l2Alternatives.spec :=
  ctr_okS tabs spec_l2Alternatives.text spec_l2Alternatives.seg_eq (fun n x => ⟨.p0 x.1, rfl, rfl, rfl⟩) (consC spec_l2Printed.ok (nilC))

/-! loop.example/g00039/spec.GoodPattern -/
def spec_GoodPattern.T : List Ctr := [spec_l2Alternatives.spec]
def spec_GoodPattern.md : List (Nat × List Md) := []
noncomputable def spec_GoodPattern.F : Fun := ⟨(Go.Proofs.Tryz.f86.body).getD .skip, [.v .str], [(.tmp 2, .bool)], [], 0, []⟩
inductive spec_GoodPattern.Pt where
  | p0 (a0 : ByteArray)
def spec_GoodPattern.lb : spec_GoodPattern.Pt → Nat
  | .p0 _ => 0
def spec_GoodPattern.st : spec_GoodPattern.Pt → St
  | .p0 a0 => enter [.v .str a0] 0
def spec_GoodPattern.step (n : Nat) (K : spec_GoodPattern.Pt → Option (Tup [.bool])) : spec_GoodPattern.Pt → Option (Tup [.bool])
  | .p0 a0 => (spec_l2Alternatives n a0).bind fun r4 => some r4.2
def spec_GoodPattern (n : Nat) (a0 : ByteArray) : Option (Tup [.bool]) := goRec spec_GoodPattern.step n (.p0 a0)
def spec_GoodPattern.spec : Ctr := ⟨86, [.v .str], [.bool], [], none, fun n x => spec_GoodPattern n x.1⟩
theorem spec_GoodPattern.seg_eq : SegEq ty gl spec_GoodPattern.F spec_GoodPattern.md spec_GoodPattern.T spec_GoodPattern.spec spec_GoodPattern.lb spec_GoodPattern.st spec_GoodPattern.step := by
  intro n goto y; cases y <;> kernel_rfl
theorem spec_GoodPattern.text : Text Go.Proofs.Tryz.prog spec_GoodPattern.F spec_GoodPattern.spec := textOf Go.Proofs.Tryz.f86
theorem spec_GoodPattern.ok : CtrOK Go.Proofs.Tryz.prog gl spec_GoodPattern.spec :=
  ctr_okS tabs spec_GoodPattern.text spec_GoodPattern.seg_eq (fun n x => ⟨.p0 x.1, rfl, rfl, rfl⟩) (consC spec_l2Alternatives.ok (nilC))

/-! loop.example/g00039/spec.GoodMatchers -/
def spec_GoodMatchers.T : List Ctr := [spec_l2Name.spec, spec_l2Printed.spec, spec_GoodPattern.spec]
def spec_GoodMatchers.md : List (Nat × List Md) := []
noncomputable def spec_GoodMatchers.F : Fun := ⟨(Go.Proofs.Tryz.f68.body).getD .skip, [.v (.sl false (.pair .str (.pair (.int .i64) (.pair .str .unit))))], [(.tmp 2, .bool)], [], 0, [(15, ⟨[8, 9, 10], [(8, (.pair .str (.pair (.int .i64) (.pair .str .unit))))], [], false⟩), (26, ⟨[8, 9, 10, 50], [(8, (.pair .str (.pair (.int .i64) (.pair .str .unit))))], [], false⟩)]⟩
inductive spec_GoodMatchers.Pt where
  | p0 (a0 : List ((ByteArray) × ((Int) × ((ByteArray) × (Unit)))))
  | p15 (y1 : List ((ByteArray) × ((Int) × ((ByteArray) × (Unit))))) (y2 : Int) (y3 : Int)
  | p26 (y1 : List ((ByteArray) × ((Int) × ((ByteArray) × (Unit))))) (y2 : Int) (y3 : Int) (y4 : Bool)
def spec_GoodMatchers.lb : spec_GoodMatchers.Pt → Nat
  | .p0 _ => 0
  | .p15 _ _ _ => 15
  | .p26 _ _ _ _ => 26
def spec_GoodMatchers.st : spec_GoodMatchers.Pt → St
  | .p0 a0 => enter [.v (.sl false (.pair .str (.pair (.int .i64) (.pair .str .unit)))) a0] 0
  | .p15 y1 y2 y3 => ⟨[(8, .im (.sl false (.pair .str (.pair (.int .i64) (.pair .str .unit)))) y1), (9, .im (.int .i64) y2), (10, .im (.int .i64) y3)], [], 0⟩
  | .p26 y1 y2 y3 y4 => ⟨[(8, .im (.sl false (.pair .str (.pair (.int .i64) (.pair .str .unit)))) y1), (9, .im (.int .i64) y2), (10, .im (.int .i64) y3), (50, .im .bool y4)], [], 0⟩
def spec_GoodMatchers.step (n : Nat) (K : spec_GoodMatchers.Pt → Option (Tup [.bool])) : spec_GoodMatchers.Pt → Option (Tup [.bool])
  | .p0 a0 => cond (decide ((10 : Int) < ((List.length a0) : Int))) (some false) (K (.p15 a0 ((List.length a0) : Int) (0 : Int)))
  | .p15 y1 y2 y3 => cond (decide (y3 < y2)) (cond (inB y3 (List.length y1)) ((spec_l2Name n (List.getD y1 (Int.toNat y3) default).1).bind fun r6 => cond (!r6) (K (.p26 y1 y2 y3 true)) (cond (decide ((List.getD y1 (Int.toNat y3) default).2.1 < (1 : Int))) (K (.p26 y1 y2 y3 true)) (cond (decide ((4 : Int) < (List.getD y1 (Int.toNat y3) default).2.1)) (K (.p26 y1 y2 y3 true)) (cond (decide ((100 : Int) < ((ByteArray.size (List.getD y1 (Int.toNat y3) default).2.2.1) : Int))) (K (.p26 y1 y2 y3 true)) ((spec_l2Printed n (List.getD y1 (Int.toNat y3) default).2.2.1).bind fun r7 => cond (!r7) (K (.p26 y1 y2 y3 true)) (cond (decide ((3 : Int) ≤ (List.getD y1 (Int.toNat y3) default).2.1)) ((spec_GoodPattern n (List.getD y1 (Int.toNat y3) default).2.2.1).bind fun r8 => K (.p26 y1 y2 y3 (!r8))) (K (.p26 y1 y2 y3 false)))))))) (none)) (some true)
  | .p26 y1 y2 y3 y4 => cond y4 (some false) (K (.p15 y1 y2 (IntKind.wrap .i64 (y3 + (1 : Int)))))
def spec_GoodMatchers (n : Nat) (a0 : List ((ByteArray) × ((Int) × ((ByteArray) × (Unit))))) : Option (Tup [.bool]) := goRec spec_GoodMatchers.step n (.p0 a0)
def spec_GoodMatchers.spec : Ctr := ⟨68, [.v (.sl false (.pair .str (.pair (.int .i64) (.pair .str .unit))))], [.bool], [], none, fun n x => spec_GoodMatchers n x.1⟩
theorem spec_GoodMatchers.seg_eq : SegEq ty gl spec_GoodMatchers.F spec_GoodMatchers.md spec_GoodMatchers.T spec_GoodMatchers.spec spec_GoodMatchers.lb spec_GoodMatchers.st spec_GoodMatchers.step := by
  intro n goto y; cases y <;> kernel_rfl
theorem spec_GoodMatchers.text : Text Go.Proofs.Tryz.prog spec_GoodMatchers.F spec_GoodMatchers.spec := textOf Go.Proofs.Tryz.f68
theorem spec_GoodMatchers.ok : CtrOK Go.Proofs.Tryz.prog gl spec_GoodMatchers.spec :=
  ctr_okS tabs spec_GoodMatchers.text spec_GoodMatchers.seg_eq (fun n x => ⟨.p0 x.1, rfl, rfl, rfl⟩) (consC spec_l2Name.ok (consC spec_l2Printed.ok (consC spec_GoodPattern.ok (nilC))))

/-! loop.example/g00039/spec.l2CmpNum -/
def spec_l2CmpNum.T : List Ctr := []
def spec_l2CmpNum.md : List (Nat × List Md) := []
noncomputable def spec_l2CmpNum.F : Fun := ⟨(Go.Proofs.Tryz.f101.body).getD .skip, [.v (.int .i64), .v (.int .i64)], [(.tmp 4, (.int .i64))], [], 0, []⟩
inductive spec_l2CmpNum.Pt where
  | p0 (a0 : Int) (a1 : Int)
def spec_l2CmpNum.lb : spec_l2CmpNum.Pt → Nat
  | .p0 _ _ => 0
def spec_l2CmpNum.st : spec_l2CmpNum.Pt → St
  | .p0 a0 a1 => enter [.v (.int .i64) a0, .v (.int .i64) a1] 0
def spec_l2CmpNum.step (n : Nat) (K : spec_l2CmpNum.Pt → Option (Tup [(.int .i64)])) : spec_l2CmpNum.Pt → Option (Tup [(.int .i64)])
  | .p0 a0 a1 => cond (decide (a0 < a1)) (some (-(1 : Int))) (cond (decide (a1 < a0)) (some (1 : Int)) (some (0 : Int)))
def spec_l2CmpNum (n : Nat) (a0 : Int) (a1 : Int) : Option (Tup [(.int .i64)]) := goRec spec_l2CmpNum.step n (.p0 a0 a1)
def spec_l2CmpNum.spec : Ctr := ⟨101, [.v (.int .i64), .v (.int .i64)], [(.int .i64)], [], none, fun n x => spec_l2CmpNum n x.1 x.2.1⟩
theorem spec_l2CmpNum.seg_eq : SegEq ty gl spec_l2CmpNum.F spec_l2CmpNum.md spec_l2CmpNum.T spec_l2CmpNum.spec spec_l2CmpNum.lb spec_l2CmpNum.st spec_l2CmpNum.step := by
  intro n goto y; cases y <;> kernel_rfl
theorem spec_l2CmpNum.text : Text Go.Proofs.Tryz.prog spec_l2CmpNum.F spec_l2CmpNum.spec := textOf Go.Proofs.Tryz.f101
theorem spec_l2CmpNum.ok : CtrOK Go.Proofs.Tryz.prog gl spec_l2CmpNum.spec :=
  ctr_okS tabs spec_l2CmpNum.text spec_l2CmpNum.seg_eq (fun n x => ⟨.p0 x.1 x.2.1, rfl, rfl, rfl⟩) (nilC)

/-! loop.example/g00039/spec.l2CmpText -/
def spec_l2CmpText.T : List Ctr := [spec_l2CmpNum.spec]
def spec_l2CmpText.md : List (Nat × List Md) := []
noncomputable def spec_l2CmpText.F : Fun := ⟨(Go.Proofs.Tryz.f95.body).getD .skip, [.v .str, .v .str], [(.tmp 4, (.int .i64))], [], 0, [(7, ⟨[0, 1, 5], [], [], false⟩), (9, ⟨[0, 1, 5, 15], [], [], false⟩)]⟩
inductive spec_l2CmpText.Pt where
  | p0 (a0 : ByteArray) (a1 : ByteArray)
  | p7 (y1 : ByteArray) (y2 : ByteArray) (y3 : Int)
  | p9 (y1 : ByteArray) (y2 : ByteArray) (y3 : Int) (y4 : Bool)
def spec_l2CmpText.lb : spec_l2CmpText.Pt → Nat
  | .p0 _ _ => 0
  | .p7 _ _ _ => 7
  | .p9 _ _ _ _ => 9
def spec_l2CmpText.st : spec_l2CmpText.Pt → St
  | .p0 a0 a1 => enter [.v .str a0, .v .str a1] 0
  | .p7 y1 y2 y3 => ⟨[(0, .im .str y1), (1, .im .str y2), (5, .im (.int .i64) y3)], [], 0⟩
  | .p9 y1 y2 y3 y4 => ⟨[(0, .im .str y1), (1, .im .str y2), (5, .im (.int .i64) y3), (15, .im .bool y4)], [], 0⟩
def spec_l2CmpText.step (n : Nat) (K : spec_l2CmpText.Pt → Option (Tup [(.int .i64)])) : spec_l2CmpText.Pt → Option (Tup [(.int .i64)])
  | .p0 a0 a1 => K (.p7 a0 a1 (0 : Int))
  | .p7 y1 y2 y3 => cond (decide (y3 < ((ByteArray.size y1) : Int))) (K (.p9 y1 y2 y3 (decide (y3 < ((ByteArray.size y2) : Int))))) (K (.p9 y1 y2 y3 false))
  | .p9 y1 y2 y3 y4 => cond y4 (cond (inB y3 (ByteArray.size y1)) (cond (inB y3 (ByteArray.size y2)) (cond (!(decide ((bt y1 y3) = (bt y2 y3)))) (cond (inB y3 (ByteArray.size y1)) (cond (inB y3 (ByteArray.size y2)) ((spec_l2CmpNum n (IntKind.wrap .i64 (bt y1 y3)) (IntKind.wrap .i64 (bt y2 y3))).bind fun (r7 : Int) => some r7) (none)) (none)) (K (.p7 y1 y2 (IntKind.wrap .i64 (y3 + (1 : Int)))))) (none)) (none)) ((spec_l2CmpNum n ((ByteArray.size y1) : Int) ((ByteArray.size y2) : Int)).bind fun (r7 : Int) => some r7)
def spec_l2CmpText (n : Nat) (a0 : ByteArray) (a1 : ByteArray) : Option (Tup [(.int .i64)]) := goRec spec_l2CmpText.step n (.p0 a0 a1)
def spec_l2CmpText.spec : Ctr := ⟨95, [.v .str, .v .str], [(.int .i64)], [], none, fun n x => spec_l2CmpText n x.1 x.2.1⟩
theorem spec_l2CmpText.seg_eq : SegEq ty gl spec_l2CmpText.F spec_l2CmpText.md spec_l2CmpText.T spec_l2CmpText.spec spec_l2CmpText.lb spec_l2CmpText.st spec_l2CmpText.step := by
  intro n goto y; cases y <;> kernel_rfl
theorem spec_l2CmpText.text : Text Go.Proofs.Tryz.prog spec_l2CmpText.F spec_l2CmpText.spec := textOf Go.Proofs.Tryz.f95
theorem spec_l2CmpText.ok : CtrOK Go.Proofs.Tryz.prog gl spec_l2CmpText.spec :=
  ctr_okS tabs spec_l2CmpText.text spec_l2CmpText.seg_eq (fun n x => ⟨.p0 x.1 x.2.1, rfl, rfl, rfl⟩) (consC spec_l2CmpNum.ok (nilC))

/-! loop.example/g00039/spec.l2Rising -/
def spec_l2Rising.T : List Ctr := [spec_l2CmpText.spec]
def spec_l2Rising.md : List (Nat × List Md) := []
noncomputable def spec_l2Rising.F : Fun := ⟨(Go.Proofs.Tryz.f87.body).getD .skip, [.v (.sl false .str)], [(.tmp 2, .bool)], [], 0, [(7, ⟨[0, 3], [], [], false⟩)]⟩
inductive spec_l2Rising.Pt where
  | p0 (a0 : List (ByteArray))
  | p7 (y1 : List (ByteArray)) (y2 : Int)
def spec_l2Rising.lb : spec_l2Rising.Pt → Nat
  | .p0 _ => 0
  | .p7 _ _ => 7
def spec_l2Rising.st : spec_l2Rising.Pt → St
  | .p0 a0 => enter [.v (.sl false .str) a0] 0
  | .p7 y1 y2 => ⟨[(0, .im (.sl false .str) y1), (3, .im (.int .i64) y2)], [], 0⟩
def spec_l2Rising.step (n : Nat) (K : spec_l2Rising.Pt → Option (Tup [.bool])) : spec_l2Rising.Pt → Option (Tup [.bool])
  | .p0 a0 => K (.p7 a0 (1 : Int))
  | .p7 y1 y2 => cond (decide (y2 < ((List.length y1) : Int))) (cond (inB (IntKind.wrap .i64 (y2 - (1 : Int))) (List.length y1)) (cond (inB y2 (List.length y1)) ((spec_l2CmpText n (List.getD y1 (Int.toNat (IntKind.wrap .i64 (y2 - (1 : Int)))) default) (List.getD y1 (Int.toNat y2) default)).bind fun (r5 : Int) => cond (decide ((0 : Int) ≤ r5)) (some false) (K (.p7 y1 (IntKind.wrap .i64 (y2 + (1 : Int)))))) (none)) (none)) (some true)
def spec_l2Rising (n : Nat) (a0 : List (ByteArray)) : Option (Tup [.bool]) := goRec spec_l2Rising.step n (.p0 a0)
def spec_l2Rising.spec : Ctr := ⟨87, [.v (.sl false .str)], [.bool], [], none, fun n x => spec_l2Rising n x.1⟩
theorem spec_l2Rising.seg_eq : SegEq ty gl spec_l2Rising.F spec_l2Rising.md spec_l2Rising.T spec_l2Rising.spec spec_l2Rising.lb spec_l2Rising.st spec_l2Rising.step := by
  intro n goto y; cases y <;> kernel_rfl
theorem spec_l2Rising.text : Text Go.Proofs.Tryz.prog spec_l2Rising.F spec_l2Rising.spec := textOf Go.Proofs.Tryz.f87
theorem spec_l2Rising.ok : CtrOK Go.Proofs.Tryz.prog gl spec_l2Rising.spec :=
  ctr_okS tabs spec_l2Rising.text spec_l2Rising.seg_eq (fun n x => ⟨.p0 x.1, rfl, rfl, rfl⟩) (consC spec_l2CmpText.ok (nilC))

/-! loop.example/g00039/spec.l15Names -/
def spec_l15Names.T : List Ctr := [spec_l2Name.spec, spec_l2Rising.spec]
def spec_l15Names.md : List (Nat × List Md) := []
noncomputable def spec_l15Names.F : Fun := ⟨(Go.Proofs.Tryz.f69.body).getD .skip, [.v (.sl false .str)], [(.tmp 2, .bool)], [], 0, [(7, ⟨[0, 5, 6, 7], [(5, .str)], [], false⟩)]⟩
inductive spec_l15Names.Pt where
  | p0 (a0 : List (ByteArray))
  | p7 (y1 : List (ByteArray)) (y2 : List (ByteArray)) (y3 : Int) (y4 : Int)
def spec_l15Names.lb : spec_l15Names.Pt → Nat
  | .p0 _ => 0
  | .p7 _ _ _ _ => 7
def spec_l15Names.st : spec_l15Names.Pt → St
  | .p0 a0 => enter [.v (.sl false .str) a0] 0
  | .p7 y1 y2 y3 y4 => ⟨[(0, .im (.sl false .str) y1), (5, .im (.sl false .str) y2), (6, .im (.int .i64) y3), (7, .im (.int .i64) y4)], [], 0⟩
def spec_l15Names.step (n : Nat) (K : spec_l15Names.Pt → Option (Tup [.bool])) : spec_l15Names.Pt → Option (Tup [.bool])
  | .p0 a0 => K (.p7 a0 a0 ((List.length a0) : Int) (0 : Int))
  | .p7 y1 y2 y3 y4 => cond (decide (y4 < y3)) (cond (inB y4 (List.length y2)) ((spec_l2Name n (List.getD y2 (Int.toNat y4) default)).bind fun r7 => cond (!r7) (some false) (K (.p7 y1 y2 y3 (IntKind.wrap .i64 (y4 + (1 : Int)))))) (none)) (cond (decide (((List.length y1) : Int) ≤ (10 : Int))) ((spec_l2Rising n y1).bind fun r7 => some r7) (some false))
def spec_l15Names (n : Nat) (a0 : List (ByteArray)) : Option (Tup [.bool]) := goRec spec_l15Names.step n (.p0 a0)
def spec_l15Names.spec : Ctr := ⟨69, [.v (.sl false .str)], [.bool], [], none, fun n x => spec_l15Names n x.1⟩
theorem spec_l15Names.seg_eq : SegEq ty gl spec_l15Names.F spec_l15Names.md spec_l15Names.T spec_l15Names.spec spec_l15Names.lb spec_l15Names.st spec_l15Names.step := by
  intro n goto y; cases y <;> kernel_rfl
theorem spec_l15Names.text : Text Go.Proofs.Tryz.prog spec_l15Names.F spec_l15Names.spec := textOf Go.Proofs.Tryz.f69
theorem spec_l15Names.ok : CtrOK Go.Proofs.Tryz.prog gl spec_l15Names.spec :=
  ctr_okS tabs spec_l15Names.text spec_l15Names.seg_eq (fun n x => ⟨.p0 x.1, rfl, rfl, rfl⟩) (consC spec_l2Name.ok (consC spec_l2Rising.ok (nilC)))

/-! loop.example/g00039/spec.l3Time -/
def spec_l3Time.T : List Ctr := []
def spec_l3Time.md : List (Nat × List Md) := []
noncomputable def spec_l3Time.F : Fun := ⟨(Go.Proofs.Tryz.f70.body).getD .skip, [.v (.int .i64)], [(.tmp 2, .bool)], [], 0, []⟩
inductive spec_l3Time.Pt where
  | p0 (a0 : Int)
def spec_l3Time.lb : spec_l3Time.Pt → Nat
  | .p0 _ => 0
def spec_l3Time.st : spec_l3Time.Pt → St
  | .p0 a0 => enter [.v (.int .i64) a0] 0
def spec_l3Time.step (n : Nat) (K : spec_l3Time.Pt → Option (Tup [.bool])) : spec_l3Time.Pt → Option (Tup [.bool])
  | .p0 a0 => cond (decide ((0 : Int) ≤ a0)) (some (decide (a0 ≤ (1000000000000 : Int)))) (some false)
def spec_l3Time (n : Nat) (a0 : Int) : Option (Tup [.bool]) := goRec spec_l3Time.step n (.p0 a0)
def spec_l3Time.spec : Ctr := ⟨70, [.v (.int .i64)], [.bool], [], none, fun n x => spec_l3Time n x.1⟩
theorem spec_l3Time.seg_eq : SegEq ty gl spec_l3Time.F spec_l3Time.md spec_l3Time.T spec_l3Time.spec spec_l3Time.lb spec_l3Time.st spec_l3Time.step := by
  intro n goto y; cases y <;> kernel_rfl
theorem spec_l3Time.text : Text Go.Proofs.Tryz.prog spec_l3Time.F spec_l3Time.spec := textOf Go.Proofs.Tryz.f70
theorem spec_l3Time.ok : CtrOK Go.Proofs.Tryz.prog gl spec_l3Time.spec :=
  ctr_okS tabs spec_l3Time.text spec_l3Time.seg_eq (fun n x => ⟨.p0 x.1, rfl, rfl, rfl⟩) (nilC)

/-! loop.example/g00039/spec.l9Numbers -/
def spec_l9Numbers.T : List Ctr := []
def spec_l9Numbers.md : List (Nat × List Md) := []
noncomputable def spec_l9Numbers.F : Fun := ⟨(Go.Proofs.Tryz.f71.body).getD .skip, [.v (.sl false (.int .i64))], [(.tmp 2, .bool)], [], 0, [(7, ⟨[0, 5, 6], [], [], false⟩)]⟩
inductive spec_l9Numbers.Pt where
  | p0 (a0 : List (Int))
  | p7 (y1 : List (Int)) (y2 : Int) (y3 : Int)
def spec_l9Numbers.lb : spec_l9Numbers.Pt → Nat
  | .p0 _ => 0
  | .p7 _ _ _ => 7
def spec_l9Numbers.st : spec_l9Numbers.Pt → St
  | .p0 a0 => enter [.v (.sl false (.int .i64)) a0] 0
  | .p7 y1 y2 y3 => ⟨[(0, .im (.sl false (.int .i64)) y1), (5, .im (.int .i64) y2), (6, .im (.int .i64) y3)], [], 0⟩
def spec_l9Numbers.step (n : Nat) (K : spec_l9Numbers.Pt → Option (Tup [.bool])) : spec_l9Numbers.Pt → Option (Tup [.bool])
  | .p0 a0 => K (.p7 a0 ((List.length a0) : Int) (0 : Int))
  | .p7 y1 y2 y3 => cond (decide (y3 < y2)) (cond (decide ((0 : Int) < y3)) (cond (inB (IntKind.wrap .i64 (y3 - (1 : Int))) (List.length y1)) (cond (inB y3 (List.length y1)) (cond (decide ((List.getD y1 (Int.toNat y3) default) ≤ (List.getD y1 (Int.toNat (IntKind.wrap .i64 (y3 - (1 : Int)))) default))) (some false) (K (.p7 y1 y2 (IntKind.wrap .i64 (y3 + (1 : Int)))))) (none)) (none)) (K (.p7 y1 y2 (IntKind.wrap .i64 (y3 + (1 : Int)))))) (some (decide (((List.length y1) : Int) ≤ (1000 : Int))))
def spec_l9Numbers (n : Nat) (a0 : List (Int)) : Option (Tup [.bool]) := goRec spec_l9Numbers.step n (.p0 a0)
def spec_l9Numbers.spec : Ctr := ⟨71, [.v (.sl false (.int .i64))], [.bool], [], none, fun n x => spec_l9Numbers n x.1⟩
theorem spec_l9Numbers.seg_eq : SegEq ty gl spec_l9Numbers.F spec_l9Numbers.md spec_l9Numbers.T spec_l9Numbers.spec spec_l9Numbers.lb spec_l9Numbers.st spec_l9Numbers.step := by
  intro n goto y; cases y <;> kernel_rfl
theorem spec_l9Numbers.text : Text Go.Proofs.Tryz.prog spec_l9Numbers.F spec_l9Numbers.spec := textOf Go.Proofs.Tryz.f71
theorem spec_l9Numbers.ok : CtrOK Go.Proofs.Tryz.prog gl spec_l9Numbers.spec :=
  ctr_okS tabs spec_l9Numbers.text spec_l9Numbers.seg_eq (fun n x => ⟨.p0 x.1, rfl, rfl, rfl⟩) (nilC)

/-! loop.example/g00039/spec.l20Route -/
def spec_l20Route.T : List Ctr := [spec_l2Name.spec, spec_GoodMatchers.spec, spec_l15Names.spec, spec_l3Time.spec, spec_l9Numbers.spec]
def spec_l20Route.md : List (Nat × List Md) := []
noncomputable def spec_l20Route.F : Fun := ⟨(Go.Proofs.Tryz.f49.body).getD .skip, [.v (.pair .str (.pair (.sl false (.pair .str (.pair (.int .i64) (.pair .str .unit)))) (.pair (.sl false .str) (.pair (.int .i64) (.pair (.int .i64) (.pair (.int .i64) (.pair (.sl false (.int .i64)) (.pair .bool (.pair (.int .i64) .unit)))))))))], [(.tmp 2, .bool)], [], 0, [(4, ⟨[1, 58], [], [(1, 1, (.pair .str (.pair (.int .i64) (.pair .str .unit)))), (1, 2, .str), (1, 6, (.int .i64))], false⟩), (15, ⟨[60, 61, 62], [(60, (.int .i64))], [], false⟩)]⟩
inductive spec_l20Route.Pt where
  | p0 (a0 : (ByteArray) × ((List ((ByteArray) × ((Int) × ((ByteArray) × (Unit))))) × ((List (ByteArray)) × ((Int) × ((Int) × ((Int) × ((List (Int)) × ((Bool) × ((Int) × (Unit))))))))))
  | p4 (y1 : Bool) (y2 : ByteArray) (y3 : List ((ByteArray) × ((Int) × ((ByteArray) × (Unit))))) (y4 : List (ByteArray)) (y5 : Int) (y6 : Int) (y7 : Int) (y8 : List (Int)) (y9 : Bool) (y10 : Int)
  | p15 (y1 : List (Int)) (y2 : Int) (y3 : Int)
def spec_l20Route.lb : spec_l20Route.Pt → Nat
  | .p0 _ => 0
  | .p4 _ _ _ _ _ _ _ _ _ _ => 4
  | .p15 _ _ _ => 15
def spec_l20Route.st : spec_l20Route.Pt → St
  | .p0 a0 => enter [.v (.pair .str (.pair (.sl false (.pair .str (.pair (.int .i64) (.pair .str .unit)))) (.pair (.sl false .str) (.pair (.int .i64) (.pair (.int .i64) (.pair (.int .i64) (.pair (.sl false (.int .i64)) (.pair .bool (.pair (.int .i64) .unit))))))))) a0] 0
  | .p4 y1 y2 y3 y4 y5 y6 y7 y8 y9 y10 => ⟨[(1, .po 0 0), (58, .im .bool y1)], [(0, .obj [.im .str y2, .im (.sl false (.pair .str (.pair (.int .i64) (.pair .str .unit)))) y3, .im (.sl false .str) y4, .im (.int .i64) y5, .im (.int .i64) y6, .im (.int .i64) y7, .im (.sl false (.int .i64)) y8, .im .bool y9, .im (.int .i64) y10])], 1⟩
  | .p15 y1 y2 y3 => ⟨[(60, .im (.sl false (.int .i64)) y1), (61, .im (.int .i64) y2), (62, .im (.int .i64) y3)], [], 0⟩
def spec_l20Route.step (n : Nat) (K : spec_l20Route.Pt → Option (Tup [.bool])) : spec_l20Route.Pt → Option (Tup [.bool])
  | .p0 a0 => (spec_l2Name n a0.1).bind fun r4 => cond (!r4) (K (.p4 true a0.1 a0.2.1 a0.2.2.1 a0.2.2.2.1 a0.2.2.2.2.1 a0.2.2.2.2.2.1 a0.2.2.2.2.2.2.1 a0.2.2.2.2.2.2.2.1 a0.2.2.2.2.2.2.2.2.1)) ((spec_GoodMatchers n a0.2.1).bind fun r5 => cond (!r5) (K (.p4 true a0.1 a0.2.1 a0.2.2.1 a0.2.2.2.1 a0.2.2.2.2.1 a0.2.2.2.2.2.1 a0.2.2.2.2.2.2.1 a0.2.2.2.2.2.2.2.1 a0.2.2.2.2.2.2.2.2.1)) ((spec_l15Names n a0.2.2.1).bind fun r6 => cond (!r6) (K (.p4 true a0.1 a0.2.1 a0.2.2.1 a0.2.2.2.1 a0.2.2.2.2.1 a0.2.2.2.2.2.1 a0.2.2.2.2.2.2.1 a0.2.2.2.2.2.2.2.1 a0.2.2.2.2.2.2.2.2.1)) ((spec_l3Time n a0.2.2.2.1).bind fun r7 => cond (!r7) (K (.p4 true a0.1 a0.2.1 a0.2.2.1 a0.2.2.2.1 a0.2.2.2.2.1 a0.2.2.2.2.2.1 a0.2.2.2.2.2.2.1 a0.2.2.2.2.2.2.2.1 a0.2.2.2.2.2.2.2.2.1)) (cond (decide (a0.2.2.2.2.1 < (1 : Int))) (K (.p4 true a0.1 a0.2.1 a0.2.2.1 a0.2.2.2.1 a0.2.2.2.2.1 a0.2.2.2.2.2.1 a0.2.2.2.2.2.2.1 a0.2.2.2.2.2.2.2.1 a0.2.2.2.2.2.2.2.2.1)) (cond (decide ((1000000000000 : Int) < a0.2.2.2.2.1)) (K (.p4 true a0.1 a0.2.1 a0.2.2.1 a0.2.2.2.1 a0.2.2.2.2.1 a0.2.2.2.2.2.1 a0.2.2.2.2.2.2.1 a0.2.2.2.2.2.2.2.1 a0.2.2.2.2.2.2.2.2.1)) (cond (decide (a0.2.2.2.2.2.1 < (1 : Int))) (K (.p4 true a0.1 a0.2.1 a0.2.2.1 a0.2.2.2.1 a0.2.2.2.2.1 a0.2.2.2.2.2.1 a0.2.2.2.2.2.2.1 a0.2.2.2.2.2.2.2.1 a0.2.2.2.2.2.2.2.2.1)) (cond (decide ((1000000000000 : Int) < a0.2.2.2.2.2.1)) (K (.p4 true a0.1 a0.2.1 a0.2.2.1 a0.2.2.2.1 a0.2.2.2.2.1 a0.2.2.2.2.2.1 a0.2.2.2.2.2.2.1 a0.2.2.2.2.2.2.2.1 a0.2.2.2.2.2.2.2.2.1)) (cond (decide ((20 : Int) < ((List.length a0.2.2.2.2.2.2.1) : Int))) (K (.p4 true a0.1 a0.2.1 a0.2.2.1 a0.2.2.2.1 a0.2.2.2.2.1 a0.2.2.2.2.2.1 a0.2.2.2.2.2.2.1 a0.2.2.2.2.2.2.2.1 a0.2.2.2.2.2.2.2.2.1)) ((spec_l9Numbers n a0.2.2.2.2.2.2.1).bind fun r8 => K (.p4 (!r8) a0.1 a0.2.1 a0.2.2.1 a0.2.2.2.1 a0.2.2.2.2.1 a0.2.2.2.2.2.1 a0.2.2.2.2.2.2.1 a0.2.2.2.2.2.2.2.1 a0.2.2.2.2.2.2.2.2.1))))))))))
  | .p4 y1 y2 y3 y4 y5 y6 y7 y8 y9 y10 => cond y1 (some false) (K (.p15 y8 ((List.length y8) : Int) (0 : Int)))
  | .p15 y1 y2 y3 => cond (decide (y3 < y2)) (cond (inB y3 (List.length y1)) (cond (decide ((List.getD y1 (Int.toNat y3) default) < (0 : Int))) (some false) (cond (decide ((20 : Int) ≤ (List.getD y1 (Int.toNat y3) default))) (some false) (K (.p15 y1 y2 (IntKind.wrap .i64 (y3 + (1 : Int))))))) (none)) (some true)
def spec_l20Route (n : Nat) (a0 : (ByteArray) × ((List ((ByteArray) × ((Int) × ((ByteArray) × (Unit))))) × ((List (ByteArray)) × ((Int) × ((Int) × ((Int) × ((List (Int)) × ((Bool) × ((Int) × (Unit)))))))))) : Option (Tup [.bool]) := goRec spec_l20Route.step n (.p0 a0)
def spec_l20Route.spec : Ctr := ⟨49, [.v (.pair .str (.pair (.sl false (.pair .str (.pair (.int .i64) (.pair .str .unit)))) (.pair (.sl false .str) (.pair (.int .i64) (.pair (.int .i64) (.pair (.int .i64) (.pair (.sl false (.int .i64)) (.pair .bool (.pair (.int .i64) .unit)))))))))], [.bool], [], none, fun n x => spec_l20Route n x.1⟩
theorem spec_l20Route.seg_eq : SegEq ty gl spec_l20Route.F spec_l20Route.md spec_l20Route.T spec_l20Route.spec spec_l20Route.lb spec_l20Route.st spec_l20Route.step := by
  intro n goto y; cases y <;> kernel_rfl
theorem spec_l20Route.text : Text Go.Proofs.Tryz.prog spec_l20Route.F spec_l20Route.spec := textOf Go.Proofs.Tryz.f49
theorem spec_l20Route.ok : CtrOK Go.Proofs.Tryz.prog gl spec_l20Route.spec :=
  ctr_okS tabs spec_l20Route.text spec_l20Route.seg_eq (fun n x => ⟨.p0 x.1, rfl, rfl, rfl⟩) (consC spec_l2Name.ok (consC spec_GoodMatchers.ok (consC spec_l15Names.ok (consC spec_l3Time.ok (consC spec_l9Numbers.ok (nilC))))))

/-! loop.example/g00039/spec.l20Take -/
def spec_l20Take.T : List Ctr := [spec_l20Route.spec]
def spec_l20Take.md : List (Nat × List Md) := []
noncomputable def spec_l20Take.F : Fun := ⟨(Go.Proofs.Tryz.f25.body).getD .skip, [.v (.sl false (.pair .str (.pair (.sl false (.pair .str (.pair (.int .i64) (.pair .str .unit)))) (.pair (.sl false .str) (.pair (.int .i64) (.pair (.int .i64) (.pair (.int .i64) (.pair (.sl false (.int .i64)) (.pair .bool (.pair (.int .i64) .unit)))))))))), .v (.int .i64), .v (.int .i64)], [(.tmp 6, (.int .i64))], [], 0, [(4, ⟨[0, 1, 2, 32], [], [], false⟩), (17, ⟨[0, 1, 2, 7, 8], [], [], false⟩)]⟩
inductive spec_l20Take.Pt where
  | p0 (a0 : List ((ByteArray) × ((List ((ByteArray) × ((Int) × ((ByteArray) × (Unit))))) × ((List (ByteArray)) × ((Int) × ((Int) × ((Int) × ((List (Int)) × ((Bool) × ((Int) × (Unit))))))))))) (a1 : Int) (a2 : Int)
  | p4 (y1 : List ((ByteArray) × ((List ((ByteArray) × ((Int) × ((ByteArray) × (Unit))))) × ((List (ByteArray)) × ((Int) × ((Int) × ((Int) × ((List (Int)) × ((Bool) × ((Int) × (Unit))))))))))) (y2 : Int) (y3 : Int) (y4 : Bool)
  | p17 (y1 : List ((ByteArray) × ((List ((ByteArray) × ((Int) × ((ByteArray) × (Unit))))) × ((List (ByteArray)) × ((Int) × ((Int) × ((Int) × ((List (Int)) × ((Bool) × ((Int) × (Unit))))))))))) (y2 : Int) (y3 : Int) (y4 : Int) (y5 : Int)
def spec_l20Take.lb : spec_l20Take.Pt → Nat
  | .p0 _ _ _ => 0
  | .p4 _ _ _ _ => 4
  | .p17 _ _ _ _ _ => 17
def spec_l20Take.st : spec_l20Take.Pt → St
  | .p0 a0 a1 a2 => enter [.v (.sl false (.pair .str (.pair (.sl false (.pair .str (.pair (.int .i64) (.pair .str .unit)))) (.pair (.sl false .str) (.pair (.int .i64) (.pair (.int .i64) (.pair (.int .i64) (.pair (.sl false (.int .i64)) (.pair .bool (.pair (.int .i64) .unit)))))))))) a0, .v (.int .i64) a1, .v (.int .i64) a2] 0
  | .p4 y1 y2 y3 y4 => ⟨[(0, .im (.sl false (.pair .str (.pair (.sl false (.pair .str (.pair (.int .i64) (.pair .str .unit)))) (.pair (.sl false .str) (.pair (.int .i64) (.pair (.int .i64) (.pair (.int .i64) (.pair (.sl false (.int .i64)) (.pair .bool (.pair (.int .i64) .unit)))))))))) y1), (1, .im (.int .i64) y2), (2, .im (.int .i64) y3), (32, .im .bool y4)], [], 0⟩
  | .p17 y1 y2 y3 y4 y5 => ⟨[(0, .im (.sl false (.pair .str (.pair (.sl false (.pair .str (.pair (.int .i64) (.pair .str .unit)))) (.pair (.sl false .str) (.pair (.int .i64) (.pair (.int .i64) (.pair (.int .i64) (.pair (.sl false (.int .i64)) (.pair .bool (.pair (.int .i64) .unit)))))))))) y1), (1, .im (.int .i64) y2), (2, .im (.int .i64) y3), (7, .im (.int .i64) y4), (8, .im (.int .i64) y5)], [], 0⟩
def spec_l20Take.step (n : Nat) (self : Ty.Els [.v (.sl false (.pair .str (.pair (.sl false (.pair .str (.pair (.int .i64) (.pair .str .unit)))) (.pair (.sl false .str) (.pair (.int .i64) (.pair (.int .i64) (.pair (.int .i64) (.pair (.sl false (.int .i64)) (.pair .bool (.pair (.int .i64) .unit)))))))))), .v (.int .i64), .v (.int .i64)] → Option (Tup [(.int .i64)])) (K : spec_l20Take.Pt → Option (Tup [(.int .i64)])) : spec_l20Take.Pt → Option (Tup [(.int .i64)])
  | .p0 a0 a1 a2 => cond (decide (((List.length a0) : Int) ≤ a1)) (K (.p4 a0 a1 a2 true)) (cond (decide ((8 : Int) < a2)) (K (.p4 a0 a1 a2 true)) (cond (inB a1 (List.length a0)) (cond (decide ((List.getD a0 (Int.toNat a1) default).2.2.2.2.2.2.2.2.1 < (0 : Int))) (K (.p4 a0 a1 a2 true)) (cond (inB a1 (List.length a0)) ((spec_l20Route n (List.getD a0 (Int.toNat a1) default)).bind fun r6 => K (.p4 a0 a1 a2 (!r6))) (none))) (none)))
  | .p4 y1 y2 y3 y4 => cond y4 (some (-(1 : Int))) (K (.p17 y1 y2 y3 (IntKind.wrap .i64 (y2 + (1 : Int))) (0 : Int)))
  | .p17 y1 y2 y3 y4 y5 => cond (inB y2 (List.length y1)) (cond (decide (y5 < (List.getD y1 (Int.toNat y2) default).2.2.2.2.2.2.2.2.1)) ((self (y1, y4, (IntKind.wrap .i64 (y3 + (1 : Int))), ())).bind fun (r8 : Int) => cond (decide (r8 < (0 : Int))) (some (-(1 : Int))) (K (.p17 y1 y2 y3 r8 (IntKind.wrap .i64 (y5 + (1 : Int)))))) (some y4)) (none)
def spec_l20Take (n : Nat) (a0 : List ((ByteArray) × ((List ((ByteArray) × ((Int) × ((ByteArray) × (Unit))))) × ((List (ByteArray)) × ((Int) × ((Int) × ((Int) × ((List (Int)) × ((Bool) × ((Int) × (Unit))))))))))) (a1 : Int) (a2 : Int) : Option (Tup [(.int .i64)]) := goRec (fun n K => spec_l20Take.step n (fun x => K (.p0 x.1 x.2.1 x.2.2.1)) K) n (.p0 a0 a1 a2)
def spec_l20Take.spec : Ctr := ⟨25, [.v (.sl false (.pair .str (.pair (.sl false (.pair .str (.pair (.int .i64) (.pair .str .unit)))) (.pair (.sl false .str) (.pair (.int .i64) (.pair (.int .i64) (.pair (.int .i64) (.pair (.sl false (.int .i64)) (.pair .bool (.pair (.int .i64) .unit)))))))))), .v (.int .i64), .v (.int .i64)], [(.int .i64)], [], none, fun n x => spec_l20Take n x.1 x.2.1 x.2.2.1⟩
theorem spec_l20Take.seg_eq (n : Nat) (φ : Ty.Els [.v (.sl false (.pair .str (.pair (.sl false (.pair .str (.pair (.int .i64) (.pair .str .unit)))) (.pair (.sl false .str) (.pair (.int .i64) (.pair (.int .i64) (.pair (.int .i64) (.pair (.sl false (.int .i64)) (.pair .bool (.pair (.int .i64) .unit)))))))))), .v (.int .i64), .v (.int .i64)] → Option (Tup [(.int .i64)])) (goto : Nat → St → Option (Tup [(.int .i64)])) (y : spec_l20Take.Pt) : seg ⟨ty, gl, spec_l20Take.md, calOf (spec_l20Take.spec.at φ :: spec_l20Take.T) n⟩ spec_l20Take.F.np spec_l20Take.F.ks goto (spec_l20Take.F.fin ⟨ty, gl, spec_l20Take.md, calOf spec_l20Take.T 0⟩ [(.int .i64)] none) spec_l20Take.F.c (spec_l20Take.lb y) (spec_l20Take.st y) = spec_l20Take.step n φ (fun z => goto (spec_l20Take.lb z) (spec_l20Take.st z)) y := by
  cases y <;> kernel_rfl
theorem spec_l20Take.text : Text Go.Proofs.Tryz.prog spec_l20Take.F spec_l20Take.spec := textOf Go.Proofs.Tryz.f25
theorem spec_l20Take.ok : CtrOK Go.Proofs.Tryz.prog gl spec_l20Take.spec :=
  ctr_rec (T := spec_l20Take.T) (F := spec_l20Take.F) (lb := spec_l20Take.lb) (st := spec_l20Take.st) (ent := fun x => .p0 x.1 x.2.1 x.2.2.1) (stp := spec_l20Take.step) (md := spec_l20Take.md) tabs spec_l20Take.text spec_l20Take.seg_eq (fun _ => ⟨rfl, rfl⟩) (fun _ _ => rfl) (consC spec_l20Route.ok (nilC))

/-! loop.example/g00039/spec.GoodRoutes -/
def spec_GoodRoutes.T : List Ctr := [spec_l20Take.spec]
def spec_GoodRoutes.md : List (Nat × List Md) := []
noncomputable def spec_GoodRoutes.F : Fun := ⟨(Go.Proofs.Tryz.f10.body).getD .skip, [.v (.sl false (.pair .str (.pair (.sl false (.pair .str (.pair (.int .i64) (.pair .str .unit)))) (.pair (.sl false .str) (.pair (.int .i64) (.pair (.int .i64) (.pair (.int .i64) (.pair (.sl false (.int .i64)) (.pair .bool (.pair (.int .i64) .unit))))))))))], [(.tmp 2, .bool)], [], 0, []⟩
inductive spec_GoodRoutes.Pt where
  | p0 (a0 : List ((ByteArray) × ((List ((ByteArray) × ((Int) × ((ByteArray) × (Unit))))) × ((List (ByteArray)) × ((Int) × ((Int) × ((Int) × ((List (Int)) × ((Bool) × ((Int) × (Unit)))))))))))
def spec_GoodRoutes.lb : spec_GoodRoutes.Pt → Nat
  | .p0 _ => 0
def spec_GoodRoutes.st : spec_GoodRoutes.Pt → St
  | .p0 a0 => enter [.v (.sl false (.pair .str (.pair (.sl false (.pair .str (.pair (.int .i64) (.pair .str .unit)))) (.pair (.sl false .str) (.pair (.int .i64) (.pair (.int .i64) (.pair (.int .i64) (.pair (.sl false (.int .i64)) (.pair .bool (.pair (.int .i64) .unit)))))))))) a0] 0
def spec_GoodRoutes.step (n : Nat) (K : spec_GoodRoutes.Pt → Option (Tup [.bool])) : spec_GoodRoutes.Pt → Option (Tup [.bool])
  | .p0 a0 => cond (decide ((0 : Int) < ((List.length a0) : Int))) (cond (decide (((List.length a0) : Int) ≤ (40 : Int))) ((spec_l20Take n a0 (0 : Int) (1 : Int)).bind fun (r4 : Int) => cond (decide (r4 = ((List.length a0) : Int))) (cond (inB (0 : Int) (List.length a0)) (cond (decide (((List.length (List.getD a0 (Int.toNat (0 : Int)) default).2.1) : Int) = (0 : Int))) (cond (inB (0 : Int) (List.length a0)) (some (!(List.getD a0 (Int.toNat (0 : Int)) default).2.2.2.2.2.2.2.1)) (none)) (some false)) (none)) (some false)) (some false)) (some false)
def spec_GoodRoutes (n : Nat) (a0 : List ((ByteArray) × ((List ((ByteArray) × ((Int) × ((ByteArray) × (Unit))))) × ((List (ByteArray)) × ((Int) × ((Int) × ((Int) × ((List (Int)) × ((Bool) × ((Int) × (Unit))))))))))) : Option (Tup [.bool]) := goRec spec_GoodRoutes.step n (.p0 a0)
def spec_GoodRoutes.spec : Ctr := ⟨10, [.v (.sl false (.pair .str (.pair (.sl false (.pair .str (.pair (.int .i64) (.pair .str .unit)))) (.pair (.sl false .str) (.pair (.int .i64) (.pair (.int .i64) (.pair (.int .i64) (.pair (.sl false (.int .i64)) (.pair .bool (.pair (.int .i64) .unit))))))))))], [.bool], [], none, fun n x => spec_GoodRoutes n x.1⟩
theorem spec_GoodRoutes.seg_eq : SegEq ty gl spec_GoodRoutes.F spec_GoodRoutes.md spec_GoodRoutes.T spec_GoodRoutes.spec spec_GoodRoutes.lb spec_GoodRoutes.st spec_GoodRoutes.step := by
  intro n goto y; cases y <;> kernel_rfl
theorem spec_GoodRoutes.text : Text Go.Proofs.Tryz.prog spec_GoodRoutes.F spec_GoodRoutes.spec := textOf Go.Proofs.Tryz.f10
theorem spec_GoodRoutes.ok : CtrOK Go.Proofs.Tryz.prog gl spec_GoodRoutes.spec :=
  ctr_okS tabs spec_GoodRoutes.text spec_GoodRoutes.seg_eq (fun n x => ⟨.p0 x.1, rfl, rfl, rfl⟩) (consC spec_l20Take.ok (nilC))

/-! loop.example/g00039/spec.l20Deep -/
def spec_l20Deep.T : List Ctr := []
def spec_l20Deep.md : List (Nat × List Md) := [(11, [.v, .v, .v, .g (.sl false (.int .i64))])]
noncomputable def spec_l20Deep.F : Fun := ⟨(Go.Proofs.Tryz.f11.body).getD .skip, [.v (.sl false (.pair .str (.pair (.sl false (.pair .str (.pair (.int .i64) (.pair .str .unit)))) (.pair (.sl false .str) (.pair (.int .i64) (.pair (.int .i64) (.pair (.int .i64) (.pair (.sl false (.int .i64)) (.pair .bool (.pair (.int .i64) .unit)))))))))), .v (.int .i64), .v (.int .i64), .g (.sl false (.int .i64))], [(.tmp 8, (.sl false (.int .i64))), (.tmp 9, (.int .i64))], [], 0, [(11, ⟨[0, 1, 2, 3, 10, 11], [(3, (.int .i64))], [], false⟩)]⟩
inductive spec_l20Deep.Pt where
  | p0 (a0 : List ((ByteArray) × ((List ((ByteArray) × ((Int) × ((ByteArray) × (Unit))))) × ((List (ByteArray)) × ((Int) × ((Int) × ((Int) × ((List (Int)) × ((Bool) × ((Int) × (Unit))))))))))) (a1 : Int) (a2 : Int) (a3 : List (Int))
  | p11 (y1 : List ((ByteArray) × ((List ((ByteArray) × ((Int) × ((ByteArray) × (Unit))))) × ((List (ByteArray)) × ((Int) × ((Int) × ((Int) × ((List (Int)) × ((Bool) × ((Int) × (Unit))))))))))) (y2 : Int) (y3 : Int) (y4 : Int) (y5 : Int) (y6 : List (Int))
def spec_l20Deep.lb : spec_l20Deep.Pt → Nat
  | .p0 _ _ _ _ => 0
  | .p11 _ _ _ _ _ _ => 11
def spec_l20Deep.st : spec_l20Deep.Pt → St
  | .p0 a0 a1 a2 a3 => enter [.v (.sl false (.pair .str (.pair (.sl false (.pair .str (.pair (.int .i64) (.pair .str .unit)))) (.pair (.sl false .str) (.pair (.int .i64) (.pair (.int .i64) (.pair (.int .i64) (.pair (.sl false (.int .i64)) (.pair .bool (.pair (.int .i64) .unit)))))))))) a0, .v (.int .i64) a1, .v (.int .i64) a2, .g (.sl false (.int .i64)) a3] 0
  | .p11 y1 y2 y3 y4 y5 y6 => ⟨[(0, .im (.sl false (.pair .str (.pair (.sl false (.pair .str (.pair (.int .i64) (.pair .str .unit)))) (.pair (.sl false .str) (.pair (.int .i64) (.pair (.int .i64) (.pair (.int .i64) (.pair (.sl false (.int .i64)) (.pair .bool (.pair (.int .i64) .unit)))))))))) y1), (1, .im (.int .i64) y2), (2, .im (.int .i64) y3), (3, .hs 0 [] none 0), (10, .im (.int .i64) y4), (11, .im (.int .i64) y5)], [(0, .arr false (.int .i64) y6 0)], 1⟩
def spec_l20Deep.step (n : Nat) (self : Ty.Els [.v (.sl false (.pair .str (.pair (.sl false (.pair .str (.pair (.int .i64) (.pair .str .unit)))) (.pair (.sl false .str) (.pair (.int .i64) (.pair (.int .i64) (.pair (.int .i64) (.pair (.sl false (.int .i64)) (.pair .bool (.pair (.int .i64) .unit)))))))))), .v (.int .i64), .v (.int .i64), .g (.sl false (.int .i64))] → Option (Tup [(.sl false (.int .i64)), (.int .i64)])) (K : spec_l20Deep.Pt → Option (Tup [(.sl false (.int .i64)), (.int .i64)])) : spec_l20Deep.Pt → Option (Tup [(.sl false (.int .i64)), (.int .i64)])
  | .p0 a0 a1 a2 a3 => cond (room ((List.length a3) + (List.length [a2]))) (K (.p11 a0 a1 a2 (IntKind.wrap .i64 (a1 + (1 : Int))) (0 : Int) (a3 ++ [a2]))) (none)
  | .p11 y1 y2 y3 y4 y5 y6 => cond (inB y2 (List.length y1)) (cond (decide (y5 < (List.getD y1 (Int.toNat y2) default).2.2.2.2.2.2.2.2.1)) ((self (y1, y4, (IntKind.wrap .i64 (y3 + (1 : Int))), y6, ())).bind fun r9 => K (.p11 y1 y2 y3 r9.2 (IntKind.wrap .i64 (y5 + (1 : Int))) r9.1)) (some (y6, y4))) (none)
def spec_l20Deep (n : Nat) (a0 : List ((ByteArray) × ((List ((ByteArray) × ((Int) × ((ByteArray) × (Unit))))) × ((List (ByteArray)) × ((Int) × ((Int) × ((Int) × ((List (Int)) × ((Bool) × ((Int) × (Unit))))))))))) (a1 : Int) (a2 : Int) (a3 : List (Int)) : Option (Tup [(.sl false (.int .i64)), (.int .i64)]) := goRec (fun n K => spec_l20Deep.step n (fun x => K (.p0 x.1 x.2.1 x.2.2.1 x.2.2.2.1)) K) n (.p0 a0 a1 a2 a3)
def spec_l20Deep.spec : Ctr := ⟨11, [.v (.sl false (.pair .str (.pair (.sl false (.pair .str (.pair (.int .i64) (.pair .str .unit)))) (.pair (.sl false .str) (.pair (.int .i64) (.pair (.int .i64) (.pair (.int .i64) (.pair (.sl false (.int .i64)) (.pair .bool (.pair (.int .i64) .unit)))))))))), .v (.int .i64), .v (.int .i64), .g (.sl false (.int .i64))], [(.sl false (.int .i64)), (.int .i64)], [], none, fun n x => spec_l20Deep n x.1 x.2.1 x.2.2.1 x.2.2.2.1⟩
theorem spec_l20Deep.seg_eq (n : Nat) (φ : Ty.Els [.v (.sl false (.pair .str (.pair (.sl false (.pair .str (.pair (.int .i64) (.pair .str .unit)))) (.pair (.sl false .str) (.pair (.int .i64) (.pair (.int .i64) (.pair (.int .i64) (.pair (.sl false (.int .i64)) (.pair .bool (.pair (.int .i64) .unit)))))))))), .v (.int .i64), .v (.int .i64), .g (.sl false (.int .i64))] → Option (Tup [(.sl false (.int .i64)), (.int .i64)])) (goto : Nat → St → Option (Tup [(.sl false (.int .i64)), (.int .i64)])) (y : spec_l20Deep.Pt) : seg ⟨ty, gl, spec_l20Deep.md, calOf (spec_l20Deep.spec.at φ :: spec_l20Deep.T) n⟩ spec_l20Deep.F.np spec_l20Deep.F.ks goto (spec_l20Deep.F.fin ⟨ty, gl, spec_l20Deep.md, calOf spec_l20Deep.T 0⟩ [(.sl false (.int .i64)), (.int .i64)] none) spec_l20Deep.F.c (spec_l20Deep.lb y) (spec_l20Deep.st y) = spec_l20Deep.step n φ (fun z => goto (spec_l20Deep.lb z) (spec_l20Deep.st z)) y := by
  cases y <;> kernel_rfl
theorem spec_l20Deep.text : Text Go.Proofs.Tryz.prog spec_l20Deep.F spec_l20Deep.spec := textOf Go.Proofs.Tryz.f11
theorem spec_l20Deep.ok : CtrOK Go.Proofs.Tryz.prog gl spec_l20Deep.spec :=
  ctr_rec (T := spec_l20Deep.T) (F := spec_l20Deep.F) (lb := spec_l20Deep.lb) (st := spec_l20Deep.st) (ent := fun x => .p0 x.1 x.2.1 x.2.2.1 x.2.2.2.1) (stp := spec_l20Deep.step) (md := spec_l20Deep.md) tabs spec_l20Deep.text spec_l20Deep.seg_eq (fun _ => ⟨rfl, rfl⟩) (fun _ _ => rfl) (nilC)

/-! loop.example/g00039/spec.l2Ops -/
def spec_l2Ops.T : List Ctr := []
def spec_l2Ops.md : List (Nat × List Md) := []
noncomputable def spec_l2Ops.F : Fun := ⟨(Go.Proofs.Tryz.f50.body).getD .skip, [], [(.tmp 0, (.sl false .str))], [], 0, []⟩
inductive spec_l2Ops.Pt where
  | p0
def spec_l2Ops.lb : spec_l2Ops.Pt → Nat
  | .p0 => 0
def spec_l2Ops.st : spec_l2Ops.Pt → St
  | .p0 => enter [] 0
def spec_l2Ops.step (n : Nat) (K : spec_l2Ops.Pt → Option (Tup [(.sl false .str)])) : spec_l2Ops.Pt → Option (Tup [(.sl false .str)])
  | .p0 => some [(⟨#[]⟩ : ByteArray), (⟨#[61]⟩ : ByteArray), (⟨#[33, 61]⟩ : ByteArray), (⟨#[61, 126]⟩ : ByteArray), (⟨#[33, 126]⟩ : ByteArray)]
def spec_l2Ops (n : Nat) : Option (Tup [(.sl false .str)]) := goRec spec_l2Ops.step n (.p0)
def spec_l2Ops.spec : Ctr := ⟨50, [], [(.sl false .str)], [], none, fun n x => spec_l2Ops n⟩
theorem spec_l2Ops.seg_eq : SegEq ty gl spec_l2Ops.F spec_l2Ops.md spec_l2Ops.T spec_l2Ops.spec spec_l2Ops.lb spec_l2Ops.st spec_l2Ops.step := by
  intro n goto y; cases y <;> kernel_rfl
theorem spec_l2Ops.text : Text Go.Proofs.Tryz.prog spec_l2Ops.F spec_l2Ops.spec := textOf Go.Proofs.Tryz.f50
theorem spec_l2Ops.ok : CtrOK Go.Proofs.Tryz.prog gl spec_l2Ops.spec :=
  ctr_okS tabs spec_l2Ops.text spec_l2Ops.seg_eq (fun n x => ⟨.p0, rfl, rfl, rfl⟩) (nilC)

/-! loop.example/g00039/spec.l2Quoted -/
def spec_l2Quoted.T : List Ctr := []
def spec_l2Quoted.md : List (Nat × List Md) := []
noncomputable def spec_l2Quoted.F : Fun := ⟨(Go.Proofs.Tryz.f51.body).getD .skip, [.v .str], [(.tmp 2, .str)], [], 0, [(9, ⟨[0, 3, 4], [(3, (.int .u8))], [], false⟩), (19, ⟨[0, 3, 4, 21], [(3, (.int .u8))], [], false⟩)]⟩
inductive spec_l2Quoted.Pt where
  | p0 (a0 : ByteArray)
  | p9 (y1 : ByteArray) (y2 : Int) (y3 : List (Int))
  | p19 (y1 : ByteArray) (y2 : Int) (y3 : Bool) (y4 : List (Int))
def spec_l2Quoted.lb : spec_l2Quoted.Pt → Nat
  | .p0 _ => 0
  | .p9 _ _ _ => 9
  | .p19 _ _ _ _ => 19
def spec_l2Quoted.st : spec_l2Quoted.Pt → St
  | .p0 a0 => enter [.v .str a0] 0
  | .p9 y1 y2 y3 => ⟨[(0, .im .str y1), (3, .hs 0 [] none 0), (4, .im (.int .i64) y2)], [(0, .arr false (.int .u8) y3 0)], 1⟩
  | .p19 y1 y2 y3 y4 => ⟨[(0, .im .str y1), (3, .hs 0 [] none 0), (4, .im (.int .i64) y2), (21, .im .bool y3)], [(0, .arr false (.int .u8) y4 0)], 1⟩
def spec_l2Quoted.step (n : Nat) (K : spec_l2Quoted.Pt → Option (Tup [.str])) : spec_l2Quoted.Pt → Option (Tup [.str])
  | .p0 a0 => K (.p9 a0 (0 : Int) [(34 : Int)])
  | .p9 y1 y2 y3 => cond (decide (y2 < ((ByteArray.size y1) : Int))) (cond (inB y2 (ByteArray.size y1)) (cond (decide ((bt y1 y2) = (34 : Int))) (K (.p19 y1 y2 true y3)) (cond (inB y2 (ByteArray.size y1)) (K (.p19 y1 y2 (decide ((bt y1 y2) = (92 : Int))) y3)) (none))) (none)) (cond (room ((List.length y3) + (List.length [(34 : Int)]))) (some (ofOcts (y3 ++ [(34 : Int)]))) (none))
  | .p19 y1 y2 y3 y4 => cond y3 (cond (room ((List.length y4) + (List.length [(92 : Int)]))) (cond (inB y2 (ByteArray.size y1)) (cond (room ((List.length (y4 ++ [(92 : Int)])) + (List.length [(bt y1 y2)]))) (K (.p9 y1 (IntKind.wrap .i64 (y2 + (1 : Int))) ((y4 ++ [(92 : Int)]) ++ [(bt y1 y2)]))) (none)) (none)) (none)) (cond (inB y2 (ByteArray.size y1)) (cond (room ((List.length y4) + (List.length [(bt y1 y2)]))) (K (.p9 y1 (IntKind.wrap .i64 (y2 + (1 : Int))) (y4 ++ [(bt y1 y2)]))) (none)) (none))
def spec_l2Quoted (n : Nat) (a0 : ByteArray) : Option (Tup [.str]) := goRec spec_l2Quoted.step n (.p0 a0)
def spec_l2Quoted.spec : Ctr := ⟨51, [.v .str], [.str], [], none, fun n x => spec_l2Quoted n x.1⟩
theorem spec_l2Quoted.seg_eq : SegEq ty gl spec_l2Quoted.F spec_l2Quoted.md spec_l2Quoted.T spec_l2Quoted.spec spec_l2Quoted.lb spec_l2Quoted.st spec_l2Quoted.step := by
  intro n goto y; cases y <;> kernel_rfl
theorem spec_l2Quoted.text : Text Go.Proofs.Tryz.prog spec_l2Quoted.F spec_l2Quoted.spec := textOf Go.Proofs.Tryz.f51
theorem spec_l2Quoted.ok : CtrOK Go.Proofs.Tryz.prog gl spec_l2Quoted.spec :=
  ctr_okS tabs spec_l2Quoted.text spec_l2Quoted.seg_eq (fun n x => ⟨.p0 x.1, rfl, rfl, rfl⟩) (nilC)

/-! loop.example/g00039/spec.l2MatchersText -/
def spec_l2MatchersText.T : List Ctr := [spec_l2Ops.spec, spec_l2Quoted.spec]
def spec_l2MatchersText.md : List (Nat × List Md) := []
noncomputable def spec_l2MatchersText.F : Fun := ⟨(Go.Proofs.Tryz.f26.body).getD .skip, [.v (.sl false (.pair .str (.pair (.int .i64) (.pair .str .unit))))], [(.tmp 2, .str)], [], 0, [(9, ⟨[3, 6, 7, 8], [(6, (.pair .str (.pair (.int .i64) (.pair .str .unit))))], [], false⟩), (20, ⟨[3, 5, 6, 7, 8], [(6, (.pair .str (.pair (.int .i64) (.pair .str .unit))))], [], false⟩)]⟩
inductive spec_l2MatchersText.Pt where
  | p0 (a0 : List ((ByteArray) × ((Int) × ((ByteArray) × (Unit)))))
  | p9 (y1 : ByteArray) (y2 : List ((ByteArray) × ((Int) × ((ByteArray) × (Unit))))) (y3 : Int) (y4 : Int)
  | p20 (y1 : ByteArray) (y2 : List ((ByteArray) × ((Int) × ((ByteArray) × (Unit))))) (y3 : Int) (y4 : Int) (y5 : ByteArray) (y6 : Int) (y7 : ByteArray)
def spec_l2MatchersText.lb : spec_l2MatchersText.Pt → Nat
  | .p0 _ => 0
  | .p9 _ _ _ _ => 9
  | .p20 _ _ _ _ _ _ _ => 20
def spec_l2MatchersText.st : spec_l2MatchersText.Pt → St
  | .p0 a0 => enter [.v (.sl false (.pair .str (.pair (.int .i64) (.pair .str .unit)))) a0] 0
  | .p9 y1 y2 y3 y4 => ⟨[(3, .im .str y1), (6, .im (.sl false (.pair .str (.pair (.int .i64) (.pair .str .unit)))) y2), (7, .im (.int .i64) y3), (8, .im (.int .i64) y4)], [], 0⟩
  | .p20 y1 y2 y3 y4 y5 y6 y7 => ⟨[(3, .im .str y1), (5, .po 0 0), (6, .im (.sl false (.pair .str (.pair (.int .i64) (.pair .str .unit)))) y2), (7, .im (.int .i64) y3), (8, .im (.int .i64) y4)], [(0, .obj [.im .str y5, .im (.int .i64) y6, .im .str y7])], 1⟩
def spec_l2MatchersText.step (n : Nat) (K : spec_l2MatchersText.Pt → Option (Tup [.str])) : spec_l2MatchersText.Pt → Option (Tup [.str])
  | .p0 a0 => K (.p9 (⟨#[123]⟩ : ByteArray) a0 ((List.length a0) : Int) (0 : Int))
  | .p9 y1 y2 y3 y4 => cond (decide (y4 < y3)) (cond (inB y4 (List.length y2)) (cond (decide ((0 : Int) < y4)) (cond (room ((ByteArray.size y1) + (ByteArray.size (⟨#[44]⟩ : ByteArray)))) (K (.p20 (y1 ++ (⟨#[44]⟩ : ByteArray)) y2 y3 y4 (List.getD y2 (Int.toNat y4) default).1 (List.getD y2 (Int.toNat y4) default).2.1 (List.getD y2 (Int.toNat y4) default).2.2.1)) (none)) (K (.p20 y1 y2 y3 y4 (List.getD y2 (Int.toNat y4) default).1 (List.getD y2 (Int.toNat y4) default).2.1 (List.getD y2 (Int.toNat y4) default).2.2.1))) (none)) (cond (room ((ByteArray.size y1) + (ByteArray.size (⟨#[125]⟩ : ByteArray)))) (some (y1 ++ (⟨#[125]⟩ : ByteArray))) (none))
  | .p20 y1 y2 y3 y4 y5 y6 y7 => (spec_l2Ops n).bind fun r10 => cond (inB y6 (List.length r10)) (cond (room ((ByteArray.size y5) + (ByteArray.size (List.getD r10 (0 + (Int.toNat y6)) default)))) ((spec_l2Quoted n y7).bind fun r11 => cond (room ((ByteArray.size (y5 ++ (List.getD r10 (0 + (Int.toNat y6)) default))) + (ByteArray.size r11))) (cond (room ((ByteArray.size y1) + (ByteArray.size ((y5 ++ (List.getD r10 (0 + (Int.toNat y6)) default)) ++ r11)))) (K (.p9 (y1 ++ ((y5 ++ (List.getD r10 (0 + (Int.toNat y6)) default)) ++ r11)) y2 y3 (IntKind.wrap .i64 (y4 + (1 : Int))))) (none)) (none)) (none)) (none)
def spec_l2MatchersText (n : Nat) (a0 : List ((ByteArray) × ((Int) × ((ByteArray) × (Unit))))) : Option (Tup [.str]) := goRec spec_l2MatchersText.step n (.p0 a0)
def spec_l2MatchersText.spec : Ctr := ⟨26, [.v (.sl false (.pair .str (.pair (.int .i64) (.pair .str .unit))))], [.str], [], none, fun n x => spec_l2MatchersText n x.1⟩
theorem spec_l2MatchersText.seg_eq : SegEq ty gl spec_l2MatchersText.F spec_l2MatchersText.md spec_l2MatchersText.T spec_l2MatchersText.spec spec_l2MatchersText.lb spec_l2MatchersText.st spec_l2MatchersText.step := by
  intro n goto y; cases y <;> kernel_rfl
theorem spec_l2MatchersText.text : Text Go.Proofs.Tryz.prog spec_l2MatchersText.F spec_l2MatchersText.spec := textOf Go.Proofs.Tryz.f26
theorem spec_l2MatchersText.ok : CtrOK Go.Proofs.Tryz.prog gl spec_l2MatchersText.spec :=
  ctr_okS tabs spec_l2MatchersText.text spec_l2MatchersText.seg_eq (fun n x => ⟨.p0 x.1, rfl, rfl, rfl⟩) (consC spec_l2Ops.ok (consC spec_l2Quoted.ok (nilC)))

/-! loop.example/g00039/spec.l20Joined -/
def spec_l20Joined.T : List Ctr := []
def spec_l20Joined.md : List (Nat × List Md) := []
noncomputable def spec_l20Joined.F : Fun := ⟨(Go.Proofs.Tryz.f27.body).getD .skip, [.v (.sl false .str)], [(.tmp 2, .str)], [], 0, [(9, ⟨[3, 6, 7, 8], [(6, .str)], [], false⟩)]⟩
inductive spec_l20Joined.Pt where
  | p0 (a0 : List (ByteArray))
  | p9 (y1 : ByteArray) (y2 : List (ByteArray)) (y3 : Int) (y4 : Int)
def spec_l20Joined.lb : spec_l20Joined.Pt → Nat
  | .p0 _ => 0
  | .p9 _ _ _ _ => 9
def spec_l20Joined.st : spec_l20Joined.Pt → St
  | .p0 a0 => enter [.v (.sl false .str) a0] 0
  | .p9 y1 y2 y3 y4 => ⟨[(3, .im .str y1), (6, .im (.sl false .str) y2), (7, .im (.int .i64) y3), (8, .im (.int .i64) y4)], [], 0⟩
def spec_l20Joined.step (n : Nat) (K : spec_l20Joined.Pt → Option (Tup [.str])) : spec_l20Joined.Pt → Option (Tup [.str])
  | .p0 a0 => K (.p9 (⟨#[]⟩ : ByteArray) a0 ((List.length a0) : Int) (0 : Int))
  | .p9 y1 y2 y3 y4 => cond (decide (y4 < y3)) (cond (inB y4 (List.length y2)) (cond (decide ((0 : Int) < y4)) (cond (room ((ByteArray.size y1) + (ByteArray.size (⟨#[44]⟩ : ByteArray)))) (cond (room ((ByteArray.size (y1 ++ (⟨#[44]⟩ : ByteArray))) + (ByteArray.size (List.getD y2 (Int.toNat y4) default)))) (K (.p9 ((y1 ++ (⟨#[44]⟩ : ByteArray)) ++ (List.getD y2 (Int.toNat y4) default)) y2 y3 (IntKind.wrap .i64 (y4 + (1 : Int))))) (none)) (none)) (cond (room ((ByteArray.size y1) + (ByteArray.size (List.getD y2 (Int.toNat y4) default)))) (K (.p9 (y1 ++ (List.getD y2 (Int.toNat y4) default)) y2 y3 (IntKind.wrap .i64 (y4 + (1 : Int))))) (none))) (none)) (some y1)
def spec_l20Joined (n : Nat) (a0 : List (ByteArray)) : Option (Tup [.str]) := goRec spec_l20Joined.step n (.p0 a0)
def spec_l20Joined.spec : Ctr := ⟨27, [.v (.sl false .str)], [.str], [], none, fun n x => spec_l20Joined n x.1⟩
theorem spec_l20Joined.seg_eq : SegEq ty gl spec_l20Joined.F spec_l20Joined.md spec_l20Joined.T spec_l20Joined.spec spec_l20Joined.lb spec_l20Joined.st spec_l20Joined.step := by
  intro n goto y; cases y <;> kernel_rfl
theorem spec_l20Joined.text : Text Go.Proofs.Tryz.prog spec_l20Joined.F spec_l20Joined.spec := textOf Go.Proofs.Tryz.f27
theorem spec_l20Joined.ok : CtrOK Go.Proofs.Tryz.prog gl spec_l20Joined.spec :=
  ctr_okS tabs spec_l20Joined.text spec_l20Joined.seg_eq (fun n x => ⟨.p0 x.1, rfl, rfl, rfl⟩) (nilC)

/-! loop.example/g00039/spec.l2Num -/
def spec_l2Num.T : List Ctr := []
def spec_l2Num.md : List (Nat × List Md) := []
noncomputable def spec_l2Num.F : Fun := ⟨(Go.Proofs.Tryz.f28.body).getD .skip, [.v (.int .i64)], [(.tmp 2, .str)], [], 0, [(17, ⟨[0, 3, 4], [], [], false⟩)]⟩
inductive spec_l2Num.Pt where
  | p0 (a0 : Int)
  | p17 (y1 : Int) (y2 : ByteArray) (y3 : Bool)
def spec_l2Num.lb : spec_l2Num.Pt → Nat
  | .p0 _ => 0
  | .p17 _ _ _ => 17
def spec_l2Num.st : spec_l2Num.Pt → St
  | .p0 a0 => enter [.v (.int .i64) a0] 0
  | .p17 y1 y2 y3 => ⟨[(0, .im (.int .i64) y1), (3, .im .str y2), (4, .im .bool y3)], [], 0⟩
def spec_l2Num.step (n : Nat) (K : spec_l2Num.Pt → Option (Tup [.str])) : spec_l2Num.Pt → Option (Tup [.str])
  | .p0 a0 => cond (decide (a0 = (0 : Int))) (some (⟨#[48]⟩ : ByteArray)) (K (.p17 a0 (⟨#[]⟩ : ByteArray) (decide (a0 < (0 : Int)))))
  | .p17 y1 y2 y3 => cond (!(decide (y1 = (0 : Int)))) (cond (decide ((Int.tmod y1 (10 : Int)) < (0 : Int))) (cond (room ((ByteArray.size (ofOcts [(IntKind.wrap .u8 (IntKind.wrap .i64 ((48 : Int) + (IntKind.wrap .i64 ((0 : Int) - (Int.tmod y1 (10 : Int)))))))])) + (ByteArray.size y2))) (K (.p17 (IntKind.wrap .i64 (Int.tdiv y1 (10 : Int))) ((ofOcts [(IntKind.wrap .u8 (IntKind.wrap .i64 ((48 : Int) + (IntKind.wrap .i64 ((0 : Int) - (Int.tmod y1 (10 : Int)))))))]) ++ y2) y3)) (none)) (cond (room ((ByteArray.size (ofOcts [(IntKind.wrap .u8 (IntKind.wrap .i64 ((48 : Int) + (Int.tmod y1 (10 : Int)))))])) + (ByteArray.size y2))) (K (.p17 (IntKind.wrap .i64 (Int.tdiv y1 (10 : Int))) ((ofOcts [(IntKind.wrap .u8 (IntKind.wrap .i64 ((48 : Int) + (Int.tmod y1 (10 : Int)))))]) ++ y2) y3)) (none))) (cond y3 (cond (room ((ByteArray.size (⟨#[45]⟩ : ByteArray)) + (ByteArray.size y2))) (some ((⟨#[45]⟩ : ByteArray) ++ y2)) (none)) (some y2))
def spec_l2Num (n : Nat) (a0 : Int) : Option (Tup [.str]) := goRec spec_l2Num.step n (.p0 a0)
def spec_l2Num.spec : Ctr := ⟨28, [.v (.int .i64)], [.str], [], none, fun n x => spec_l2Num n x.1⟩
theorem spec_l2Num.seg_eq : SegEq ty gl spec_l2Num.F spec_l2Num.md spec_l2Num.T spec_l2Num.spec spec_l2Num.lb spec_l2Num.st spec_l2Num.step := by
  intro n goto y; cases y <;> kernel_rfl
theorem spec_l2Num.text : Text Go.Proofs.Tryz.prog spec_l2Num.F spec_l2Num.spec := textOf Go.Proofs.Tryz.f28
theorem spec_l2Num.ok : CtrOK Go.Proofs.Tryz.prog gl spec_l2Num.spec :=
  ctr_okS tabs spec_l2Num.text spec_l2Num.seg_eq (fun n x => ⟨.p0 x.1, rfl, rfl, rfl⟩) (nilC)

/-! loop.example/g00039/spec.l20Numbers -/
def spec_l20Numbers.T : List Ctr := [spec_l2Num.spec]
def spec_l20Numbers.md : List (Nat × List Md) := []
noncomputable def spec_l20Numbers.F : Fun := ⟨(Go.Proofs.Tryz.f29.body).getD .skip, [.v (.sl false (.int .i64))], [(.tmp 2, .str)], [], 0, [(9, ⟨[3, 6, 7, 8], [(6, (.int .i64))], [], false⟩)]⟩
inductive spec_l20Numbers.Pt where
  | p0 (a0 : List (Int))
  | p9 (y1 : ByteArray) (y2 : List (Int)) (y3 : Int) (y4 : Int)
def spec_l20Numbers.lb : spec_l20Numbers.Pt → Nat
  | .p0 _ => 0
  | .p9 _ _ _ _ => 9
def spec_l20Numbers.st : spec_l20Numbers.Pt → St
  | .p0 a0 => enter [.v (.sl false (.int .i64)) a0] 0
  | .p9 y1 y2 y3 y4 => ⟨[(3, .im .str y1), (6, .im (.sl false (.int .i64)) y2), (7, .im (.int .i64) y3), (8, .im (.int .i64) y4)], [], 0⟩
def spec_l20Numbers.step (n : Nat) (K : spec_l20Numbers.Pt → Option (Tup [.str])) : spec_l20Numbers.Pt → Option (Tup [.str])
  | .p0 a0 => K (.p9 (⟨#[]⟩ : ByteArray) a0 ((List.length a0) : Int) (0 : Int))
  | .p9 y1 y2 y3 y4 => cond (decide (y4 < y3)) (cond (inB y4 (List.length y2)) (cond (decide ((0 : Int) < y4)) (cond (room ((ByteArray.size y1) + (ByteArray.size (⟨#[44]⟩ : ByteArray)))) ((spec_l2Num n (List.getD y2 (Int.toNat y4) default)).bind fun r7 => cond (room ((ByteArray.size (y1 ++ (⟨#[44]⟩ : ByteArray))) + (ByteArray.size r7))) (K (.p9 ((y1 ++ (⟨#[44]⟩ : ByteArray)) ++ r7) y2 y3 (IntKind.wrap .i64 (y4 + (1 : Int))))) (none)) (none)) ((spec_l2Num n (List.getD y2 (Int.toNat y4) default)).bind fun r7 => cond (room ((ByteArray.size y1) + (ByteArray.size r7))) (K (.p9 (y1 ++ r7) y2 y3 (IntKind.wrap .i64 (y4 + (1 : Int))))) (none))) (none)) (some y1)
def spec_l20Numbers (n : Nat) (a0 : List (Int)) : Option (Tup [.str]) := goRec spec_l20Numbers.step n (.p0 a0)
def spec_l20Numbers.spec : Ctr := ⟨29, [.v (.sl false (.int .i64))], [.str], [], none, fun n x => spec_l20Numbers n x.1⟩
theorem spec_l20Numbers.seg_eq : SegEq ty gl spec_l20Numbers.F spec_l20Numbers.md spec_l20Numbers.T spec_l20Numbers.spec spec_l20Numbers.lb spec_l20Numbers.st spec_l20Numbers.step := by
  intro n goto y; cases y <;> kernel_rfl
theorem spec_l20Numbers.text : Text Go.Proofs.Tryz.prog spec_l20Numbers.F spec_l20Numbers.spec := textOf Go.Proofs.Tryz.f29
theorem spec_l20Numbers.ok : CtrOK Go.Proofs.Tryz.prog gl spec_l20Numbers.spec :=
  ctr_okS tabs spec_l20Numbers.text spec_l20Numbers.seg_eq (fun n x => ⟨.p0 x.1, rfl, rfl, rfl⟩) (consC spec_l2Num.ok (nilC))

/-! loop.example/g00039/spec.l20Line -/
def spec_l20Line.T : List Ctr := [spec_l2MatchersText.spec, spec_l20Joined.spec, spec_l2Num.spec, spec_l20Numbers.spec]
def spec_l20Line.md : List (Nat × List Md) := []
noncomputable def spec_l20Line.F : Fun := ⟨(Go.Proofs.Tryz.f12.body).getD .skip, [.v (.pair .str (.pair (.sl false (.pair .str (.pair (.int .i64) (.pair .str .unit)))) (.pair (.sl false .str) (.pair (.int .i64) (.pair (.int .i64) (.pair (.int .i64) (.pair (.sl false (.int .i64)) (.pair .bool (.pair (.int .i64) .unit)))))))))], [(.tmp 2, .str)], [], 0, [(5, ⟨[1, 3], [], [(1, 1, (.pair .str (.pair (.int .i64) (.pair .str .unit)))), (1, 2, .str), (1, 6, (.int .i64))], false⟩), (11, ⟨[1, 3], [], [(1, 1, (.pair .str (.pair (.int .i64) (.pair .str .unit)))), (1, 2, .str), (1, 6, (.int .i64))], false⟩)]⟩
inductive spec_l20Line.Pt where
  | p0 (a0 : (ByteArray) × ((List ((ByteArray) × ((Int) × ((ByteArray) × (Unit))))) × ((List (ByteArray)) × ((Int) × ((Int) × ((Int) × ((List (Int)) × ((Bool) × ((Int) × (Unit))))))))))
  | p5 (y1 : ByteArray) (y2 : ByteArray) (y3 : List ((ByteArray) × ((Int) × ((ByteArray) × (Unit))))) (y4 : List (ByteArray)) (y5 : Int) (y6 : Int) (y7 : Int) (y8 : List (Int)) (y9 : Bool) (y10 : Int)
  | p11 (y1 : ByteArray) (y2 : ByteArray) (y3 : List ((ByteArray) × ((Int) × ((ByteArray) × (Unit))))) (y4 : List (ByteArray)) (y5 : Int) (y6 : Int) (y7 : Int) (y8 : List (Int)) (y9 : Bool) (y10 : Int)
def spec_l20Line.lb : spec_l20Line.Pt → Nat
  | .p0 _ => 0
  | .p5 _ _ _ _ _ _ _ _ _ _ => 5
  | .p11 _ _ _ _ _ _ _ _ _ _ => 11
def spec_l20Line.st : spec_l20Line.Pt → St
  | .p0 a0 => enter [.v (.pair .str (.pair (.sl false (.pair .str (.pair (.int .i64) (.pair .str .unit)))) (.pair (.sl false .str) (.pair (.int .i64) (.pair (.int .i64) (.pair (.int .i64) (.pair (.sl false (.int .i64)) (.pair .bool (.pair (.int .i64) .unit))))))))) a0] 0
  | .p5 y1 y2 y3 y4 y5 y6 y7 y8 y9 y10 => ⟨[(1, .po 0 0), (3, .im .str y1)], [(0, .obj [.im .str y2, .im (.sl false (.pair .str (.pair (.int .i64) (.pair .str .unit)))) y3, .im (.sl false .str) y4, .im (.int .i64) y5, .im (.int .i64) y6, .im (.int .i64) y7, .im (.sl false (.int .i64)) y8, .im .bool y9, .im (.int .i64) y10])], 1⟩
  | .p11 y1 y2 y3 y4 y5 y6 y7 y8 y9 y10 => ⟨[(1, .po 0 0), (3, .im .str y1)], [(0, .obj [.im .str y2, .im (.sl false (.pair .str (.pair (.int .i64) (.pair .str .unit)))) y3, .im (.sl false .str) y4, .im (.int .i64) y5, .im (.int .i64) y6, .im (.int .i64) y7, .im (.sl false (.int .i64)) y8, .im .bool y9, .im (.int .i64) y10])], 1⟩
def spec_l20Line.step (n : Nat) (K : spec_l20Line.Pt → Option (Tup [.str])) : spec_l20Line.Pt → Option (Tup [.str])
  | .p0 a0 => cond (decide ((0 : Int) < ((List.length a0.2.1) : Int))) ((spec_l2MatchersText n a0.2.1).bind fun r4 => cond (room ((ByteArray.size (⟨#[32]⟩ : ByteArray)) + (ByteArray.size r4))) (cond (room ((ByteArray.size a0.1) + (ByteArray.size ((⟨#[32]⟩ : ByteArray) ++ r4)))) (K (.p5 (a0.1 ++ ((⟨#[32]⟩ : ByteArray) ++ r4)) a0.1 a0.2.1 a0.2.2.1 a0.2.2.2.1 a0.2.2.2.2.1 a0.2.2.2.2.2.1 a0.2.2.2.2.2.2.1 a0.2.2.2.2.2.2.2.1 a0.2.2.2.2.2.2.2.2.1)) (none)) (none)) (K (.p5 a0.1 a0.1 a0.2.1 a0.2.2.1 a0.2.2.2.1 a0.2.2.2.2.1 a0.2.2.2.2.2.1 a0.2.2.2.2.2.2.1 a0.2.2.2.2.2.2.2.1 a0.2.2.2.2.2.2.2.2.1))
  | .p5 y1 y2 y3 y4 y5 y6 y7 y8 y9 y10 => cond (decide ((0 : Int) < ((List.length y4) : Int))) ((spec_l20Joined n y4).bind fun r13 => cond (room ((ByteArray.size (⟨#[32, 98, 121, 32]⟩ : ByteArray)) + (ByteArray.size r13))) (cond (room ((ByteArray.size y1) + (ByteArray.size ((⟨#[32, 98, 121, 32]⟩ : ByteArray) ++ r13)))) (K (.p11 (y1 ++ ((⟨#[32, 98, 121, 32]⟩ : ByteArray) ++ r13)) y2 y3 y4 y5 y6 y7 y8 y9 y10)) (none)) (none)) (K (.p11 y1 y2 y3 y4 y5 y6 y7 y8 y9 y10))
  | .p11 y1 y2 y3 y4 y5 y6 y7 y8 y9 y10 => (spec_l2Num n y5).bind fun r13 => cond (room ((ByteArray.size (⟨#[32, 119, 97, 105, 116, 32]⟩ : ByteArray)) + (ByteArray.size r13))) (cond (room ((ByteArray.size ((⟨#[32, 119, 97, 105, 116, 32]⟩ : ByteArray) ++ r13)) + (ByteArray.size (⟨#[32, 101, 118, 101, 114, 121, 32]⟩ : ByteArray)))) ((spec_l2Num n y6).bind fun r14 => cond (room ((ByteArray.size (((⟨#[32, 119, 97, 105, 116, 32]⟩ : ByteArray) ++ r13) ++ (⟨#[32, 101, 118, 101, 114, 121, 32]⟩ : ByteArray))) + (ByteArray.size r14))) (cond (room ((ByteArray.size ((((⟨#[32, 119, 97, 105, 116, 32]⟩ : ByteArray) ++ r13) ++ (⟨#[32, 101, 118, 101, 114, 121, 32]⟩ : ByteArray)) ++ r14)) + (ByteArray.size (⟨#[32, 97, 103, 97, 105, 110, 32]⟩ : ByteArray)))) ((spec_l2Num n y7).bind fun r15 => cond (room ((ByteArray.size (((((⟨#[32, 119, 97, 105, 116, 32]⟩ : ByteArray) ++ r13) ++ (⟨#[32, 101, 118, 101, 114, 121, 32]⟩ : ByteArray)) ++ r14) ++ (⟨#[32, 97, 103, 97, 105, 110, 32]⟩ : ByteArray))) + (ByteArray.size r15))) (cond (room ((ByteArray.size y1) + (ByteArray.size ((((((⟨#[32, 119, 97, 105, 116, 32]⟩ : ByteArray) ++ r13) ++ (⟨#[32, 101, 118, 101, 114, 121, 32]⟩ : ByteArray)) ++ r14) ++ (⟨#[32, 97, 103, 97, 105, 110, 32]⟩ : ByteArray)) ++ r15)))) (cond (decide ((0 : Int) < ((List.length y8) : Int))) ((spec_l20Numbers n y8).bind fun r16 => cond (room ((ByteArray.size (⟨#[32, 109, 117, 116, 101, 32]⟩ : ByteArray)) + (ByteArray.size r16))) (cond (room ((ByteArray.size (y1 ++ ((((((⟨#[32, 119, 97, 105, 116, 32]⟩ : ByteArray) ++ r13) ++ (⟨#[32, 101, 118, 101, 114, 121, 32]⟩ : ByteArray)) ++ r14) ++ (⟨#[32, 97, 103, 97, 105, 110, 32]⟩ : ByteArray)) ++ r15))) + (ByteArray.size ((⟨#[32, 109, 117, 116, 101, 32]⟩ : ByteArray) ++ r16)))) (cond y9 (cond (room ((ByteArray.size ((y1 ++ ((((((⟨#[32, 119, 97, 105, 116, 32]⟩ : ByteArray) ++ r13) ++ (⟨#[32, 101, 118, 101, 114, 121, 32]⟩ : ByteArray)) ++ r14) ++ (⟨#[32, 97, 103, 97, 105, 110, 32]⟩ : ByteArray)) ++ r15)) ++ ((⟨#[32, 109, 117, 116, 101, 32]⟩ : ByteArray) ++ r16))) + (ByteArray.size (⟨#[32, 111, 110]⟩ : ByteArray)))) (some (((y1 ++ ((((((⟨#[32, 119, 97, 105, 116, 32]⟩ : ByteArray) ++ r13) ++ (⟨#[32, 101, 118, 101, 114, 121, 32]⟩ : ByteArray)) ++ r14) ++ (⟨#[32, 97, 103, 97, 105, 110, 32]⟩ : ByteArray)) ++ r15)) ++ ((⟨#[32, 109, 117, 116, 101, 32]⟩ : ByteArray) ++ r16)) ++ (⟨#[32, 111, 110]⟩ : ByteArray))) (none)) (some ((y1 ++ ((((((⟨#[32, 119, 97, 105, 116, 32]⟩ : ByteArray) ++ r13) ++ (⟨#[32, 101, 118, 101, 114, 121, 32]⟩ : ByteArray)) ++ r14) ++ (⟨#[32, 97, 103, 97, 105, 110, 32]⟩ : ByteArray)) ++ r15)) ++ ((⟨#[32, 109, 117, 116, 101, 32]⟩ : ByteArray) ++ r16)))) (none)) (none)) (cond y9 (cond (room ((ByteArray.size (y1 ++ ((((((⟨#[32, 119, 97, 105, 116, 32]⟩ : ByteArray) ++ r13) ++ (⟨#[32, 101, 118, 101, 114, 121, 32]⟩ : ByteArray)) ++ r14) ++ (⟨#[32, 97, 103, 97, 105, 110, 32]⟩ : ByteArray)) ++ r15))) + (ByteArray.size (⟨#[32, 111, 110]⟩ : ByteArray)))) (some ((y1 ++ ((((((⟨#[32, 119, 97, 105, 116, 32]⟩ : ByteArray) ++ r13) ++ (⟨#[32, 101, 118, 101, 114, 121, 32]⟩ : ByteArray)) ++ r14) ++ (⟨#[32, 97, 103, 97, 105, 110, 32]⟩ : ByteArray)) ++ r15)) ++ (⟨#[32, 111, 110]⟩ : ByteArray))) (none)) (some (y1 ++ ((((((⟨#[32, 119, 97, 105, 116, 32]⟩ : ByteArray) ++ r13) ++ (⟨#[32, 101, 118, 101, 114, 121, 32]⟩ : ByteArray)) ++ r14) ++ (⟨#[32, 97, 103, 97, 105, 110, 32]⟩ : ByteArray)) ++ r15))))) (none)) (none)) (none)) (none)) (none)) (none)
def spec_l20Line (n : Nat) (a0 : (ByteArray) × ((List ((ByteArray) × ((Int) × ((ByteArray) × (Unit))))) × ((List (ByteArray)) × ((Int) × ((Int) × ((Int) × ((List (Int)) × ((Bool) × ((Int) × (Unit)))))))))) : Option (Tup [.str]) := goRec spec_l20Line.step n (.p0 a0)
def spec_l20Line.spec : Ctr := ⟨12, [.v (.pair .str (.pair (.sl false (.pair .str (.pair (.int .i64) (.pair .str .unit)))) (.pair (.sl false .str) (.pair (.int .i64) (.pair (.int .i64) (.pair (.int .i64) (.pair (.sl false (.int .i64)) (.pair .bool (.pair (.int .i64) .unit)))))))))], [.str], [], none, fun n x => spec_l20Line n x.1⟩
theorem spec_l20Line.seg_eq : SegEq ty gl spec_l20Line.F spec_l20Line.md spec_l20Line.T spec_l20Line.spec spec_l20Line.lb spec_l20Line.st spec_l20Line.step := by
  intro n goto y; cases y <;> kernel_rfl
theorem spec_l20Line.text : Text Go.Proofs.Tryz.prog spec_l20Line.F spec_l20Line.spec := textOf Go.Proofs.Tryz.f12
theorem spec_l20Line.ok : CtrOK Go.Proofs.Tryz.prog gl spec_l20Line.spec :=
  ctr_okS tabs spec_l20Line.text spec_l20Line.seg_eq (fun n x => ⟨.p0 x.1, rfl, rfl, rfl⟩) (consC spec_l2MatchersText.ok (consC spec_l20Joined.ok (consC spec_l2Num.ok (consC spec_l20Numbers.ok (nilC)))))

/-! loop.example/g00039/spec.RoutesText -/
def spec_RoutesText.T : List Ctr := [spec_GoodRoutes.spec, spec_l20Deep.spec, spec_l20Line.spec]
def spec_RoutesText.md : List (Nat × List Md) := [(11, [.v, .v, .v, .g (.sl false (.int .i64))])]
noncomputable def spec_RoutesText.F : Fun := ⟨(Go.Proofs.Tryz.f5.body).getD .skip, [.v (.sl false (.pair .str (.pair (.sl false (.pair .str (.pair (.int .i64) (.pair .str .unit)))) (.pair (.sl false .str) (.pair (.int .i64) (.pair (.int .i64) (.pair (.int .i64) (.pair (.sl false (.int .i64)) (.pair .bool (.pair (.int .i64) .unit))))))))))], [(.tmp 2, .str)], [], 0, [(19, ⟨[3, 5, 17, 18, 19], [(3, (.int .i64)), (17, (.pair .str (.pair (.sl false (.pair .str (.pair (.int .i64) (.pair .str .unit)))) (.pair (.sl false .str) (.pair (.int .i64) (.pair (.int .i64) (.pair (.int .i64) (.pair (.sl false (.int .i64)) (.pair .bool (.pair (.int .i64) .unit))))))))))], [], false⟩), (34, ⟨[3, 5, 6, 7, 8, 17, 18, 19], [(3, (.int .i64)), (17, (.pair .str (.pair (.sl false (.pair .str (.pair (.int .i64) (.pair .str .unit)))) (.pair (.sl false .str) (.pair (.int .i64) (.pair (.int .i64) (.pair (.int .i64) (.pair (.sl false (.int .i64)) (.pair .bool (.pair (.int .i64) .unit))))))))))], [(7, 1, (.pair .str (.pair (.int .i64) (.pair .str .unit)))), (7, 2, .str), (7, 6, (.int .i64))], false⟩)]⟩
inductive spec_RoutesText.Pt where
  | p0 (a0 : List ((ByteArray) × ((List ((ByteArray) × ((Int) × ((ByteArray) × (Unit))))) × ((List (ByteArray)) × ((Int) × ((Int) × ((Int) × ((List (Int)) × ((Bool) × ((Int) × (Unit)))))))))))
  | p19 (y1 : ByteArray) (y2 : List ((ByteArray) × ((List ((ByteArray) × ((Int) × ((ByteArray) × (Unit))))) × ((List (ByteArray)) × ((Int) × ((Int) × ((Int) × ((List (Int)) × ((Bool) × ((Int) × (Unit))))))))))) (y3 : Int) (y4 : Int) (y5 : List (Int))
  | p34 (y1 : ByteArray) (y2 : Int) (y3 : Int) (y4 : List ((ByteArray) × ((List ((ByteArray) × ((Int) × ((ByteArray) × (Unit))))) × ((List (ByteArray)) × ((Int) × ((Int) × ((Int) × ((List (Int)) × ((Bool) × ((Int) × (Unit))))))))))) (y5 : Int) (y6 : Int) (y7 : List (Int)) (y8 : ByteArray) (y9 : List ((ByteArray) × ((Int) × ((ByteArray) × (Unit))))) (y10 : List (ByteArray)) (y11 : Int) (y12 : Int) (y13 : Int) (y14 : List (Int)) (y15 : Bool) (y16 : Int)
def spec_RoutesText.lb : spec_RoutesText.Pt → Nat
  | .p0 _ => 0
  | .p19 _ _ _ _ _ => 19
  | .p34 _ _ _ _ _ _ _ _ _ _ _ _ _ _ _ _ => 34
def spec_RoutesText.st : spec_RoutesText.Pt → St
  | .p0 a0 => enter [.v (.sl false (.pair .str (.pair (.sl false (.pair .str (.pair (.int .i64) (.pair .str .unit)))) (.pair (.sl false .str) (.pair (.int .i64) (.pair (.int .i64) (.pair (.int .i64) (.pair (.sl false (.int .i64)) (.pair .bool (.pair (.int .i64) .unit)))))))))) a0] 0
  | .p19 y1 y2 y3 y4 y5 => ⟨[(3, .hs 0 [] none 0), (5, .im .str y1), (17, .im (.sl false (.pair .str (.pair (.sl false (.pair .str (.pair (.int .i64) (.pair .str .unit)))) (.pair (.sl false .str) (.pair (.int .i64) (.pair (.int .i64) (.pair (.int .i64) (.pair (.sl false (.int .i64)) (.pair .bool (.pair (.int .i64) .unit)))))))))) y2), (18, .im (.int .i64) y3), (19, .im (.int .i64) y4)], [(0, .arr false (.int .i64) y5 0)], 1⟩
  | .p34 y1 y2 y3 y4 y5 y6 y7 y8 y9 y10 y11 y12 y13 y14 y15 y16 => ⟨[(3, .hs 0 [] none 0), (5, .im .str y1), (6, .im (.int .i64) y2), (7, .po 1 0), (8, .im (.int .i64) y3), (17, .im (.sl false (.pair .str (.pair (.sl false (.pair .str (.pair (.int .i64) (.pair .str .unit)))) (.pair (.sl false .str) (.pair (.int .i64) (.pair (.int .i64) (.pair (.int .i64) (.pair (.sl false (.int .i64)) (.pair .bool (.pair (.int .i64) .unit)))))))))) y4), (18, .im (.int .i64) y5), (19, .im (.int .i64) y6)], [(0, .arr false (.int .i64) y7 0), (1, .obj [.im .str y8, .im (.sl false (.pair .str (.pair (.int .i64) (.pair .str .unit)))) y9, .im (.sl false .str) y10, .im (.int .i64) y11, .im (.int .i64) y12, .im (.int .i64) y13, .im (.sl false (.int .i64)) y14, .im .bool y15, .im (.int .i64) y16])], 2⟩
def spec_RoutesText.step (n : Nat) (K : spec_RoutesText.Pt → Option (Tup [.str])) : spec_RoutesText.Pt → Option (Tup [.str])
  | .p0 a0 => (spec_GoodRoutes n a0).bind fun r4 => cond (!r4) (some (⟨#[]⟩ : ByteArray)) ((spec_l20Deep n a0 (0 : Int) (0 : Int) ([] : List (Int))).bind fun r5 => K (.p19 (⟨#[]⟩ : ByteArray) a0 ((List.length a0) : Int) (0 : Int) r5.1))
  | .p19 y1 y2 y3 y4 y5 => cond (decide (y4 < y3)) (cond (inB y4 (List.length y2)) (K (.p34 y1 y4 (0 : Int) y2 y3 y4 y5 (List.getD y2 (Int.toNat y4) default).1 (List.getD y2 (Int.toNat y4) default).2.1 (List.getD y2 (Int.toNat y4) default).2.2.1 (List.getD y2 (Int.toNat y4) default).2.2.2.1 (List.getD y2 (Int.toNat y4) default).2.2.2.2.1 (List.getD y2 (Int.toNat y4) default).2.2.2.2.2.1 (List.getD y2 (Int.toNat y4) default).2.2.2.2.2.2.1 (List.getD y2 (Int.toNat y4) default).2.2.2.2.2.2.2.1 (List.getD y2 (Int.toNat y4) default).2.2.2.2.2.2.2.2.1)) (none)) (cond (decide ((10000 : Int) < ((ByteArray.size y1) : Int))) (some (⟨#[]⟩ : ByteArray)) (some y1))
  | .p34 y1 y2 y3 y4 y5 y6 y7 y8 y9 y10 y11 y12 y13 y14 y15 y16 => cond (inB y2 (List.length y7)) (cond (decide (y3 < (List.getD y7 (0 + (Int.toNat y2)) default))) (cond (room ((ByteArray.size y1) + (ByteArray.size (⟨#[32, 32]⟩ : ByteArray)))) (K (.p34 (y1 ++ (⟨#[32, 32]⟩ : ByteArray)) y2 (IntKind.wrap .i64 (y3 + (1 : Int))) y4 y5 y6 y7 y8 y9 y10 y11 y12 y13 y14 y15 y16)) (none)) ((spec_l20Line n (y8, (y9, (y10, (y11, (y12, (y13, (y14, (y15, (y16, ())))))))))).bind fun r19 => cond (room ((ByteArray.size r19) + (ByteArray.size (⟨#[10]⟩ : ByteArray)))) (cond (room ((ByteArray.size y1) + (ByteArray.size (r19 ++ (⟨#[10]⟩ : ByteArray))))) (K (.p19 (y1 ++ (r19 ++ (⟨#[10]⟩ : ByteArray))) y4 y5 (IntKind.wrap .i64 (y6 + (1 : Int))) y7)) (none)) (none))) (none)
def spec_RoutesText (n : Nat) (a0 : List ((ByteArray) × ((List ((ByteArray) × ((Int) × ((ByteArray) × (Unit))))) × ((List (ByteArray)) × ((Int) × ((Int) × ((Int) × ((List (Int)) × ((Bool) × ((Int) × (Unit))))))))))) : Option (Tup [.str]) := goRec spec_RoutesText.step n (.p0 a0)
def spec_RoutesText.spec : Ctr := ⟨5, [.v (.sl false (.pair .str (.pair (.sl false (.pair .str (.pair (.int .i64) (.pair .str .unit)))) (.pair (.sl false .str) (.pair (.int .i64) (.pair (.int .i64) (.pair (.int .i64) (.pair (.sl false (.int .i64)) (.pair .bool (.pair (.int .i64) .unit))))))))))], [.str], [], none, fun n x => spec_RoutesText n x.1⟩
theorem spec_RoutesText.seg_eq : SegEq ty gl spec_RoutesText.F spec_RoutesText.md spec_RoutesText.T spec_RoutesText.spec spec_RoutesText.lb spec_RoutesText.st spec_RoutesText.step := by
  intro n goto y; cases y <;> kernel_rfl
theorem spec_RoutesText.text : Text Go.Proofs.Tryz.prog spec_RoutesText.F spec_RoutesText.spec := textOf Go.Proofs.Tryz.f5
theorem spec_RoutesText.ok : CtrOK Go.Proofs.Tryz.prog gl spec_RoutesText.spec :=
  ctr_okS tabs spec_RoutesText.text spec_RoutesText.seg_eq (fun n x => ⟨.p0 x.1, rfl, rfl, rfl⟩) (consC spec_GoodRoutes.ok (consC spec_l20Deep.ok (consC spec_l20Line.ok (nilC))))

/-! strings.Builder -/
section
open Go.Proofs Go.RowKit
theorem bld.size : (Tryz.prog.info? 46).map (·.size) = some 2 := by kernel_rfl
theorem bld.lies : liesAt Tryz.prog Tryz.prog.depth 46 (2 / Tryz.prog.cellsOf 46) 0 46 1 = true := by kernel_rfl
theorem bld.used (b : Nat) (w : World) (h0 : w.cell? ⟨b, 0, none⟩ = some (.pointer (some ⟨b, 0, none⟩))) :
    Calls Tryz.prog 37 #[.pointer (some ⟨b, 0, none⟩)] w fun e w' => e = .returned (.tuple #[]) ∧ w' = w := by
  obtain ⟨j, hj, hjs⟩ := Option.map_eq_some_iff.1 bld.size
  go_enter Tryz.func37, Tryz.ntmps37
  go_wp2
  rw [Lib.run_neq_ptr_same (te := 46) w _ (by kernel_rfl) hj]
  go_wp2
  go_end0
  exact ⟨rfl, rfl⟩
theorem bld.fresh (b : Nat) (w : World) (h0 : w.cell? ⟨b, 0, none⟩ = some (.pointer none)) (hsh : w.shape? b = some (46, 2)) (hfz : w.frozen? ⟨b, 0, none⟩ = false) :
    Calls Tryz.prog 37 #[.pointer (some ⟨b, 0, none⟩)] w fun e w' => e = .returned (.tuple #[]) ∧ w' = w.setCell ⟨b, 0, none⟩ (.pointer (some ⟨b, 0, none⟩)) := by
  obtain ⟨j, hj, hjs⟩ := Option.map_eq_some_iff.1 bld.size
  go_enter Tryz.func37, Tryz.ntmps37
  go_wp2
  rw [Lib.run_to_unsafe w ⟨b, 0, none⟩ (t := 46) (by kernel_rfl) (by kernel_rfl) hj (by rw [hjs]; decide) hsh (Nat.zero_lt_succ 1)]
  simp only [Result.andThen]
  rw [Oper.upon_value]
  go_wp2
  rw [run_callFunc_extern (fn := Tryz.f59) (f := 59) (by kernel_rfl) (by kernel_rfl) (by kernel_rfl) (by kernel_rfl) (e := Extern.AbiNoEscape.same) (by kernel_rfl)]
  rw [Lib.run_noEscape]
  simp only [Result.andThen]
  rw [Oper.upon_value]
  go_wp2
  rw [Lib.run_from_unsafe w ⟨b, 0, none⟩ (u := 46) (by kernel_rfl) (by kernel_rfl) hj hsh bld.lies]
  simp only [Result.andThen]
  rw [Oper.upon_value]
  go_wp2
  go_end0
  exact ⟨rfl, rfl⟩
theorem bld.byte : (Tryz.prog.info? 5).map (fun i => (i.zero, i.size, i.bytes)) = some (some (.int .u8 0), 1, 1) := by kernel_rfl
theorem bld.cc {W : World} {f : Bool} {b : Nat} {l : List Int} {F : List Nat} (h : BldAt W 46 5 f b l F) :
    Calls Tryz.prog 37 #[.pointer (some ⟨b, 0, none⟩)] W fun e w' => e = .returned (.tuple #[]) ∧ ∃ v, Bld1 W w' 46 5 b l.length l F v := by
  obtain ⟨p, v, hb, hp, how, hF, hbF, _⟩ := h
  rcases hp with rfl | rfl
  · refine (bld.fresh b W (by simp [World.cell?, hb]) (by simp [World.shape?, hb]) (by simp [World.frozen?, hb])).mono ?_
    rintro e w' ⟨rfl, rfl⟩
    exact ⟨rfl, v, bld_fresh hb how hF hbF⟩
  · refine (bld.used b W (by simp [World.cell?, hb])).mono ?_
    rintro e w' ⟨rfl, rfl⟩
    exact ⟨rfl, v, bld_used hb how hF hbF⟩
set_option maxHeartbeats 2000000 in
theorem bld.ws : BldOK Tryz.prog 46 5 16 1 := by
  refine ⟨⟨_, Tryz.func16, rfl, by decide⟩, ?_⟩
  intro f l s hroom W b F hbld
  obtain ⟨i0, hi, hz0, hz1, hz2⟩ := info_parts bld.byte
  have ecc : ∀ args w, (callFunc 37 args).run Tryz.prog w = .ok (.enter 37 args) w := enters_of Tryz.func37 (by kernel_rfl) rfl
  go_enter Tryz.func16, Tryz.ntmps16
  go_wp2_with (go_at_fn 37; refine (bld.cc hbld).mono ?_)
  rintro e w1 ⟨rfl, v, h1⟩
  have hbk := h1.1
  have how := h1.2.1
  have hF := h1.2.2.1
  have hbF := h1.2.2.2.1
  have hlt := lt_of_heap hbk
  have c0 : w1.cell? ⟨b, 0, none⟩ = some (.pointer (some ⟨b, 0, none⟩)) := by rw [Lib.cell_of_heap hbk]; rfl
  have c1 : w1.cell? ⟨b, 1, none⟩ = some v := by rw [Lib.cell_of_heap hbk]; rfl
  obtain ⟨v', w2, hr, how2, hgr, hnw⟩ := app_str (P := Tryz.prog) w1 44 9 44 5 i0 (by kernel_rfl) (by kernel_rfl) hi hz0 hz1 hz2 v l.length _ how s (by simpa [octs_lenB] using hroom)
  have hb2 : w2.heap[b]? = some (.cells #[.pointer (some ⟨b, 0, none⟩), v] 46 (0, 0)) := by
    rw [hgr.block b hlt (fun e => hbF (by rw [hF, ← e]; simp))]
    exact hbk
  have d0 : w2.cell? ⟨b, 0, none⟩ = some (.pointer (some ⟨b, 0, none⟩)) := by rw [Lib.cell_of_heap hb2]; rfl
  have d1 : w2.cell? ⟨b, 1, none⟩ = some v := by rw [Lib.cell_of_heap hb2]; rfl
  have f1 : w2.frozen? ⟨b, 1, none⟩ = false := Lib.frozen_of_heap hb2 1
  have hfin := bld_done (m := octs s) (by decide) h1 hb2 (by rw [octs_cells, octs_lenB]; exact how2) hgr hnw
  obtain ⟨ao, n', cap, rfl⟩ : ∃ ao n' cap, v' = .slice ao n' cap := by
    rcases how2.2 with ⟨hv, _⟩ | ⟨g, cap, cur, hv, _⟩
    · exact ⟨_, _, _, hv⟩
    · exact ⟨_, _, _, hv⟩
  clear h1 hF hbF hgr hnw how2 how
  go_wp2_with (at_builtin; refine wpList_app hr (.tmp 12) (.tmp 13) rfl rfl rfl rfl rfl ?_)
  go_ret2
  obtain ⟨F', g1, g2, g3⟩ := hfin
  exact ⟨_, F', rfl, trivial, g1, g2, g3⟩
set_option maxHeartbeats 2000000 in
theorem bld.st : BldOK Tryz.prog 46 5 20 2 := by
  refine ⟨⟨_, Tryz.func20, rfl, by decide⟩, ?_⟩
  intro W b f l F hbld hroom
  obtain ⟨p, v, hb, hp, how, hF, hbF, hff⟩ := hbld
  have hfr0 : BldFr W W.drew (b :: F) := ⟨rfl, rfl, rfl, Nat.le_refl _, fun _ _ _ => rfl⟩
  rcases how.2 with ⟨rfl, hl⟩ | ⟨g, cap, cur, rfl, _, hg, hnc, hcm, hcs, htake⟩
  · have hl : l = [] := List.eq_nil_of_length_eq_zero hl
    subst hl
    have c1 : W.drew.cell? ⟨b, 1, none⟩ = some (.slice none 0 0) := by
      have : W.drew.heap[b]? = _ := hb
      rw [Lib.cell_of_heap this]; rfl
    have hUS := fun q => Lib.run_unsafeString_none (P := Tryz.prog) W.drew 76 3 9 q
    have hSD : (Builtin.unsafeSliceData_ #[44] 76 #[.slice none 0 0]).run Tryz.prog W.drew = .ok (.pointer none) W.drew := rfl
    clear hff hF hbF how hp
    have mixed : Tryz.prog.follows .mixedOrders = true := by kernel_rfl
    go_enter Tryz.func20, Tryz.ntmps20
    go_wp2
    go_region_o
    all_goals (go_wp2; go_ret; exact ⟨rfl, hfr0⟩)
  · have hgF : g ∈ F := by rw [hF]; simp [Value.ownBlock]
    by_cases hl0 : l = []
    · subst hl0
      by_cases hc0 : cap = 0
      · subst hc0
        have hlt := lt_of_heap hb
        have hUS := fun q (W' : World) => Lib.run_unsafeString_none (P := Tryz.prog) W' 76 3 9 q
        have c1 : W.drew.cell? ⟨b, 1, none⟩ = some (.slice (some ⟨g, 0, none⟩) 0 0) := by
          have : W.drew.heap[b]? = _ := hb
          rw [Lib.cell_of_heap this]; rfl
        have hSD : (Builtin.unsafeSliceData_ #[44] 76 #[.slice (some ⟨g, 0, none⟩) 0 0]).run Tryz.prog W.drew = .ok (.pointer (some ⟨W.drew.heap.size, 0, none⟩)) (W.drew.alloc (.view ⟨g, 0, none⟩ 5)) :=
          Lib.run_unsafeSliceData_zero W.drew _ _ 5 (by kernel_rfl) ⟨g, 0, none⟩ 0 (5, cur.size) (by have hg' : W.drew.heap[g]? = some (.cells cur 5 (0, 0)) := hg; simp [World.shape?, hg'])
        have c2 : (W.drew.alloc (.view ⟨g, 0, none⟩ 5)).cell? ⟨b, 1, none⟩ = some (.slice (some ⟨g, 0, none⟩) 0 0) := by
          have : (W.drew.alloc (.view ⟨g, 0, none⟩ 5)).heap[b]? = _ := (Lib.alloc_old W.drew _ b hlt).trans hb
          rw [Lib.cell_of_heap this]; rfl
        have c3 : (W.alloc (.view ⟨g, 0, none⟩ 5)).drew.cell? ⟨b, 1, none⟩ = some (.slice (some ⟨g, 0, none⟩) 0 0) := c2
        have c0 : W.cell? ⟨b, 1, none⟩ = some (.slice (some ⟨g, 0, none⟩) 0 0) := c1
        have hfr1 : BldFr W (W.drew.alloc (.view ⟨g, 0, none⟩ 5)) (b :: F) := ⟨rfl, rfl, rfl, by rw [alloc_sz]; exact Nat.le_succ _, fun k hk _ => alloc_old W.drew _ hk⟩
        clear hff hF hbF how hp hg htake hcs hcm hnc hgF
        have mixed : Tryz.prog.follows .mixedOrders = true := by kernel_rfl
        go_enter Tryz.func20, Tryz.ntmps20
        go_wp2
        go_region_o
        all_goals (go_wp2; go_ret; exact ⟨rfl, hfr1⟩)
      · have c1 : W.drew.cell? ⟨b, 1, none⟩ = some (.slice (some ⟨g, 0, none⟩) 0 cap) := by
          have : W.drew.heap[b]? = _ := hb
          rw [Lib.cell_of_heap this]; rfl
        have hUS := fun q => Lib.run_unsafeString_none (P := Tryz.prog) W.drew 76 3 9 q
        have hSD : (Builtin.unsafeSliceData_ #[44] 76 #[.slice (some ⟨g, 0, none⟩) 0 cap]).run Tryz.prog W.drew = .ok (.pointer (some ⟨g, 0, none⟩)) W.drew := Lib.run_unsafeSliceData_row _ _ _ _ _ _ hc0
        clear hff hF hbF how hp hg htake hcs hcm hnc hgF hc0
        have mixed : Tryz.prog.follows .mixedOrders = true := by kernel_rfl
        go_enter Tryz.func20, Tryz.ntmps20
        go_wp2
        go_region_o
        all_goals (go_wp2; go_ret; exact ⟨rfl, hfr0⟩)
    · have hl1 : l.length ≠ 0 := by simpa using hl0
      have c1 : W.drew.cell? ⟨b, 1, none⟩ = some (.slice (some ⟨g, 0, none⟩) l.length cap) := by
        have : W.drew.heap[b]? = _ := hb
        rw [Lib.cell_of_heap this]; rfl
      have hSD : (Builtin.unsafeSliceData_ #[44] 76 #[.slice (some ⟨g, 0, none⟩) l.length cap]).run Tryz.prog W.drew = .ok (.pointer (some ⟨g, 0, none⟩)) W.drew := Lib.run_unsafeSliceData_row _ _ _ _ _ _ (by omega)
      have hUS : (Builtin.unsafeString_ #[76, 3] 9 #[.pointer (some ⟨g, 0, none⟩), .int .i64 l.length]).run Tryz.prog W.drew = .ok (.string (ofOcts l)) (W.drew.freeze ⟨g, 0, none⟩ l.length) := by
        refine run_unsafeString_rowI W.drew 76 3 9 5 (by kernel_rfl) (by kernel_rfl) g cur.size (by have hg' : W.drew.heap[g]? = some (.cells cur 5 (0, 0)) := hg; simp [World.shape?, hg']) l hl0 (by omega) (by omega) ?_
        intro j x hx
        have := how.cells (g := g) rfl j (.int .u8 x) (by simp [hx])
        exact this
      have hfr2 := bld_frz (W := W) (b := b) (n := l.length) hgF
      clear hff hF hbF how hp hg htake hcs hcm hnc hgF hl1 hl0
      have mixed : Tryz.prog.follows .mixedOrders = true := by kernel_rfl
      go_enter Tryz.func20, Tryz.ntmps20
      go_wp2
      go_region_o
      all_goals (go_wp2; go_ret; exact ⟨rfl, hfr2⟩)
set_option maxHeartbeats 2000000 in
theorem bld.ln : BldOK Tryz.prog 46 5 19 3 := by
  refine ⟨⟨_, Tryz.func19, rfl, by decide⟩, ?_⟩
  intro f l hroom W b F hbld
  obtain ⟨p, v, hb, hp, how, hF, hbF, hff⟩ := hbld
  have c1 : W.cell? ⟨b, 1, none⟩ = some v := by rw [Lib.cell_of_heap hb]; rfl
  have hlen : ∃ a cap, v = .slice a l.length cap := by
    rcases how.2 with ⟨hv, hn⟩ | ⟨g, cap, cur, hv, _⟩
    · exact ⟨_, _, by rw [hv, hn]⟩
    · exact ⟨_, _, hv⟩
  have hfin : ∃ F', BldAt W 46 5 false b l F' ∧ BldFr W W (b :: F) ∧ ∀ x ∈ F', x < W.heap.size ∧ (x < W.heap.size → x ∈ F) :=
    ⟨F, ⟨p, v, hb, hp, how, hF, hbF, fun h => by cases h⟩, ⟨rfl, rfl, rfl, Nat.le_refl _, fun _ _ _ => rfl⟩, fun x hx => ⟨(how.lt x (by simpa [hF] using hx)).2, fun _ => hx⟩⟩
  obtain ⟨a, cap, rfl⟩ := hlen
  clear hff hF hbF how hp hb
  go_enter Tryz.func19, Tryz.ntmps19
  go_wp2
  go_ret
  obtain ⟨F', g1, g2, g3⟩ := hfin
  exact ⟨_, F', rfl, rfl, g1, g2, g3⟩
theorem bld.all {md : List (Nat × List Md)} (h : md.all (fun x => match x.2 with | [.bl k T t] => ([(16, 1, 46, 5), (20, 2, 46, 5), (19, 3, 46, 5)] : List (Nat × Nat × Nat × Nat)).any (fun w => decide (w = (x.1, k, T, t))) | _ => true) = true) : BlsOK Tryz.prog md :=
  blsAll _ (by
    intro w hw
    simp only [List.mem_cons, List.not_mem_nil] at hw
    repeat (first | (exact hw.elim) | (rcases hw with rfl | hw; · first | exact bld.wb | exact bld.ws | exact bld.st | exact bld.ln))) h
end


/-! loop.example/g00039/impl.depths$1 -/
def impl_depths_1.T : List Ctr := []
def impl_depths_1.md : List (Nat × List Md) := [(36, [.v, .p (.sl true (.int .i64)), .q (.sl false (.pair .str (.pair (.sl false (.pair .str (.pair (.int .i64) (.pair .str .unit)))) (.pair (.sl false .str) (.pair (.int .i64) (.pair (.int .i64) (.pair (.int .i64) (.pair (.sl false (.int .i64)) (.pair .bool (.pair (.int .i64) .unit)))))))))), .me 36 1]), (1000036, [.p (.sl true (.int .i64)), .q (.sl false (.pair .str (.pair (.sl false (.pair .str (.pair (.int .i64) (.pair .str .unit)))) (.pair (.sl false .str) (.pair (.int .i64) (.pair (.int .i64) (.pair (.int .i64) (.pair (.sl false (.int .i64)) (.pair .bool (.pair (.int .i64) .unit)))))))))), .me 36 1])]
noncomputable def impl_depths_1.F : Fun := ⟨(Go.Proofs.Tryz.f36.body).getD .skip, [.v (.int .i64), .p (.sl true (.int .i64)), .q (.sl false (.pair .str (.pair (.sl false (.pair .str (.pair (.int .i64) (.pair .str .unit)))) (.pair (.sl false .str) (.pair (.int .i64) (.pair (.int .i64) (.pair (.int .i64) (.pair (.sl false (.int .i64)) (.pair .bool (.pair (.int .i64) .unit)))))))))), .me 36 1], [(.tmp 5, .bool)], [some (.sl true (.int .i64))], 1, [(4, ⟨[0, 1, 2, 3, 15], [], [], false⟩), (16, ⟨[0, 3, 6, 31], [], [], false⟩), (27, ⟨[0, 3, 32, 33], [], [], false⟩)]⟩
inductive impl_depths_1.Pt where
  | p0 (a0 : Int) (a1 : List (Int)) (a2 : List ((ByteArray) × ((List ((ByteArray) × ((Int) × ((ByteArray) × (Unit))))) × ((List (ByteArray)) × ((Int) × ((Int) × ((Int) × ((List (Int)) × ((Bool) × ((Int) × (Unit))))))))))) (a3 : Unit)
  | p4 (y1 : Int) (y2 : Bool) (y3 : List ((ByteArray) × ((List ((ByteArray) × ((Int) × ((ByteArray) × (Unit))))) × ((List (ByteArray)) × ((Int) × ((Int) × ((Int) × ((List (Int)) × ((Bool) × ((Int) × (Unit))))))))))) (y4 : List (Int))
  | p16 (y1 : Int) (y2 : Int) (y3 : Bool) (y4 : List ((ByteArray) × ((List ((ByteArray) × ((Int) × ((ByteArray) × (Unit))))) × ((List (ByteArray)) × ((Int) × ((Int) × ((Int) × ((List (Int)) × ((Bool) × ((Int) × (Unit))))))))))) (y5 : List (Int))
  | p27 (y1 : Int) (y2 : Int) (y3 : Int) (y4 : List ((ByteArray) × ((List ((ByteArray) × ((Int) × ((ByteArray) × (Unit))))) × ((List (ByteArray)) × ((Int) × ((Int) × ((Int) × ((List (Int)) × ((Bool) × ((Int) × (Unit))))))))))) (y5 : List (Int))
def impl_depths_1.lb : impl_depths_1.Pt → Nat
  | .p0 _ _ _ _ => 0
  | .p4 _ _ _ _ => 4
  | .p16 _ _ _ _ _ => 16
  | .p27 _ _ _ _ _ => 27
def impl_depths_1.st : impl_depths_1.Pt → St
  | .p0 a0 a1 a2 a3 => enter [.v (.int .i64) a0, .p (.sl true (.int .i64)) a1, .q (.sl false (.pair .str (.pair (.sl false (.pair .str (.pair (.int .i64) (.pair .str .unit)))) (.pair (.sl false .str) (.pair (.int .i64) (.pair (.int .i64) (.pair (.int .i64) (.pair (.sl false (.int .i64)) (.pair .bool (.pair (.int .i64) .unit)))))))))) a2, .me 36 1] 1
  | .p4 y1 y2 y3 y4 => ⟨[(0, .im (.int .i64) y1), (1, .po 0 0), (2, .po 1 0), (3, .px 36 [.po 0 0, .po 1 0] 3), (15, .im .bool y2)], [(0, .obj [.hs 2 [] none 0]), (1, .imm (.sl false (.pair .str (.pair (.sl false (.pair .str (.pair (.int .i64) (.pair .str .unit)))) (.pair (.sl false .str) (.pair (.int .i64) (.pair (.int .i64) (.pair (.int .i64) (.pair (.sl false (.int .i64)) (.pair .bool (.pair (.int .i64) .unit)))))))))) y3), (2, .arr true (.int .i64) y4 0)], 3⟩
  | .p16 y1 y2 y3 y4 y5 => ⟨[(0, .im (.int .i64) y1), (3, .px 36 [.po 0 0, .po 1 0] 3), (6, .im (.int .i64) y2), (31, .im .bool y3)], [(0, .obj [.hs 2 [] none 0]), (1, .imm (.sl false (.pair .str (.pair (.sl false (.pair .str (.pair (.int .i64) (.pair .str .unit)))) (.pair (.sl false .str) (.pair (.int .i64) (.pair (.int .i64) (.pair (.int .i64) (.pair (.sl false (.int .i64)) (.pair .bool (.pair (.int .i64) .unit)))))))))) y4), (2, .arr true (.int .i64) y5 0)], 3⟩
  | .p27 y1 y2 y3 y4 y5 => ⟨[(0, .im (.int .i64) y1), (3, .px 36 [.po 0 0, .po 1 0] 3), (32, .im (.int .i64) y2), (33, .im (.int .i64) y3)], [(0, .obj [.hs 2 [] none 0]), (1, .imm (.sl false (.pair .str (.pair (.sl false (.pair .str (.pair (.int .i64) (.pair .str .unit)))) (.pair (.sl false .str) (.pair (.int .i64) (.pair (.int .i64) (.pair (.int .i64) (.pair (.sl false (.int .i64)) (.pair .bool (.pair (.int .i64) .unit)))))))))) y4), (2, .arr true (.int .i64) y5 0)], 3⟩
def impl_depths_1.step (n : Nat) (self : Ty.Els [.v (.int .i64), .p (.sl true (.int .i64)), .q (.sl false (.pair .str (.pair (.sl false (.pair .str (.pair (.int .i64) (.pair .str .unit)))) (.pair (.sl false .str) (.pair (.int .i64) (.pair (.int .i64) (.pair (.int .i64) (.pair (.sl false (.int .i64)) (.pair .bool (.pair (.int .i64) .unit)))))))))), .me 36 1] → Option (Tup [.bool, (.sl true (.int .i64))])) (K : impl_depths_1.Pt → Option (Tup [.bool, (.sl true (.int .i64))])) : impl_depths_1.Pt → Option (Tup [.bool, (.sl true (.int .i64))])
  | .p0 a0 a1 a2 a3 => cond (decide (((List.length a1) : Int) = ((List.length a2) : Int))) (K (.p4 a0 true a2 a1)) (K (.p4 a0 (decide ((8 : Int) ≤ a0)) a2 a1))
  | .p4 y1 y2 y3 y4 => cond y2 (some (false, y4)) (cond (inB ((List.length y4) : Int) (List.length y3)) (cond (room ((List.length y4) + (List.length [y1]))) (cond (decide ((List.getD y3 (Int.toNat ((List.length y4) : Int)) default).2.2.2.2.2.2.2.2.1 < (0 : Int))) (K (.p16 y1 (List.getD y3 (Int.toNat ((List.length y4) : Int)) default).2.2.2.2.2.2.2.2.1 true y3 (y4 ++ [y1]))) (K (.p16 y1 (List.getD y3 (Int.toNat ((List.length y4) : Int)) default).2.2.2.2.2.2.2.2.1 (decide ((40 : Int) < (List.getD y3 (Int.toNat ((List.length y4) : Int)) default).2.2.2.2.2.2.2.2.1)) y3 (y4 ++ [y1])))) (none)) (none))
  | .p16 y1 y2 y3 y4 y5 => cond y3 (some (false, y5)) (K (.p27 y1 y2 (0 : Int) y4 y5))
  | .p27 y1 y2 y3 y4 y5 => cond (decide (y3 < y2)) ((self ((IntKind.wrap .i64 (y1 + (1 : Int))), y5, (List.getD [y4] 0 default), (), ())).bind fun r8 => cond (!r8.1) (some (false, r8.2)) (K (.p27 y1 y2 (IntKind.wrap .i64 (y3 + (1 : Int))) y4 r8.2))) (some (true, y5))
def impl_depths_1 (n : Nat) (a0 : Int) (a1 : List (Int)) (a2 : List ((ByteArray) × ((List ((ByteArray) × ((Int) × ((ByteArray) × (Unit))))) × ((List (ByteArray)) × ((Int) × ((Int) × ((Int) × ((List (Int)) × ((Bool) × ((Int) × (Unit))))))))))) (a3 : Unit) : Option (Tup [.bool, (.sl true (.int .i64))]) := goRec (fun n K => impl_depths_1.step n (fun x => K (.p0 x.1 x.2.1 x.2.2.1 x.2.2.2.1)) K) n (.p0 a0 a1 a2 a3)
def impl_depths_1.spec : Ctr := ⟨36, [.v (.int .i64), .p (.sl true (.int .i64)), .q (.sl false (.pair .str (.pair (.sl false (.pair .str (.pair (.int .i64) (.pair .str .unit)))) (.pair (.sl false .str) (.pair (.int .i64) (.pair (.int .i64) (.pair (.int .i64) (.pair (.sl false (.int .i64)) (.pair .bool (.pair (.int .i64) .unit)))))))))), .me 36 1], [.bool], [(.sl true (.int .i64))], none, fun n x => impl_depths_1 n x.1 x.2.1 x.2.2.1 x.2.2.2.1⟩
theorem impl_depths_1.seg_eq (n : Nat) (φ : Ty.Els [.v (.int .i64), .p (.sl true (.int .i64)), .q (.sl false (.pair .str (.pair (.sl false (.pair .str (.pair (.int .i64) (.pair .str .unit)))) (.pair (.sl false .str) (.pair (.int .i64) (.pair (.int .i64) (.pair (.int .i64) (.pair (.sl false (.int .i64)) (.pair .bool (.pair (.int .i64) .unit)))))))))), .me 36 1] → Option (Tup [.bool, (.sl true (.int .i64))])) (goto : Nat → St → Option (Tup [.bool, (.sl true (.int .i64))])) (y : impl_depths_1.Pt) : seg ⟨ty, gl, impl_depths_1.md, calOf (impl_depths_1.spec.at φ :: impl_depths_1.T) n⟩ impl_depths_1.F.np impl_depths_1.F.ks goto (impl_depths_1.F.fin ⟨ty, gl, impl_depths_1.md, calOf impl_depths_1.T 0⟩ [.bool, (.sl true (.int .i64))] none) impl_depths_1.F.c (impl_depths_1.lb y) (impl_depths_1.st y) = impl_depths_1.step n φ (fun z => goto (impl_depths_1.lb z) (impl_depths_1.st z)) y := by
  cases y <;> kernel_rfl
theorem impl_depths_1.text : Text Go.Proofs.Tryz.prog impl_depths_1.F impl_depths_1.spec := textOf Go.Proofs.Tryz.f36
theorem impl_depths_1.ok : CtrOK Go.Proofs.Tryz.prog gl impl_depths_1.spec :=
  ctr_rec (T := impl_depths_1.T) (F := impl_depths_1.F) (lb := impl_depths_1.lb) (st := impl_depths_1.st) (ent := fun x => .p0 x.1 x.2.1 x.2.2.1 x.2.2.2.1) (stp := impl_depths_1.step) (md := impl_depths_1.md) tabs impl_depths_1.text impl_depths_1.seg_eq (fun _ => ⟨rfl, rfl⟩) (fun _ _ => rfl) (nilC)

/-! loop.example/g00039/impl.depths -/
def impl_depths.T : List Ctr := [impl_depths_1.spec]
def impl_depths.md : List (Nat × List Md) := [(36, [.v, .p (.sl true (.int .i64)), .q (.sl false (.pair .str (.pair (.sl false (.pair .str (.pair (.int .i64) (.pair .str .unit)))) (.pair (.sl false .str) (.pair (.int .i64) (.pair (.int .i64) (.pair (.int .i64) (.pair (.sl false (.int .i64)) (.pair .bool (.pair (.int .i64) .unit)))))))))), .me 36 1]), (1000036, [.p (.sl true (.int .i64)), .q (.sl false (.pair .str (.pair (.sl false (.pair .str (.pair (.int .i64) (.pair .str .unit)))) (.pair (.sl false .str) (.pair (.int .i64) (.pair (.int .i64) (.pair (.int .i64) (.pair (.sl false (.int .i64)) (.pair .bool (.pair (.int .i64) .unit)))))))))), .me 36 1])]
noncomputable def impl_depths.F : Fun := ⟨(Go.Proofs.Tryz.f15.body).getD .skip, [.v (.sl false (.pair .str (.pair (.sl false (.pair .str (.pair (.int .i64) (.pair .str .unit)))) (.pair (.sl false .str) (.pair (.int .i64) (.pair (.int .i64) (.pair (.int .i64) (.pair (.sl false (.int .i64)) (.pair .bool (.pair (.int .i64) .unit))))))))))], [(.tmp 2, (.sl true (.int .i64)))], [], 0, [(4, ⟨[1, 12], [], [(1, 0, (.pair .str (.pair (.sl false (.pair .str (.pair (.int .i64) (.pair .str .unit)))) (.pair (.sl false .str) (.pair (.int .i64) (.pair (.int .i64) (.pair (.int .i64) (.pair (.sl false (.int .i64)) (.pair .bool (.pair (.int .i64) .unit))))))))))], false⟩)]⟩
inductive impl_depths.Pt where
  | p0 (a0 : List ((ByteArray) × ((List ((ByteArray) × ((Int) × ((ByteArray) × (Unit))))) × ((List (ByteArray)) × ((Int) × ((Int) × ((Int) × ((List (Int)) × ((Bool) × ((Int) × (Unit)))))))))))
  | p4 (y1 : Bool) (y2 : List ((ByteArray) × ((List ((ByteArray) × ((Int) × ((ByteArray) × (Unit))))) × ((List (ByteArray)) × ((Int) × ((Int) × ((Int) × ((List (Int)) × ((Bool) × ((Int) × (Unit)))))))))))
def impl_depths.lb : impl_depths.Pt → Nat
  | .p0 _ => 0
  | .p4 _ _ => 4
def impl_depths.st : impl_depths.Pt → St
  | .p0 a0 => enter [.v (.sl false (.pair .str (.pair (.sl false (.pair .str (.pair (.int .i64) (.pair .str .unit)))) (.pair (.sl false .str) (.pair (.int .i64) (.pair (.int .i64) (.pair (.int .i64) (.pair (.sl false (.int .i64)) (.pair .bool (.pair (.int .i64) .unit)))))))))) a0] 0
  | .p4 y1 y2 => ⟨[(1, .po 0 0), (12, .im .bool y1)], [(0, .obj [.im (.sl false (.pair .str (.pair (.sl false (.pair .str (.pair (.int .i64) (.pair .str .unit)))) (.pair (.sl false .str) (.pair (.int .i64) (.pair (.int .i64) (.pair (.int .i64) (.pair (.sl false (.int .i64)) (.pair .bool (.pair (.int .i64) .unit)))))))))) y2])], 1⟩
def impl_depths.step (n : Nat) (K : impl_depths.Pt → Option (Tup [(.sl true (.int .i64))])) : impl_depths.Pt → Option (Tup [(.sl true (.int .i64))])
  | .p0 a0 => cond (decide (((List.length a0) : Int) = (0 : Int))) (K (.p4 true a0)) (K (.p4 (decide ((40 : Int) < ((List.length a0) : Int))) a0))
  | .p4 y1 y2 => cond y1 (some ([] : List (Int))) ((impl_depths_1 n (0 : Int) ([] : List (Int)) y2 ()).bind fun r5 => cond (!r5.1) (some ([] : List (Int))) (cond (!(decide (((List.length r5.2) : Int) = ((List.length y2) : Int)))) (some ([] : List (Int))) (some r5.2)))
def impl_depths (n : Nat) (a0 : List ((ByteArray) × ((List ((ByteArray) × ((Int) × ((ByteArray) × (Unit))))) × ((List (ByteArray)) × ((Int) × ((Int) × ((Int) × ((List (Int)) × ((Bool) × ((Int) × (Unit))))))))))) : Option (Tup [(.sl true (.int .i64))]) := goRec impl_depths.step n (.p0 a0)
def impl_depths.spec : Ctr := ⟨15, [.v (.sl false (.pair .str (.pair (.sl false (.pair .str (.pair (.int .i64) (.pair .str .unit)))) (.pair (.sl false .str) (.pair (.int .i64) (.pair (.int .i64) (.pair (.int .i64) (.pair (.sl false (.int .i64)) (.pair .bool (.pair (.int .i64) .unit))))))))))], [(.sl true (.int .i64))], [], none, fun n x => impl_depths n x.1⟩
theorem impl_depths.seg_eq : SegEq ty gl impl_depths.F impl_depths.md impl_depths.T impl_depths.spec impl_depths.lb impl_depths.st impl_depths.step := by
  intro n goto y; cases y <;> kernel_rfl
theorem impl_depths.text : Text Go.Proofs.Tryz.prog impl_depths.F impl_depths.spec := textOf Go.Proofs.Tryz.f15
theorem impl_depths.ok : CtrOK Go.Proofs.Tryz.prog gl impl_depths.spec :=
  ctr_okS tabs impl_depths.text impl_depths.seg_eq (fun n x => ⟨.p0 x.1, rfl, rfl, rfl⟩) (consC impl_depths_1.ok (nilC))

/-! loop.example/g00039/impl.digitByte -/
def impl_digitByte.T : List Ctr := []
def impl_digitByte.md : List (Nat × List Md) := []
noncomputable def impl_digitByte.F : Fun := ⟨(Go.Proofs.Tryz.f72.body).getD .skip, [.v (.int .u8)], [(.tmp 2, .bool)], [], 0, []⟩
inductive impl_digitByte.Pt where
  | p0 (a0 : Int)
def impl_digitByte.lb : impl_digitByte.Pt → Nat
  | .p0 _ => 0
def impl_digitByte.st : impl_digitByte.Pt → St
  | .p0 a0 => enter [.v (.int .u8) a0] 0
def impl_digitByte.step (n : Nat) (K : impl_digitByte.Pt → Option (Tup [.bool])) : impl_digitByte.Pt → Option (Tup [.bool])
  | .p0 a0 => cond (decide ((48 : Int) ≤ a0)) (some (decide (a0 ≤ (57 : Int)))) (some false)
def impl_digitByte (n : Nat) (a0 : Int) : Option (Tup [.bool]) := goRec impl_digitByte.step n (.p0 a0)
def impl_digitByte.spec : Ctr := ⟨72, [.v (.int .u8)], [.bool], [], none, fun n x => impl_digitByte n x.1⟩
theorem impl_digitByte.seg_eq : SegEq ty gl impl_digitByte.F impl_digitByte.md impl_digitByte.T impl_digitByte.spec impl_digitByte.lb impl_digitByte.st impl_digitByte.step := by
  intro n goto y; cases y <;> kernel_rfl
theorem impl_digitByte.text : Text Go.Proofs.Tryz.prog impl_digitByte.F impl_digitByte.spec := textOf Go.Proofs.Tryz.f72
theorem impl_digitByte.ok : CtrOK Go.Proofs.Tryz.prog gl impl_digitByte.spec :=
  ctr_okS tabs impl_digitByte.text impl_digitByte.seg_eq (fun n x => ⟨.p0 x.1, rfl, rfl, rfl⟩) (nilC)

/-! loop.example/g00039/impl.letterByte -/
def impl_letterByte.T : List Ctr := []
def impl_letterByte.md : List (Nat × List Md) := []
noncomputable def impl_letterByte.F : Fun := ⟨(Go.Proofs.Tryz.f88.body).getD .skip, [.v (.int .u8)], [(.tmp 2, .bool)], [], 0, []⟩
inductive impl_letterByte.Pt where
  | p0 (a0 : Int)
def impl_letterByte.lb : impl_letterByte.Pt → Nat
  | .p0 _ => 0
def impl_letterByte.st : impl_letterByte.Pt → St
  | .p0 a0 => enter [.v (.int .u8) a0] 0
def impl_letterByte.step (n : Nat) (K : impl_letterByte.Pt → Option (Tup [.bool])) : impl_letterByte.Pt → Option (Tup [.bool])
  | .p0 a0 => cond (decide ((97 : Int) ≤ a0)) (cond (decide (a0 ≤ (122 : Int))) (some true) (cond (decide ((65 : Int) ≤ a0)) (some (decide (a0 ≤ (90 : Int)))) (some false))) (cond (decide ((65 : Int) ≤ a0)) (some (decide (a0 ≤ (90 : Int)))) (some false))
def impl_letterByte (n : Nat) (a0 : Int) : Option (Tup [.bool]) := goRec impl_letterByte.step n (.p0 a0)
def impl_letterByte.spec : Ctr := ⟨88, [.v (.int .u8)], [.bool], [], none, fun n x => impl_letterByte n x.1⟩
theorem impl_letterByte.seg_eq : SegEq ty gl impl_letterByte.F impl_letterByte.md impl_letterByte.T impl_letterByte.spec impl_letterByte.lb impl_letterByte.st impl_letterByte.step := by
  intro n goto y; cases y <;> kernel_rfl
theorem impl_letterByte.text : Text Go.Proofs.Tryz.prog impl_letterByte.F impl_letterByte.spec := textOf Go.Proofs.Tryz.f88
theorem impl_letterByte.ok : CtrOK Go.Proofs.Tryz.prog gl impl_letterByte.spec :=
  ctr_okS tabs impl_letterByte.text impl_letterByte.seg_eq (fun n x => ⟨.p0 x.1, rfl, rfl, rfl⟩) (nilC)

/-! loop.example/g00039/impl.wordByte -/
def impl_wordByte.T : List Ctr := [impl_digitByte.spec, impl_letterByte.spec]
def impl_wordByte.md : List (Nat × List Md) := []
noncomputable def impl_wordByte.F : Fun := ⟨(Go.Proofs.Tryz.f73.body).getD .skip, [.v (.int .u8)], [(.tmp 2, .bool)], [], 0, []⟩
inductive impl_wordByte.Pt where
  | p0 (a0 : Int)
def impl_wordByte.lb : impl_wordByte.Pt → Nat
  | .p0 _ => 0
def impl_wordByte.st : impl_wordByte.Pt → St
  | .p0 a0 => enter [.v (.int .u8) a0] 0
def impl_wordByte.step (n : Nat) (K : impl_wordByte.Pt → Option (Tup [.bool])) : impl_wordByte.Pt → Option (Tup [.bool])
  | .p0 a0 => (impl_letterByte n a0).bind fun r4 => cond r4 (some true) ((impl_digitByte n a0).bind fun r5 => cond r5 (some true) (some (decide (a0 = (95 : Int)))))
def impl_wordByte (n : Nat) (a0 : Int) : Option (Tup [.bool]) := goRec impl_wordByte.step n (.p0 a0)
def impl_wordByte.spec : Ctr := ⟨73, [.v (.int .u8)], [.bool], [], none, fun n x => impl_wordByte n x.1⟩
theorem impl_wordByte.seg_eq : SegEq ty gl impl_wordByte.F impl_wordByte.md impl_wordByte.T impl_wordByte.spec impl_wordByte.lb impl_wordByte.st impl_wordByte.step := by
  intro n goto y; cases y <;> kernel_rfl
theorem impl_wordByte.text : Text Go.Proofs.Tryz.prog impl_wordByte.F impl_wordByte.spec := textOf Go.Proofs.Tryz.f73
theorem impl_wordByte.ok : CtrOK Go.Proofs.Tryz.prog gl impl_wordByte.spec :=
  ctr_okS tabs impl_wordByte.text impl_wordByte.seg_eq (fun n x => ⟨.p0 x.1, rfl, rfl, rfl⟩) (consC impl_digitByte.ok (consC impl_letterByte.ok (nilC)))

/-! loop.example/g00039/impl.isName -/
def impl_isName.T : List Ctr := [impl_digitByte.spec, impl_wordByte.spec]
def impl_isName.md : List (Nat × List Md) := []
noncomputable def impl_isName.F : Fun := ⟨(Go.Proofs.Tryz.f54.body).getD .skip, [.v .str], [(.tmp 2, .bool)], [], 0, [(4, ⟨[0, 15], [], [], false⟩), (15, ⟨[0, 17, 18], [], [], false⟩)]⟩
inductive impl_isName.Pt where
  | p0 (a0 : ByteArray)
  | p4 (y1 : ByteArray) (y2 : Bool)
  | p15 (y1 : ByteArray) (y2 : Int) (y3 : Int)
def impl_isName.lb : impl_isName.Pt → Nat
  | .p0 _ => 0
  | .p4 _ _ => 4
  | .p15 _ _ _ => 15
def impl_isName.st : impl_isName.Pt → St
  | .p0 a0 => enter [.v .str a0] 0
  | .p4 y1 y2 => ⟨[(0, .im .str y1), (15, .im .bool y2)], [], 0⟩
  | .p15 y1 y2 y3 => ⟨[(0, .im .str y1), (17, .im (.int .i64) y2), (18, .im (.int .i64) y3)], [], 0⟩
def impl_isName.step (n : Nat) (K : impl_isName.Pt → Option (Tup [.bool])) : impl_isName.Pt → Option (Tup [.bool])
  | .p0 a0 => cond (seq a0 (⟨#[]⟩ : ByteArray)) (K (.p4 a0 true)) (cond (decide ((40 : Int) < ((ByteArray.size a0) : Int))) (K (.p4 a0 true)) (cond (inB (0 : Int) (ByteArray.size a0)) ((impl_digitByte n (bt a0 (0 : Int))).bind fun r4 => K (.p4 a0 r4)) (none)))
  | .p4 y1 y2 => cond y2 (some false) (K (.p15 y1 ((ByteArray.size y1) : Int) (0 : Int)))
  | .p15 y1 y2 y3 => cond (decide (y3 < y2)) (cond (inB y3 (ByteArray.size y1)) ((impl_wordByte n (bt y1 y3)).bind fun r6 => cond (!r6) (some false) (K (.p15 y1 y2 (IntKind.wrap .i64 (y3 + (1 : Int)))))) (none)) (some true)
def impl_isName (n : Nat) (a0 : ByteArray) : Option (Tup [.bool]) := goRec impl_isName.step n (.p0 a0)
def impl_isName.spec : Ctr := ⟨54, [.v .str], [.bool], [], none, fun n x => impl_isName n x.1⟩
theorem impl_isName.seg_eq : SegEq ty gl impl_isName.F impl_isName.md impl_isName.T impl_isName.spec impl_isName.lb impl_isName.st impl_isName.step := by
  intro n goto y; cases y <;> kernel_rfl
theorem impl_isName.text : Text Go.Proofs.Tryz.prog impl_isName.F impl_isName.spec := textOf Go.Proofs.Tryz.f54
theorem impl_isName.ok : CtrOK Go.Proofs.Tryz.prog gl impl_isName.spec :=
  ctr_okS tabs impl_isName.text impl_isName.seg_eq (fun n x => ⟨.p0 x.1, rfl, rfl, rfl⟩) (consC impl_digitByte.ok (consC impl_wordByte.ok (nilC)))

/-! loop.example/g00039/impl.printed -/
def impl_printed.T : List Ctr := []
def impl_printed.md : List (Nat × List Md) := []
noncomputable def impl_printed.F : Fun := ⟨(Go.Proofs.Tryz.f90.body).getD .skip, [.v .str, .v (.int .i64)], [(.tmp 4, .bool)], [], 0, [(15, ⟨[0, 11, 12], [], [], false⟩)]⟩
inductive impl_printed.Pt where
  | p0 (a0 : ByteArray) (a1 : Int)
  | p15 (y1 : ByteArray) (y2 : Int) (y3 : Int)
def impl_printed.lb : impl_printed.Pt → Nat
  | .p0 _ _ => 0
  | .p15 _ _ _ => 15
def impl_printed.st : impl_printed.Pt → St
  | .p0 a0 a1 => enter [.v .str a0, .v (.int .i64) a1] 0
  | .p15 y1 y2 y3 => ⟨[(0, .im .str y1), (11, .im (.int .i64) y2), (12, .im (.int .i64) y3)], [], 0⟩
def impl_printed.step (n : Nat) (K : impl_printed.Pt → Option (Tup [.bool])) : impl_printed.Pt → Option (Tup [.bool])
  | .p0 a0 a1 => cond (decide (a1 < ((ByteArray.size a0) : Int))) (some false) (K (.p15 a0 ((ByteArray.size a0) : Int) (0 : Int)))
  | .p15 y1 y2 y3 => cond (decide (y3 < y2)) (cond (inB y3 (ByteArray.size y1)) (cond (decide ((bt y1 y3) < (32 : Int))) (some false) (cond (inB y3 (ByteArray.size y1)) (cond (decide ((126 : Int) < (bt y1 y3))) (some false) (K (.p15 y1 y2 (IntKind.wrap .i64 (y3 + (1 : Int)))))) (none))) (none)) (some true)
def impl_printed (n : Nat) (a0 : ByteArray) (a1 : Int) : Option (Tup [.bool]) := goRec impl_printed.step n (.p0 a0 a1)
def impl_printed.spec : Ctr := ⟨90, [.v .str, .v (.int .i64)], [.bool], [], none, fun n x => impl_printed n x.1 x.2.1⟩
theorem impl_printed.seg_eq : SegEq ty gl impl_printed.F impl_printed.md impl_printed.T impl_printed.spec impl_printed.lb impl_printed.st impl_printed.step := by
  intro n goto y; cases y <;> kernel_rfl
theorem impl_printed.text : Text Go.Proofs.Tryz.prog impl_printed.F impl_printed.spec := textOf Go.Proofs.Tryz.f90
theorem impl_printed.ok : CtrOK Go.Proofs.Tryz.prog gl impl_printed.spec :=
  ctr_okS tabs impl_printed.text impl_printed.seg_eq (fun n x => ⟨.p0 x.1 x.2.1, rfl, rfl, rfl⟩) (nilC)

/-! strings.IndexByte -/
def strings_IndexByte (n : Nat) (a0 : ByteArray) (a1 : Int) : Option Int := hold n (some (Lib.indexByte a0.data.toList a1.toNat.toUInt8))
def strings_IndexByte.spec : Ctr := ⟨103, [.v .str, .v (.int .u8)], [.int .i64], [], none, fun n x => strings_IndexByte n x.1 x.2.1⟩
section
open Go.Proofs
def layIndexByte_ren : Go.Shelf.Ren := ⟨fun | 137 => 103 | 217 => 109 | 266 => 112 | n => n, fun | 9 => 9 | 5 => 5 | 3 => 3 | n => n, fun | n => n⟩
theorem layIndexByte : Go.Proofs.Lays.n137 Tryz.prog layIndexByte_ren where
  mixed := by kernel_rfl
  f137 := Tryz.func103.trans (congrArg some (by kernel_rfl))
  f217 := Tryz.func109.trans (congrArg some (by kernel_rfl))
  f266 := Tryz.func112.trans (congrArg some (by kernel_rfl))
  t3 := Tryz.underlying3
  a3 := Tryz.isAgg3
  z3 := Tryz.sizeOf3
  v3 := Tryz.zeroValue3
  t5 := Tryz.underlying5
  a5 := Tryz.isAgg5
  z5 := Tryz.sizeOf5
  v5 := Tryz.zeroValue5
  t9 := Tryz.underlying9
  a9 := Tryz.isAgg9
  z9 := Tryz.sizeOf9
  v9 := Tryz.zeroValue9

end
theorem strings_IndexByte.ok : CtrOK Go.Proofs.Tryz.prog gl strings_IndexByte.spec := by
  refine fun n => ⟨⟨Go.Proofs.Tryz.f103, by kernel_rfl, by kernel_rfl, by decide +kernel⟩, ?_⟩
  intro inst
  rintro ⟨a0, a1, ⟨⟩⟩ y hy
  obtain rfl := Option.some.inj (hold_some hy)
  intro w vs S L harg _ hL hSL hG
  change ArgsRep w [Arg.v .str a0, Arg.v (.int .u8) a1] vs S L at harg
  unfold ArgsRep at harg
  obtain ⟨v0, vr, S1, S2, L1, L2, rfl, rfl, rfl, h1, harg⟩ := harg
  unfold ArgsRep at harg
  obtain ⟨v1, vr, S3, S4, L3, L4, rfl, rfl, rfl, h2, harg⟩ := harg
  unfold ArgsRep at harg
  obtain ⟨rfl, rfl, rfl⟩ := harg
  unfold ArgRep at h1 h2
  obtain ⟨_, ⟨cs, rfl, rfl, rfl⟩, rfl⟩ := h1
  obtain ⟨_, ⟨cs, rfl, rfl, rfl⟩, rfl⟩ := h2
  refine (Go.Proofs.Any.strings_IndexByte layIndexByte a0 a1 w).mono ?_
  rintro e w' ⟨rfl, rfl⟩
  refine ⟨[.int .i64 (Lib.indexByte a0.data.toList a1.toNat.toUInt8)], [], [], rfl, ⟨_, [], [], [], rfl, rfl, rfl, ⟨rfl, rfl⟩, rfl, rfl⟩, ?_, by simp, by simp, rfl, rfl, rfl, Nat.le_refl _, fun _ _ _ => rfl⟩
  change OutsRep _ w' [Arg.v .str a0, Arg.v (.int .u8) a1] _ _ _
  simp only [OutsRep, OutRep]
  exact ⟨_, _, [], [], [], [], rfl, rfl, rfl, ⟨rfl, rfl⟩, _, _, [], [], [], [], rfl, rfl, rfl, ⟨rfl, rfl⟩, rfl, rfl⟩


/-! loop.example/g00039/impl.alternatives$1 -/
abbrev PC : U := .pair (.int .u8) (.pair .bool (.pair .bool .unit))
def impl_alternatives_1 (n : Nat) (a0 : PC.El) (a1 : List (List PC.El)) : Option (List (List PC.El)) :=
  hold n (cond (decide (a1 ≠ [] ∧ a1.length ≤ 1000000 ∧ (a1.getD (a1.length - 1) []).length ≤ 1000000)) (some (a1.set (a1.length - 1) (a1.getD (a1.length - 1) [] ++ [a0]))) none)
def impl_alternatives_1.spec : Ctr := ⟨102, [.v PC, .p (.sl false (.sl false PC))], [], [.sl false (.sl false PC)], none, fun n x => impl_alternatives_1 n x.1 x.2.1⟩
section
open Go.RowKit Go.Proofs
set_option maxHeartbeats 8000000 in
set_option maxRecDepth 100000 in
theorem put_calls (ht : TyOK Tryz.prog 127 (.sl false PC)) (c : Int) (x y : Bool) (b g q cap : Nat) (cur : Array Value) (v : Value) (l : List PC.El) (T1 T2 : TypeId) (fz : Nat × Nat) (F2 : List Nat) (W : World)
    (hb : W.heap[b]? = some (.cells #[.slice (some ⟨g, 0, none⟩) (q + 1) cap] T1 (0, 0))) (hg : W.heap[g]? = some (.cells cur T2 fz)) (hfz : ∀ j, j < cur.size → ¬ (fz.1 ≤ j ∧ j < fz.2))
    (hn2 : q ≤ 1000000) (hv : cur[q]? = some v) (hs : SlRep W true false 3 (Rep W true PC) l v F2) (hF2 : F2.Nodup) (hbF : b ∉ F2) (hgF : g ∉ F2) (hbg : b ≠ g) (hl : l.length ≤ 1000000) :
    Calls Tryz.prog 102 #[.agg #[.int .u8 c, .bool x, .bool y], .pointer (some ⟨b, 0, none⟩)] W fun e w' => e = .returned (.tuple #[]) ∧ ∃ v1 F3,
      SlRep w' true false 3 (Rep w' true PC) (l ++ [(c, x, y, ())]) v1 F3 ∧ F3.Nodup ∧ w'.heap[g]? = some (.cells (cur.setIfInBounds q v1) T2 fz) ∧ w'.os = W.os ∧ w'.tape = W.tape ∧ w'.output = W.output ∧ W.heap.size ≤ w'.heap.size ∧
      (∀ k, k < W.heap.size → k ≠ g → k ∉ F2 → w'.heap[k]? = W.heap[k]?) ∧ (∀ k ∈ F3, k < w'.heap.size ∧ (k < W.heap.size → k ∈ F2)) := by
  have e1 : wrap64 (((q + 1 : Nat) : Int) - 1) = (q : Int) := by unfold wrap64; omega
  have e2 : wrap64 (q : Int) = (q : Int) := by unfold wrap64; omega
  have hlt := lt_of_heap hb
  have hltg := lt_of_heap hg
  have hqs : q < cur.size := by
    rcases Nat.lt_or_ge q cur.size with h | h
    · exact h
    · rw [Array.getElem?_eq_none h] at hv; cases hv
  go_enter Tryz.func102, Tryz.ntmps102
  go_wp2
  have hbx : (W.alloc (.cells #[.int .u8 c, .bool x, .bool y] 126)).drew.heap[W.heap.size]? = some (.cells #[.int .u8 c, .bool x, .bool y] 126 (0, 0)) := alloc_new W _
  have hold : ∀ k, k < W.heap.size → (W.alloc (.cells #[.int .u8 c, .bool x, .bool y] 126)).drew.heap[k]? = W.heap[k]? := fun k hk => alloc_old W _ hk
  have hb1 := (hold b hlt).trans hb
  have hg1 := (hold g hltg).trans hg
  have hsz1 : (W.alloc (.cells #[.int .u8 c, .bool x, .bool y] 126)).drew.heap.size = W.heap.size + 1 := alloc_sz _ _
  have hFlt : ∀ k ∈ F2, k < W.heap.size := fun k hk => Rep.block_lt (u := .sl false PC) (cs := [v]) ⟨v, rfl, .inl hs⟩ k hk
  have hs1 : SlRep (W.alloc (.cells #[.int .u8 c, .bool x, .bool y] 126)).drew true false 3 (Rep (W.alloc (.cells #[.int .u8 c, .bool x, .bool y] 126)).drew true PC) l v F2 := SlRep.frame (u := PC) (fun k hk => hold k (hFlt k hk)) hs
  have hos1 : (W.alloc (.cells #[.int .u8 c, .bool x, .bool y] 126)).drew.os = W.os ∧ (W.alloc (.cells #[.int .u8 c, .bool x, .bool y] 126)).drew.tape = W.tape ∧ (W.alloc (.cells #[.int .u8 c, .bool x, .bool y] 126)).drew.output = W.output := ⟨rfl, rfl, rfl⟩
  refine start_ (n := 15) (S := fun w' => w'.cell? ⟨b, 0, none⟩ = some (.slice (some ⟨g, 0, none⟩) (q + 1) cap) ∧ w'.cell? ⟨g, q, none⟩ = some v ∧ w'.cell? ⟨W.heap.size, 0, none⟩ = some (.int .u8 c) ∧ w'.cell? ⟨W.heap.size, 1, none⟩ = some (.bool x) ∧ w'.cell? ⟨W.heap.size, 2, none⟩ = some (.bool y)) (ds := [14]) #[false, false, false, false, false, false, false, false, false, false, false, false, false, false, false] (by kernel_rfl) rfl rfl ⟨(cell_row hb1).trans rfl, (cell_row hg1).trans hv, (cell_row hbx).trans rfl, (cell_row hbx).trans rfl, (cell_row hbx).trans rfl⟩ (fun hHeld => ?_)
  generalize (W.alloc (.cells #[.int .u8 c, .bool x, .bool y] 126)).drew = W1 at hold hsz1 hbx hb1 hg1 hs1 hos1 hHeld ⊢
  refine take_ (i := 0) (N := some 3) (v := ?_) (a' := ?_) #[true, false, false, false, false, false, false, false, false, false, false, false, false, false, false] rfl rfl (by kernel_rfl) (fun _ _ _ h => h) (Or.inl ⟨by rfl, ?_⟩) hHeld ?_ ?_
  rotate_left
  · rintro w' ⟨s0, s1, s2, s3, s4⟩
    go_simp
    try with_reducible rfl
  rotate_left
  · simp only [Act.put, List.setIfInBounds_toArray, List.set_cons_zero, List.set_cons_succ, i64_w, i32_w]
    rfl
  refine take_ (i := 1) (N := some 4) (v := ?_) (a' := ?_) #[true, true, false, false, false, false, false, false, false, false, false, false, false, false, false] rfl rfl (by kernel_rfl) (fun _ _ _ h => h) (Or.inl ⟨by rfl, ?_⟩) hHeld ?_ ?_
  rotate_left
  · rintro w' ⟨s0, s1, s2, s3, s4⟩
    go_simp
    try with_reducible rfl
  rotate_left
  · simp only [Act.put, List.setIfInBounds_toArray, List.set_cons_zero, List.set_cons_succ, i64_w, i32_w]
    rfl
  refine pure_ (i := 2) (N := some 5) (v := ?_) (a' := ?_) #[true, true, true, false, false, false, false, false, false, false, false, false, false, false, false] rfl rfl (by kernel_rfl) (fun _ _ _ h => h) (Or.inl ⟨by rfl, ?_⟩) ?_ ?_
  rotate_left
  · intro w'
    go_simp
    try with_reducible rfl
  rotate_left
  · simp only [Act.put, List.setIfInBounds_toArray, List.set_cons_zero, List.set_cons_succ, i64_w, i32_w]
    rfl
  refine pure_ (i := 3) (N := some 6) (v := ?_) (a' := ?_) #[true, true, true, true, false, false, false, false, false, false, false, false, false, false, false] rfl rfl (by kernel_rfl) (fun _ _ _ h => h) (Or.inl ⟨by rfl, ?_⟩) ?_ ?_
  rotate_left
  · intro w'
    go_simp
    try with_reducible rfl
  rotate_left
  · simp only [Act.put, List.setIfInBounds_toArray, List.set_cons_zero, List.set_cons_succ, i64_w, i32_w]
    rfl
  refine take_ (i := 4) (N := some 7) (v := ?_) (a' := ?_) #[true, true, true, true, true, false, false, false, false, false, false, false, false, false, false] rfl rfl (by kernel_rfl) (fun _ _ _ h => h) (Or.inl ⟨by rfl, ?_⟩) hHeld ?_ ?_
  rotate_left
  · rintro w' ⟨s0, s1, s2, s3, s4⟩
    go_simp
    try with_reducible rfl
  rotate_left
  · simp only [Act.put, List.setIfInBounds_toArray, List.set_cons_zero, List.set_cons_succ, i64_w, i32_w]
    rfl
  refine take_ (i := 5) (N := some 8) (v := ?_) (a' := ?_) #[true, true, true, true, true, true, false, false, false, false, false, false, false, false, false] rfl rfl (by kernel_rfl) (fun _ _ _ h => h) (Or.inl ⟨by rfl, ?_⟩) hHeld ?_ ?_
  rotate_left
  · rintro w' ⟨s0, s1, s2, s3, s4⟩
    go_simp
    try with_reducible rfl
  rotate_left
  · simp only [Act.put, List.setIfInBounds_toArray, List.set_cons_zero, List.set_cons_succ, i64_w, i32_w]
    rfl
  refine pure_ (i := 6) (N := some 9) (v := ?_) (a' := ?_) #[true, true, true, true, true, true, true, false, false, false, false, false, false, false, false] rfl rfl (by kernel_rfl) (fun _ _ _ h => h) (Or.inl ⟨by rfl, ?_⟩) ?_ ?_
  rotate_left
  · intro w'
    go_simp
    try with_reducible rfl
  rotate_left
  · simp only [Act.put, List.setIfInBounds_toArray, List.set_cons_zero, List.set_cons_succ, i64_w, i32_w]
    rfl
  refine pure_ (i := 7) (N := some 10) (v := ?_) (a' := ?_) #[true, true, true, true, true, true, true, true, false, false, false, false, false, false, false] rfl rfl (by kernel_rfl) (fun _ _ _ h => h) (Or.inl ⟨by rfl, ?_⟩) ?_ ?_
  rotate_left
  · intro w'
    go_simp
    try with_reducible rfl
  rotate_left
  · simp only [Act.put, List.setIfInBounds_toArray, List.set_cons_zero, List.set_cons_succ, i64_w, i32_w]
    rfl
  refine pure_ (i := 8) (N := some 11) (v := ?_) (a' := ?_) #[true, true, true, true, true, true, true, true, true, false, false, false, false, false, false] rfl rfl (by kernel_rfl) (fun _ _ _ h => h) (Or.inl ⟨by rfl, ?_⟩) ?_ ?_
  rotate_left
  · intro w'
    go_simp
    rw [if_pos (by omega)]
  rotate_left
  · simp only [Act.put, List.setIfInBounds_toArray, List.set_cons_zero, List.set_cons_succ, i64_w, i32_w]
    rfl
  refine take_ (i := 9) (N := some 12) (v := ?_) (a' := ?_) #[true, true, true, true, true, true, true, true, true, true, false, false, false, false, false] rfl rfl (by kernel_rfl) (fun _ _ _ h => h) (Or.inl ⟨by rfl, ?_⟩) hHeld ?_ ?_
  rotate_left
  · rintro w' ⟨s0, s1, s2, s3, s4⟩
    go_simp
    try with_reducible rfl
  rotate_left
  · simp only [Act.put, List.setIfInBounds_toArray, List.set_cons_zero, List.set_cons_succ, i64_w, i32_w]
    rfl
  refine take_ (i := 10) (N := some 13) (v := ?_) (a' := ?_) #[true, true, true, true, true, true, true, true, true, true, true, false, false, false, false] rfl rfl (by kernel_rfl) (fun _ _ _ h => h) (Or.inl ⟨by rfl, ?_⟩) hHeld ?_ ?_
  rotate_left
  · rintro w' ⟨s0, s1, s2, s3, s4⟩
    go_simp
    try with_reducible rfl
  rotate_left
  · simp only [Act.put, List.setIfInBounds_toArray, List.set_cons_zero, List.set_cons_succ, i64_w, i32_w]
    rfl
  clear hHeld
  have hW2 : ∀ k, k < W1.heap.size → (W1.alloc (.cells #[.int .u8 c, .bool x, .bool y] 126)).heap[k]? = W1.heap[k]? := fun k hk => alloc_old W1 _ hk
  have hnew : (W1.alloc (.cells #[.int .u8 c, .bool x, .bool y] 126)).heap[W1.heap.size]? = some (.cells #[.int .u8 c, .bool x, .bool y] 126 (0, 0)) := alloc_new W1 _
  have hb2 := (hW2 b (lt_of_heap hb1)).trans hb1
  have hg2 := (hW2 g (lt_of_heap hg1)).trans hg1
  have hbx2 := (hW2 _ (lt_of_heap hbx)).trans hbx
  refine one_ (i := 11) (N := some 14) #[true, true, true, true, true, true, true, true, true, true, true, true, false, false, false] rfl rfl (by kernel_rfl) (by decide) (fun K hK => ?_)
  refine event_step (w1 := W1.alloc (.cells #[.int .u8 c, .bool x, .bool y] 126)) (v := .slice (some ⟨W1.heap.size, 0, none⟩) 1 1) (by rfl) (by first | (go_simp; done) | (go_simp; rfl)) ?_
  refine hK.out _ _ ⟨(cell_row hb2).trans rfl, (cell_row hg2).trans hv, (cell_row hbx2).trans rfl, (cell_row hbx2).trans rfl, (cell_row hbx2).trans rfl⟩ (fun hHeld => ?_)
  clear hK K hHeld
  refine norm_ (a' := ?_) ?_ ?_
  rotate_left
  · show Act.put _ (some 14) _ = _
    simp only [Act.put, List.setIfInBounds_toArray, List.set_cons_zero, List.set_cons_succ, i64_w, i32_w]
    rfl
  have hs2 : SlRep (W1.alloc (.cells #[.int .u8 c, .bool x, .bool y] 126)) true false 3 (Rep (W1.alloc (.cells #[.int .u8 c, .bool x, .bool y] 126)) true PC) l v F2 := SlRep.frame (u := PC) (fun k hk => hW2 k (by have := hFlt k hk; omega)) hs1
  obtain ⟨v1, w2, F3, hrun, hs3, hF3, ho1, ho2, ho3, hsz2, hfr, hF3b⟩ := append_run (P := Tryz.prog) (ty := 127) (t := 127) (e := false) (u := PC) (l := l) (m := [(c, x, y, ())]) (dd := ⟨W1.heap.size, 0, none⟩) (cs := [.int .u8 c, .bool x, .bool y]) ht rfl hs2 hF2
    ⟨[.int .u8 c, .bool x, .bool y], [], [], [], rfl, rfl, ⟨[.int .u8 c], [.bool x, .bool y], [], [], rfl, rfl, ⟨rfl, rfl⟩, [.bool x], [.bool y], [], [], rfl, rfl, ⟨rfl, rfl⟩, [.bool y], [], [], [], rfl, rfl, ⟨rfl, rfl⟩, rfl, rfl⟩, rfl, rfl⟩
    (cells_at (p := []) (q := []) rfl hnew rfl rfl) (by simp) (by simp; omega) 1
  have hsz3 : (W1.alloc (.cells #[.int .u8 c, .bool x, .bool y] 126)).heap.size = W1.heap.size + 1 := alloc_sz _ _
  refine one_ (i := 12) (N := some 15) #[true, true, true, true, true, true, true, true, true, true, true, true, true, false, false] rfl rfl (by kernel_rfl) (by decide) (fun K hK => ?_)
  refine event_step (w1 := w2) (v := v1) (by rfl) ?_ ?_
  · exact append_op (x := .tmp 12) (y := .tmp 14) (t := 127) rfl hrun
  have hb3 := (hfr b (by omega) hbF).trans hb2
  have hg3 := (hfr g (by omega) hgF).trans hg2
  have hbx3 := (hfr W.heap.size (by omega) (fun h => by have := hFlt _ h; omega)).trans hbx2
  refine hK.out _ _ ⟨(cell_row hb3).trans rfl, (cell_row hg3).trans hv, (cell_row hbx3).trans rfl, (cell_row hbx3).trans rfl, (cell_row hbx3).trans rfl⟩ (fun hHeld => ?_)
  clear hK K hHeld
  refine norm_ (a' := ?_) ?_ ?_
  rotate_left
  · show Act.put _ (some 15) _ = _
    simp only [Act.put, List.setIfInBounds_toArray, List.set_cons_zero, List.set_cons_succ, i64_w, i32_w]
    rfl
  refine pure_ (i := 13) (N := some 16) (v := ?_) (a' := ?_) #[true, true, true, true, true, true, true, true, true, true, true, true, true, true, false] rfl rfl (by kernel_rfl) (fun _ _ _ h => h) (Or.inl ⟨by rfl, ?_⟩) ?_ ?_
  rotate_left
  · intro w'
    go_simp
    rw [if_pos (by omega)]
  rotate_left
  · simp only [Act.put, List.setIfInBounds_toArray, List.set_cons_zero, List.set_cons_succ, i64_w, i32_w]
    rfl
  have hcq : w2.cell? ⟨g, q, none⟩ = some v := (cell_row hg3).trans hv
  have hfq : w2.frozen? ⟨g, q, none⟩ = false := frozen_row hg3 (hfz q hqs)
  obtain ⟨A1, n1, c1, e1'⟩ : ∃ A n c, v1 = Value.slice A n c := by
    rcases hs3 with ⟨h0, _⟩ | ⟨_, _, _, _, _, _, _, _, _, h0, _⟩ <;> exact ⟨_, _, _, h0⟩
  subst e1'
  refine last_ (i := 14) (N := none) #[true, true, true, true, true, true, true, true, true, true, true, true, true, true, true] rfl rfl (by kernel_rfl) (by decide) (fun K hK => ?_)
  refine skip_step (w1 := w2.setCell ⟨g, q, none⟩ (.slice A1 n1 c1)) (by rfl) rfl ?_ ?_
  · go_simp
  refine hK.out _ _ ?_
  clear hK K
  refine done_ (by kernel_rfl) ?_
  rw [setCell_put hg3]
  have hgF3 : g ∉ F3 := fun h => hgF ((hF3b g h).2 (by omega))
  have hoth : ∀ k, k ≠ g → (putB w2 g (.cells (cur.setIfInBounds q (.slice A1 n1 c1)) T2 fz)).heap[k]? = w2.heap[k]? := fun k hk => putB_other hk
  go_end0
  refine ⟨rfl, _, F3, SlRep.frame (u := PC) (fun k hk => hoth k (fun e => hgF3 (e ▸ hk))) hs3, hF3, putB_same (lt_of_heap hg3), ho1.trans hos1.1, ho2.trans hos1.2.1, ho3.trans hos1.2.2, by rw [putB_sz]; omega, ?_, ?_⟩
  · intro k hk hkg hkF
    rw [hoth k hkg, hfr k (by omega) hkF, hW2 k (by omega), hold k hk]
  · intro k hk
    have := hF3b k hk
    rw [putB_sz]
    exact ⟨this.1, fun h => this.2 (by omega)⟩
theorem impl_alternatives_1.ok : CtrOK Tryz.prog gl impl_alternatives_1.spec := by
  have ht : TyOK Tryz.prog 127 (.sl false PC) := tabs.ty _ _ (by kernel_rfl)
  intro n
  refine ⟨⟨Tryz.f102, by kernel_rfl, by kernel_rfl, by decide +kernel⟩, ?_⟩
  intro inst
  rintro ⟨x, out, ⟨⟩⟩ y hy
  obtain ⟨hc, hy⟩ := cond_none (hold_some hy)
  simp only [decide_eq_true_eq] at hc
  obtain ⟨hne, hlen, hlast⟩ := hc
  have hy : out.set (out.length - 1) (out.getD (out.length - 1) [] ++ [x]) = y := Option.some.inj hy
  subst hy
  intro w vs S L harg _ hL hSL hG
  change ArgsRep w [Arg.v PC x, Arg.p (.sl false (.sl false PC)) out] vs S L at harg
  unfold ArgsRep at harg
  obtain ⟨v0, vr, S1, S2, L1, L2, rfl, rfl, rfl, h1, harg⟩ := harg
  unfold ArgsRep at harg
  obtain ⟨v1, vr, S3, S4, L3, L4, rfl, rfl, rfl, h2, harg⟩ := harg
  unfold ArgsRep at harg
  obtain ⟨rfl, rfl, rfl⟩ := harg
  unfold ArgRep at h1 h2
  obtain ⟨_, ⟨cs, rfl, c1, d1, G1, H1, rfl, rfl, ⟨rfl, rfl⟩, c2, d2, G2, H2, rfl, rfl, ⟨rfl, rfl⟩, c3, d3, G3, H3, rfl, rfl, ⟨rfl, rfl⟩, rfl, rfl⟩, rfl⟩ := h1
  obtain ⟨_, rfl, b, c, T1, G, rfl, hw, ⟨v, hcv, hs⟩, rfl⟩ := h2
  have hs := hs.resolve_right bare_no
  rcases hs with ⟨_, h0, _⟩ | ⟨ad, cap, cc, T2, fz, p, m, q, G0, rfl, hsp, _, hcap, hh, hcc, hp, hr, rfl, how⟩
  · exact absurd h0 hne
  obtain ⟨hoff, hfz, hcsz, hcm⟩ := how rfl
  have hp0 : p = [] := List.eq_nil_of_length_eq_zero (by omega)
  subst hp0
  have hlp : 0 < out.length := List.length_pos_iff.2 hne
  obtain ⟨m1, m2, m3, F1, F2, F3, rfl, rfl, hm1, ⟨v2, rfl, hs2⟩, hr1, hr3, _⟩ := RepL.at (n := 1) (fun _ _ _ h => Rep.length h) ([] : List PC.El) (out.length - 1) hr (by omega)
  have hs2 := hs2.resolve_right bare_no
  simp only [List.nil_append, List.append_nil] at hL hcc ⊢
  have hblk : ad = ⟨ad.block, 0, none⟩ := by
    obtain ⟨a1, a2, a3⟩ := ad
    simp only at hoff hsp
    rw [hoff, hsp]
  generalize ad.block = g at *
  subst hblk
  have hcarr : c = #[.slice (some ⟨g, 0, none⟩) (out.length - 1 + 1) cap] := by
    apply Array.toList_inj.1
    rw [hcv]
    simp; omega
  subst hcarr
  simp only [List.nodup_cons, List.nodup_append, List.mem_cons, List.mem_append, not_or] at hL
  obtain ⟨⟨hbg, ⟨hb1, hb2⟩, hb3⟩, ⟨⟨hg1, hg2⟩, hg3⟩, ⟨n1, n2, n12⟩, n3, n123⟩ := hL
  have hq1 : out.length - 1 < cc.size := by
    have := congrArg List.length hcc
    simp at this; omega
  have hcv2 : cc[out.length - 1]? = some v2 := by
    rw [← Array.getElem?_toList, hcc]
    simp [List.append_assoc, hm1, List.getElem?_append_right]
  have hput := put_calls ht x.1 x.2.1 x.2.2.1 b g (out.length - 1) cap cc v2 _ T1 T2 fz F2 w hw hh hfz (by omega) hcv2 hs2 n2 hb2 hg2 hbg hlast
  refine Calls.mono hput ?_
  rintro e w' ⟨rfl, v3, F4, hs3, hF4, hg', ho1, ho2, ho3, hsz, hfr, hF4b⟩
  have hblt : b < w.heap.size := lt_of_heap hw
  have hglt : g < w.heap.size := lt_of_heap hh
  have hlt1 : ∀ k ∈ F1, k < w.heap.size := fun k hk => RepL.block_lt (u := .sl false PC) (fun h => Rep.block_lt h) hr1 k hk
  have hlt3 : ∀ k ∈ F3, k < w.heap.size := fun k hk => RepL.block_lt (u := .sl false PC) (fun h => Rep.block_lt h) hr3 k hk
  have hfr1 : ∀ k ∈ F1, w'.heap[k]? = w.heap[k]? := fun k hk => hfr k (hlt1 k hk) (fun e => hg1 (e ▸ hk)) (fun h => n12 k hk k h rfl)
  have hfr3 : ∀ k ∈ F3, w'.heap[k]? = w.heap[k]? := fun k hk => hfr k (hlt3 k hk) (fun e => hg3 (e ▸ hk)) (fun h => n123 k (.inr h) k hk rfl)
  have hb' : w'.heap[b]? = w.heap[b]? := hfr b hblt hbg hb2
  have k1 := RepL.imp (R := Rep w true (.sl false PC)) (S := Rep w' true (.sl false PC)) (fun x c G hG h => Rep.frame (fun k hk => hfr1 k (hG k hk)) h) hr1
  have k3 := RepL.imp (R := Rep w true (.sl false PC)) (S := Rep w' true (.sl false PC)) (fun x c G hG h => Rep.frame (fun k hk => hfr3 k (hG k hk)) h) hr3
  have k2 : RepL (Rep w' true (.sl false PC)) [out.getD (out.length - 1) [] ++ [x]] [v3] F4 := ⟨[v3], [], F4, [], by simp, by simp, ⟨v3, rfl, .inl hs3⟩, rfl, rfl⟩
  have kk := RepL.append (RepL.append k1 k2) k3
  have hset : out.take (out.length - 1) ++ [out.getD (out.length - 1) [] ++ [x]] ++ out.drop (out.length - 1 + 1) = out.set (out.length - 1) (out.getD (out.length - 1) [] ++ [x]) := by
    rw [List.set_eq_take_append_cons_drop, if_pos (by omega)]; simp
  rw [hset] at kk
  have hF41 : ∀ k ∈ F4, k ∉ F1 ∧ k ∉ F3 ∧ k ≠ g ∧ k ≠ b := by
    intro k hk
    have h5 := hF4b k hk
    refine ⟨fun h => ?_, fun h => ?_, fun h => ?_, fun h => ?_⟩
    · exact n12 k h k (h5.2 (hlt1 k h)) rfl
    · exact n123 k (.inr (h5.2 (hlt3 k h))) k h rfl
    · subst h; exact hg2 (h5.2 hglt)
    · subst h; exact hb2 (h5.2 hblt)
  refine ⟨[], [], b :: g :: (F1 ++ F4 ++ F3), rfl, ⟨rfl, rfl⟩, ?_, ?_, ?_, ho1, ho2, ho3, hsz, ?_⟩
  · change OutsRep _ w' [Arg.v PC x, Arg.p (.sl false (.sl false PC)) out] _ _ _
    simp only [OutsRep, OutRep]
    refine ⟨_, _, [], _, [], _, rfl, rfl, rfl, ⟨rfl, rfl⟩, _, _, _, [], _, [], rfl, (List.append_nil _).symm, (List.append_nil _).symm, ⟨_, b, _, T1, g :: (F1 ++ F4 ++ F3), rfl, rfl, hb'.trans hw, ⟨_, rfl, .inl (.inr ⟨⟨g, 0, none⟩, cap, _, T2, fz, [], m1 ++ [v3] ++ m3, q, F1 ++ F4 ++ F3, ?_, rfl, by simp, ?_, hg', ?_, rfl, kk, rfl, fun _ => ⟨rfl, ?_, ?_, hcm⟩⟩)⟩, rfl⟩, rfl, rfl⟩
    · simp; omega
    · simp; omega
    · rw [Array.toList_setIfInBounds, hcc]
      simp only [List.append_assoc]
      rw [List.set_append_right _ _ (by omega), hm1]
      simp
    · intro j hj
      rw [Array.size_setIfInBounds] at hj
      exact hfz j hj
    · rw [Array.size_setIfInBounds]; exact hcsz
  · simp only [List.nil_append, List.nodup_cons, List.nodup_append, List.mem_cons, List.mem_append, not_or]
    refine ⟨⟨hbg, ⟨hb1, fun h => (hF41 b h).2.2.2 rfl⟩, hb3⟩, ⟨⟨hg1, fun h => (hF41 g h).2.2.1 rfl⟩, hg3⟩, ⟨n1, hF4, fun i hi j hj e => (hF41 j hj).1 (e ▸ hi)⟩, n3, fun i hi j hj e => ?_⟩
    rcases hi with hi | hi
    · exact n123 i (.inl hi) j hj e
    · exact (hF41 i hi).2.1 (e ▸ hj)
  · intro k hk
    simp only [List.nil_append, List.mem_cons, List.mem_append] at hk ⊢
    rcases hk with rfl | rfl | (hk | hk) | hk
    · exact ⟨by omega, fun _ => .inl rfl⟩
    · exact ⟨by omega, fun _ => .inr (.inl rfl)⟩
    · exact ⟨by have := hlt1 k hk; omega, fun _ => .inr (.inr (.inl (.inl hk)))⟩
    · exact ⟨(hF4b k hk).1, fun h => .inr (.inr (.inl (.inr ((hF4b k hk).2 h))))⟩
    · exact ⟨by have := hlt3 k hk; omega, fun _ => .inr (.inr (.inr hk))⟩
  · intro k hk hkL
    simp only [List.mem_cons, List.mem_append, not_or] at hkL
    exact hfr k hk hkL.2.1 hkL.2.2.1.2
end


/-! loop.example/g00039/impl.alternatives -/
def impl_alternatives.T : List Ctr := [impl_printed.spec, strings_IndexByte.spec, impl_alternatives_1.spec]
def impl_alternatives.md : List (Nat × List Md) := [(102, [.v, .p (.sl false (.sl false (.pair (.int .u8) (.pair .bool (.pair .bool .unit)))))]), (1000102, [.p (.sl false (.sl false (.pair (.int .u8) (.pair .bool (.pair .bool .unit)))))])]
noncomputable def impl_alternatives.F : Fun := ⟨(Go.Proofs.Tryz.f96.body).getD .skip, [.v .str], [(.tmp 2, (.sl false (.sl false (.pair (.int .u8) (.pair .bool (.pair .bool .unit)))))), (.tmp 3, .bool)], [], 0, [(19, ⟨[0, 4, 5, 6], [], [(4, 0, (.sl false (.pair (.int .u8) (.pair .bool (.pair .bool .unit)))))], false⟩), (51, ⟨[0, 4, 5, 6, 56], [], [(4, 0, (.sl false (.pair (.int .u8) (.pair .bool (.pair .bool .unit)))))], false⟩)]⟩
inductive impl_alternatives.Pt where
  | p0 (a0 : ByteArray)
  | p19 (y1 : ByteArray) (y2 : Int) (y3 : List (List ((Int) × ((Bool) × ((Bool) × (Unit))))))
  | p51 (y1 : ByteArray) (y2 : Int) (y3 : Bool) (y4 : List (List ((Int) × ((Bool) × ((Bool) × (Unit))))))
def impl_alternatives.lb : impl_alternatives.Pt → Nat
  | .p0 _ => 0
  | .p19 _ _ _ => 19
  | .p51 _ _ _ _ => 51
def impl_alternatives.st : impl_alternatives.Pt → St
  | .p0 a0 => enter [.v .str a0] 0
  | .p19 y1 y2 y3 => ⟨[(0, .im .str y1), (4, .po 0 0), (5, .fn 102 [.po 0 0]), (6, .im (.int .i64) y2)], [(0, .obj [.hs 1 [] none 0]), (1, .arr false (.sl false (.pair (.int .u8) (.pair .bool (.pair .bool .unit)))) y3 0)], 2⟩
  | .p51 y1 y2 y3 y4 => ⟨[(0, .im .str y1), (4, .po 0 0), (5, .fn 102 [.po 0 0]), (6, .im (.int .i64) y2), (56, .im .bool y3)], [(0, .obj [.hs 1 [] none 0]), (1, .arr false (.sl false (.pair (.int .u8) (.pair .bool (.pair .bool .unit)))) y4 0)], 2⟩
def impl_alternatives.step (n : Nat) (K : impl_alternatives.Pt → Option (Tup [(.sl false (.sl false (.pair (.int .u8) (.pair .bool (.pair .bool .unit))))), .bool])) : impl_alternatives.Pt → Option (Tup [(.sl false (.sl false (.pair (.int .u8) (.pair .bool (.pair .bool .unit))))), .bool])
  | .p0 a0 => (impl_printed n a0 (100 : Int)).bind fun r4 => cond (!r4) (some (([] : List (List ((Int) × ((Bool) × ((Bool) × (Unit)))))), false)) (K (.p19 a0 (0 : Int) [([] : List ((Int) × ((Bool) × ((Bool) × (Unit)))))]))
  | .p19 y1 y2 y3 => cond (decide (y2 < ((ByteArray.size y1) : Int))) (cond (inB y2 (ByteArray.size y1)) (cond (decide ((bt y1 y2) = (124 : Int))) (cond (room ((List.length y3) + (List.length [([] : List ((Int) × ((Bool) × ((Bool) × (Unit)))))]))) (K (.p19 y1 (IntKind.wrap .i64 (y2 + (1 : Int))) (y3 ++ [([] : List ((Int) × ((Bool) × ((Bool) × (Unit)))))]))) (none)) (cond (decide ((bt y1 y2) = (42 : Int))) ((impl_alternatives_1 n ((default : Int), ((default : Bool), (true, ()))) y3).bind fun r6 => K (.p19 y1 (IntKind.wrap .i64 (y2 + (1 : Int))) r6)) (cond (decide ((bt y1 y2) = (63 : Int))) ((impl_alternatives_1 n ((default : Int), (true, (default : (Bool) × (Unit)))) y3).bind fun r6 => K (.p19 y1 (IntKind.wrap .i64 (y2 + (1 : Int))) r6)) (cond (decide ((bt y1 y2) = (92 : Int))) (cond (decide ((IntKind.wrap .i64 (y2 + (1 : Int))) = ((ByteArray.size y1) : Int))) (K (.p51 y1 (IntKind.wrap .i64 (y2 + (1 : Int))) true y3)) (cond (inB (IntKind.wrap .i64 (y2 + (1 : Int))) (ByteArray.size y1)) ((strings_IndexByte n (⟨#[42, 63, 124, 92]⟩ : ByteArray) (bt y1 (IntKind.wrap .i64 (y2 + (1 : Int))))).bind fun (r6 : Int) => K (.p51 y1 (IntKind.wrap .i64 (y2 + (1 : Int))) (decide (r6 < (0 : Int))) y3)) (none))) ((impl_alternatives_1 n ((bt y1 y2), (default : (Bool) × ((Bool) × (Unit)))) y3).bind fun r6 => K (.p19 y1 (IntKind.wrap .i64 (y2 + (1 : Int))) r6)))))) (none)) (some (y3, true))
  | .p51 y1 y2 y3 y4 => cond y3 (some (([] : List (List ((Int) × ((Bool) × ((Bool) × (Unit)))))), false)) (cond (inB y2 (ByteArray.size y1)) ((impl_alternatives_1 n ((bt y1 y2), (default : (Bool) × ((Bool) × (Unit)))) y4).bind fun r7 => K (.p19 y1 (IntKind.wrap .i64 (y2 + (1 : Int))) r7)) (none))
def impl_alternatives (n : Nat) (a0 : ByteArray) : Option (Tup [(.sl false (.sl false (.pair (.int .u8) (.pair .bool (.pair .bool .unit))))), .bool]) := goRec impl_alternatives.step n (.p0 a0)
def impl_alternatives.spec : Ctr := ⟨96, [.v .str], [(.sl false (.sl false (.pair (.int .u8) (.pair .bool (.pair .bool .unit))))), .bool], [], none, fun n x => impl_alternatives n x.1⟩
theorem impl_alternatives.seg_eq : SegEq ty gl impl_alternatives.F impl_alternatives.md impl_alternatives.T impl_alternatives.spec impl_alternatives.lb impl_alternatives.st impl_alternatives.step := by
  intro n goto y; cases y <;> kernel_rfl
theorem impl_alternatives.text : Text Go.Proofs.Tryz.prog impl_alternatives.F impl_alternatives.spec := textOf Go.Proofs.Tryz.f96
theorem impl_alternatives.ok : CtrOK Go.Proofs.Tryz.prog gl impl_alternatives.spec :=
  ctr_okS tabs impl_alternatives.text impl_alternatives.seg_eq (fun n x => ⟨.p0 x.1, rfl, rfl, rfl⟩) (consC impl_printed.ok (consC strings_IndexByte.ok (consC impl_alternatives_1.ok (nilC))))

/-! loop.example/g00039/impl.GoodPattern -/
def impl_GoodPattern.T : List Ctr := [impl_alternatives.spec]
def impl_GoodPattern.md : List (Nat × List Md) := []
noncomputable def impl_GoodPattern.F : Fun := ⟨(Go.Proofs.Tryz.f91.body).getD .skip, [.v .str], [(.tmp 2, .bool)], [], 0, []⟩
inductive impl_GoodPattern.Pt where
  | p0 (a0 : ByteArray)
def impl_GoodPattern.lb : impl_GoodPattern.Pt → Nat
  | .p0 _ => 0
def impl_GoodPattern.st : impl_GoodPattern.Pt → St
  | .p0 a0 => enter [.v .str a0] 0
def impl_GoodPattern.step (n : Nat) (K : impl_GoodPattern.Pt → Option (Tup [.bool])) : impl_GoodPattern.Pt → Option (Tup [.bool])
  | .p0 a0 => (impl_alternatives n a0).bind fun r4 => some r4.2
def impl_GoodPattern (n : Nat) (a0 : ByteArray) : Option (Tup [.bool]) := goRec impl_GoodPattern.step n (.p0 a0)
def impl_GoodPattern.spec : Ctr := ⟨91, [.v .str], [.bool], [], none, fun n x => impl_GoodPattern n x.1⟩
theorem impl_GoodPattern.seg_eq : SegEq ty gl impl_GoodPattern.F impl_GoodPattern.md impl_GoodPattern.T impl_GoodPattern.spec impl_GoodPattern.lb impl_GoodPattern.st impl_GoodPattern.step := by
  intro n goto y; cases y <;> kernel_rfl
theorem impl_GoodPattern.text : Text Go.Proofs.Tryz.prog impl_GoodPattern.F impl_GoodPattern.spec := textOf Go.Proofs.Tryz.f91
theorem impl_GoodPattern.ok : CtrOK Go.Proofs.Tryz.prog gl impl_GoodPattern.spec :=
  ctr_okS tabs impl_GoodPattern.text impl_GoodPattern.seg_eq (fun n x => ⟨.p0 x.1, rfl, rfl, rfl⟩) (consC impl_alternatives.ok (nilC))

/-! loop.example/g00039/impl.goodMatcher -/
def impl_goodMatcher.T : List Ctr := [impl_isName.spec, impl_printed.spec, impl_GoodPattern.spec]
def impl_goodMatcher.md : List (Nat × List Md) := []
noncomputable def impl_goodMatcher.F : Fun := ⟨(Go.Proofs.Tryz.f76.body).getD .skip, [.v (.pair .str (.pair (.int .i64) (.pair .str .unit)))], [(.tmp 2, .bool)], [], 0, [(4, ⟨[1, 22], [], [], false⟩)]⟩
inductive impl_goodMatcher.Pt where
  | p0 (a0 : (ByteArray) × ((Int) × ((ByteArray) × (Unit))))
  | p4 (y1 : Bool) (y2 : ByteArray) (y3 : Int) (y4 : ByteArray)
def impl_goodMatcher.lb : impl_goodMatcher.Pt → Nat
  | .p0 _ => 0
  | .p4 _ _ _ _ => 4
def impl_goodMatcher.st : impl_goodMatcher.Pt → St
  | .p0 a0 => enter [.v (.pair .str (.pair (.int .i64) (.pair .str .unit))) a0] 0
  | .p4 y1 y2 y3 y4 => ⟨[(1, .po 0 0), (22, .im .bool y1)], [(0, .obj [.im .str y2, .im (.int .i64) y3, .im .str y4])], 1⟩
def impl_goodMatcher.step (n : Nat) (K : impl_goodMatcher.Pt → Option (Tup [.bool])) : impl_goodMatcher.Pt → Option (Tup [.bool])
  | .p0 a0 => (impl_isName n a0.1).bind fun r4 => cond (!r4) (K (.p4 true a0.1 a0.2.1 a0.2.2.1)) (cond (decide (a0.2.1 < (1 : Int))) (K (.p4 true a0.1 a0.2.1 a0.2.2.1)) (cond (decide ((4 : Int) < a0.2.1)) (K (.p4 true a0.1 a0.2.1 a0.2.2.1)) ((impl_printed n a0.2.2.1 (100 : Int)).bind fun r5 => K (.p4 (!r5) a0.1 a0.2.1 a0.2.2.1))))
  | .p4 y1 y2 y3 y4 => cond y1 (some false) (cond (decide (y3 < (3 : Int))) (some true) ((impl_GoodPattern n y4).bind fun r7 => some r7))
def impl_goodMatcher (n : Nat) (a0 : (ByteArray) × ((Int) × ((ByteArray) × (Unit)))) : Option (Tup [.bool]) := goRec impl_goodMatcher.step n (.p0 a0)
def impl_goodMatcher.spec : Ctr := ⟨76, [.v (.pair .str (.pair (.int .i64) (.pair .str .unit)))], [.bool], [], none, fun n x => impl_goodMatcher n x.1⟩
theorem impl_goodMatcher.seg_eq : SegEq ty gl impl_goodMatcher.F impl_goodMatcher.md impl_goodMatcher.T impl_goodMatcher.spec impl_goodMatcher.lb impl_goodMatcher.st impl_goodMatcher.step := by
  intro n goto y; cases y <;> kernel_rfl
theorem impl_goodMatcher.text : Text Go.Proofs.Tryz.prog impl_goodMatcher.F impl_goodMatcher.spec := textOf Go.Proofs.Tryz.f76
theorem impl_goodMatcher.ok : CtrOK Go.Proofs.Tryz.prog gl impl_goodMatcher.spec :=
  ctr_okS tabs impl_goodMatcher.text impl_goodMatcher.seg_eq (fun n x => ⟨.p0 x.1, rfl, rfl, rfl⟩) (consC impl_isName.ok (consC impl_printed.ok (consC impl_GoodPattern.ok (nilC))))

/-! loop.example/g00039/impl.GoodMatchers$1 -/
def impl_GoodMatchers_1.T : List Ctr := [impl_goodMatcher.spec]
def impl_GoodMatchers_1.md : List (Nat × List Md) := []
noncomputable def impl_GoodMatchers_1.F : Fun := ⟨(Go.Proofs.Tryz.f75.body).getD .skip, [.v (.pair .str (.pair (.int .i64) (.pair .str .unit)))], [(.tmp 2, .bool)], [], 0, []⟩
inductive impl_GoodMatchers_1.Pt where
  | p0 (a0 : (ByteArray) × ((Int) × ((ByteArray) × (Unit))))
def impl_GoodMatchers_1.lb : impl_GoodMatchers_1.Pt → Nat
  | .p0 _ => 0
def impl_GoodMatchers_1.st : impl_GoodMatchers_1.Pt → St
  | .p0 a0 => enter [.v (.pair .str (.pair (.int .i64) (.pair .str .unit))) a0] 0
def impl_GoodMatchers_1.step (n : Nat) (K : impl_GoodMatchers_1.Pt → Option (Tup [.bool])) : impl_GoodMatchers_1.Pt → Option (Tup [.bool])
  | .p0 a0 => (impl_goodMatcher n a0).bind fun r4 => some (!r4)
def impl_GoodMatchers_1 (n : Nat) (a0 : (ByteArray) × ((Int) × ((ByteArray) × (Unit)))) : Option (Tup [.bool]) := goRec impl_GoodMatchers_1.step n (.p0 a0)
def impl_GoodMatchers_1.spec : Ctr := ⟨75, [.v (.pair .str (.pair (.int .i64) (.pair .str .unit)))], [.bool], [], none, fun n x => impl_GoodMatchers_1 n x.1⟩
theorem impl_GoodMatchers_1.seg_eq : SegEq ty gl impl_GoodMatchers_1.F impl_GoodMatchers_1.md impl_GoodMatchers_1.T impl_GoodMatchers_1.spec impl_GoodMatchers_1.lb impl_GoodMatchers_1.st impl_GoodMatchers_1.step := by
  intro n goto y; cases y <;> kernel_rfl
theorem impl_GoodMatchers_1.text : Text Go.Proofs.Tryz.prog impl_GoodMatchers_1.F impl_GoodMatchers_1.spec := textOf Go.Proofs.Tryz.f75
theorem impl_GoodMatchers_1.ok : CtrOK Go.Proofs.Tryz.prog gl impl_GoodMatchers_1.spec :=
  ctr_okS tabs impl_GoodMatchers_1.text impl_GoodMatchers_1.seg_eq (fun n x => ⟨.p0 x.1, rfl, rfl, rfl⟩) (consC impl_goodMatcher.ok (nilC))

/-! slices.IndexFunc[[]loop.example/g00039/impl.Matcher,loop.example/g00039/impl.Matcher] -/
def slices_IndexFunc_Matcher_impl_GoodMatchers_1.T : List Ctr := [impl_GoodMatchers_1.spec]
def slices_IndexFunc_Matcher_impl_GoodMatchers_1.md : List (Nat × List Md) := []
noncomputable def slices_IndexFunc_Matcher_impl_GoodMatchers_1.F : Fun := ⟨(Go.Proofs.Tryz.f89.body).getD .skip, [.v (.sl false (.pair .str (.pair (.int .i64) (.pair .str .unit)))), .fn 75 []], [(.tmp 4, (.int .i64))], [], 0, [(7, ⟨[0, 1, 7, 8], [], [], false⟩)]⟩
inductive slices_IndexFunc_Matcher_impl_GoodMatchers_1.Pt where
  | p0 (a0 : List ((ByteArray) × ((Int) × ((ByteArray) × (Unit)))))
  | p7 (y1 : List ((ByteArray) × ((Int) × ((ByteArray) × (Unit))))) (y2 : Int) (y3 : Int)
def slices_IndexFunc_Matcher_impl_GoodMatchers_1.lb : slices_IndexFunc_Matcher_impl_GoodMatchers_1.Pt → Nat
  | .p0 _ => 0
  | .p7 _ _ _ => 7
def slices_IndexFunc_Matcher_impl_GoodMatchers_1.st : slices_IndexFunc_Matcher_impl_GoodMatchers_1.Pt → St
  | .p0 a0 => enter [.v (.sl false (.pair .str (.pair (.int .i64) (.pair .str .unit)))) a0, .fn 75 []] 0
  | .p7 y1 y2 y3 => ⟨[(0, .im (.sl false (.pair .str (.pair (.int .i64) (.pair .str .unit)))) y1), (1, .fn 75 []), (7, .im (.int .i64) y2), (8, .im (.int .i64) y3)], [], 0⟩
def slices_IndexFunc_Matcher_impl_GoodMatchers_1.step (n : Nat) (K : slices_IndexFunc_Matcher_impl_GoodMatchers_1.Pt → Option (Tup [(.int .i64)])) : slices_IndexFunc_Matcher_impl_GoodMatchers_1.Pt → Option (Tup [(.int .i64)])
  | .p0 a0 => K (.p7 a0 ((List.length a0) : Int) (0 : Int))
  | .p7 y1 y2 y3 => cond (decide (y3 < y2)) (cond (inB y3 (List.length y1)) ((impl_GoodMatchers_1 n (List.getD y1 (Int.toNat y3) default)).bind fun r6 => cond r6 (some y3) (K (.p7 y1 y2 (IntKind.wrap .i64 (y3 + (1 : Int)))))) (none)) (some (-(1 : Int)))
def slices_IndexFunc_Matcher_impl_GoodMatchers_1 (n : Nat) (a0 : List ((ByteArray) × ((Int) × ((ByteArray) × (Unit))))) : Option (Tup [(.int .i64)]) := goRec slices_IndexFunc_Matcher_impl_GoodMatchers_1.step n (.p0 a0)
def slices_IndexFunc_Matcher_impl_GoodMatchers_1.spec : Ctr := ⟨89, [.v (.sl false (.pair .str (.pair (.int .i64) (.pair .str .unit)))), .fn 75 []], [(.int .i64)], [], none, fun n x => slices_IndexFunc_Matcher_impl_GoodMatchers_1 n x.1⟩
theorem slices_IndexFunc_Matcher_impl_GoodMatchers_1.seg_eq : SegEq ty gl slices_IndexFunc_Matcher_impl_GoodMatchers_1.F slices_IndexFunc_Matcher_impl_GoodMatchers_1.md slices_IndexFunc_Matcher_impl_GoodMatchers_1.T slices_IndexFunc_Matcher_impl_GoodMatchers_1.spec slices_IndexFunc_Matcher_impl_GoodMatchers_1.lb slices_IndexFunc_Matcher_impl_GoodMatchers_1.st slices_IndexFunc_Matcher_impl_GoodMatchers_1.step := by
  intro n goto y; cases y <;> kernel_rfl
theorem slices_IndexFunc_Matcher_impl_GoodMatchers_1.text : Text Go.Proofs.Tryz.prog slices_IndexFunc_Matcher_impl_GoodMatchers_1.F slices_IndexFunc_Matcher_impl_GoodMatchers_1.spec := textOf Go.Proofs.Tryz.f89
theorem slices_IndexFunc_Matcher_impl_GoodMatchers_1.ok : CtrOK Go.Proofs.Tryz.prog gl slices_IndexFunc_Matcher_impl_GoodMatchers_1.spec :=
  ctr_okS tabs slices_IndexFunc_Matcher_impl_GoodMatchers_1.text slices_IndexFunc_Matcher_impl_GoodMatchers_1.seg_eq (fun n x => ⟨.p0 x.1, rfl, rfl, rfl⟩) (consC impl_GoodMatchers_1.ok (nilC))

/-! slices.ContainsFunc[[]loop.example/g00039/impl.Matcher,loop.example/g00039/impl.Matcher] -/
def slices_ContainsFunc_Matcher_impl_GoodMatchers_1.T : List Ctr := [slices_IndexFunc_Matcher_impl_GoodMatchers_1.spec]
def slices_ContainsFunc_Matcher_impl_GoodMatchers_1.md : List (Nat × List Md) := [(89, [.v, .fn])]
noncomputable def slices_ContainsFunc_Matcher_impl_GoodMatchers_1.F : Fun := ⟨(Go.Proofs.Tryz.f74.body).getD .skip, [.v (.sl false (.pair .str (.pair (.int .i64) (.pair .str .unit)))), .fn 75 []], [(.tmp 4, .bool)], [], 0, []⟩
inductive slices_ContainsFunc_Matcher_impl_GoodMatchers_1.Pt where
  | p0 (a0 : List ((ByteArray) × ((Int) × ((ByteArray) × (Unit)))))
def slices_ContainsFunc_Matcher_impl_GoodMatchers_1.lb : slices_ContainsFunc_Matcher_impl_GoodMatchers_1.Pt → Nat
  | .p0 _ => 0
def slices_ContainsFunc_Matcher_impl_GoodMatchers_1.st : slices_ContainsFunc_Matcher_impl_GoodMatchers_1.Pt → St
  | .p0 a0 => enter [.v (.sl false (.pair .str (.pair (.int .i64) (.pair .str .unit)))) a0, .fn 75 []] 0
def slices_ContainsFunc_Matcher_impl_GoodMatchers_1.step (n : Nat) (K : slices_ContainsFunc_Matcher_impl_GoodMatchers_1.Pt → Option (Tup [.bool])) : slices_ContainsFunc_Matcher_impl_GoodMatchers_1.Pt → Option (Tup [.bool])
  | .p0 a0 => (slices_IndexFunc_Matcher_impl_GoodMatchers_1 n a0).bind fun (r4 : Int) => some (decide ((0 : Int) ≤ r4))
def slices_ContainsFunc_Matcher_impl_GoodMatchers_1 (n : Nat) (a0 : List ((ByteArray) × ((Int) × ((ByteArray) × (Unit))))) : Option (Tup [.bool]) := goRec slices_ContainsFunc_Matcher_impl_GoodMatchers_1.step n (.p0 a0)
def slices_ContainsFunc_Matcher_impl_GoodMatchers_1.spec : Ctr := ⟨74, [.v (.sl false (.pair .str (.pair (.int .i64) (.pair .str .unit)))), .fn 75 []], [.bool], [], none, fun n x => slices_ContainsFunc_Matcher_impl_GoodMatchers_1 n x.1⟩
theorem slices_ContainsFunc_Matcher_impl_GoodMatchers_1.seg_eq : SegEq ty gl slices_ContainsFunc_Matcher_impl_GoodMatchers_1.F slices_ContainsFunc_Matcher_impl_GoodMatchers_1.md slices_ContainsFunc_Matcher_impl_GoodMatchers_1.T slices_ContainsFunc_Matcher_impl_GoodMatchers_1.spec slices_ContainsFunc_Matcher_impl_GoodMatchers_1.lb slices_ContainsFunc_Matcher_impl_GoodMatchers_1.st slices_ContainsFunc_Matcher_impl_GoodMatchers_1.step := by
  intro n goto y; cases y <;> kernel_rfl
theorem slices_ContainsFunc_Matcher_impl_GoodMatchers_1.text : Text Go.Proofs.Tryz.prog slices_ContainsFunc_Matcher_impl_GoodMatchers_1.F slices_ContainsFunc_Matcher_impl_GoodMatchers_1.spec := textOf Go.Proofs.Tryz.f74
theorem slices_ContainsFunc_Matcher_impl_GoodMatchers_1.ok : CtrOK Go.Proofs.Tryz.prog gl slices_ContainsFunc_Matcher_impl_GoodMatchers_1.spec :=
  ctr_okS tabs slices_ContainsFunc_Matcher_impl_GoodMatchers_1.text slices_ContainsFunc_Matcher_impl_GoodMatchers_1.seg_eq (fun n x => ⟨.p0 x.1, rfl, rfl, rfl⟩) (consC slices_IndexFunc_Matcher_impl_GoodMatchers_1.ok (nilC))

/-! loop.example/g00039/impl.GoodMatchers -/
def impl_GoodMatchers.T : List Ctr := [impl_GoodMatchers_1.spec, slices_ContainsFunc_Matcher_impl_GoodMatchers_1.spec]
def impl_GoodMatchers.md : List (Nat × List Md) := [(74, [.v, .fn])]
noncomputable def impl_GoodMatchers.F : Fun := ⟨(Go.Proofs.Tryz.f55.body).getD .skip, [.v (.sl false (.pair .str (.pair (.int .i64) (.pair .str .unit))))], [(.tmp 2, .bool)], [], 0, []⟩
inductive impl_GoodMatchers.Pt where
  | p0 (a0 : List ((ByteArray) × ((Int) × ((ByteArray) × (Unit)))))
def impl_GoodMatchers.lb : impl_GoodMatchers.Pt → Nat
  | .p0 _ => 0
def impl_GoodMatchers.st : impl_GoodMatchers.Pt → St
  | .p0 a0 => enter [.v (.sl false (.pair .str (.pair (.int .i64) (.pair .str .unit)))) a0] 0
def impl_GoodMatchers.step (n : Nat) (K : impl_GoodMatchers.Pt → Option (Tup [.bool])) : impl_GoodMatchers.Pt → Option (Tup [.bool])
  | .p0 a0 => cond (decide (((List.length a0) : Int) ≤ (10 : Int))) ((slices_ContainsFunc_Matcher_impl_GoodMatchers_1 n a0).bind fun r4 => some (!r4)) (some false)
def impl_GoodMatchers (n : Nat) (a0 : List ((ByteArray) × ((Int) × ((ByteArray) × (Unit))))) : Option (Tup [.bool]) := goRec impl_GoodMatchers.step n (.p0 a0)
def impl_GoodMatchers.spec : Ctr := ⟨55, [.v (.sl false (.pair .str (.pair (.int .i64) (.pair .str .unit))))], [.bool], [], none, fun n x => impl_GoodMatchers n x.1⟩
theorem impl_GoodMatchers.seg_eq : SegEq ty gl impl_GoodMatchers.F impl_GoodMatchers.md impl_GoodMatchers.T impl_GoodMatchers.spec impl_GoodMatchers.lb impl_GoodMatchers.st impl_GoodMatchers.step := by
  intro n goto y; cases y <;> kernel_rfl
theorem impl_GoodMatchers.text : Text Go.Proofs.Tryz.prog impl_GoodMatchers.F impl_GoodMatchers.spec := textOf Go.Proofs.Tryz.f55
theorem impl_GoodMatchers.ok : CtrOK Go.Proofs.Tryz.prog gl impl_GoodMatchers.spec :=
  ctr_okS tabs impl_GoodMatchers.text impl_GoodMatchers.seg_eq (fun n x => ⟨.p0 x.1, rfl, rfl, rfl⟩) (consC impl_GoodMatchers_1.ok (consC slices_ContainsFunc_Matcher_impl_GoodMatchers_1.ok (nilC)))

/-! loop.example/g00039/impl.rising[string] -/
def impl_rising_string.T : List Ctr := []
def impl_rising_string.md : List (Nat × List Md) := []
noncomputable def impl_rising_string.F : Fun := ⟨(Go.Proofs.Tryz.f77.body).getD .skip, [.v (.sl false .str)], [(.tmp 2, .bool)], [], 0, [(7, ⟨[0, 3], [], [], false⟩)]⟩
inductive impl_rising_string.Pt where
  | p0 (a0 : List (ByteArray))
  | p7 (y1 : List (ByteArray)) (y2 : Int)
def impl_rising_string.lb : impl_rising_string.Pt → Nat
  | .p0 _ => 0
  | .p7 _ _ => 7
def impl_rising_string.st : impl_rising_string.Pt → St
  | .p0 a0 => enter [.v (.sl false .str) a0] 0
  | .p7 y1 y2 => ⟨[(0, .im (.sl false .str) y1), (3, .im (.int .i64) y2)], [], 0⟩
def impl_rising_string.step (n : Nat) (K : impl_rising_string.Pt → Option (Tup [.bool])) : impl_rising_string.Pt → Option (Tup [.bool])
  | .p0 a0 => K (.p7 a0 (1 : Int))
  | .p7 y1 y2 => cond (decide (y2 < ((List.length y1) : Int))) (cond (inB (IntKind.wrap .i64 (y2 - (1 : Int))) (List.length y1)) (cond (inB y2 (List.length y1)) (cond (!(slt (List.getD y1 (Int.toNat (IntKind.wrap .i64 (y2 - (1 : Int)))) default) (List.getD y1 (Int.toNat y2) default))) (some false) (K (.p7 y1 (IntKind.wrap .i64 (y2 + (1 : Int)))))) (none)) (none)) (some true)
def impl_rising_string (n : Nat) (a0 : List (ByteArray)) : Option (Tup [.bool]) := goRec impl_rising_string.step n (.p0 a0)
def impl_rising_string.spec : Ctr := ⟨77, [.v (.sl false .str)], [.bool], [], none, fun n x => impl_rising_string n x.1⟩
theorem impl_rising_string.seg_eq : SegEq ty gl impl_rising_string.F impl_rising_string.md impl_rising_string.T impl_rising_string.spec impl_rising_string.lb impl_rising_string.st impl_rising_string.step := by
  intro n goto y; cases y <;> kernel_rfl
theorem impl_rising_string.text : Text Go.Proofs.Tryz.prog impl_rising_string.F impl_rising_string.spec := textOf Go.Proofs.Tryz.f77
theorem impl_rising_string.ok : CtrOK Go.Proofs.Tryz.prog gl impl_rising_string.spec :=
  ctr_okS tabs impl_rising_string.text impl_rising_string.seg_eq (fun n x => ⟨.p0 x.1, rfl, rfl, rfl⟩) (nilC)

/-! loop.example/g00039/impl.goodNames$1 -/
def impl_goodNames_1.T : List Ctr := [impl_isName.spec]
def impl_goodNames_1.md : List (Nat × List Md) := []
noncomputable def impl_goodNames_1.F : Fun := ⟨(Go.Proofs.Tryz.f79.body).getD .skip, [.v .str], [(.tmp 2, .bool)], [], 0, []⟩
inductive impl_goodNames_1.Pt where
  | p0 (a0 : ByteArray)
def impl_goodNames_1.lb : impl_goodNames_1.Pt → Nat
  | .p0 _ => 0
def impl_goodNames_1.st : impl_goodNames_1.Pt → St
  | .p0 a0 => enter [.v .str a0] 0
def impl_goodNames_1.step (n : Nat) (K : impl_goodNames_1.Pt → Option (Tup [.bool])) : impl_goodNames_1.Pt → Option (Tup [.bool])
  | .p0 a0 => (impl_isName n a0).bind fun r4 => some (!r4)
def impl_goodNames_1 (n : Nat) (a0 : ByteArray) : Option (Tup [.bool]) := goRec impl_goodNames_1.step n (.p0 a0)
def impl_goodNames_1.spec : Ctr := ⟨79, [.v .str], [.bool], [], none, fun n x => impl_goodNames_1 n x.1⟩
theorem impl_goodNames_1.seg_eq : SegEq ty gl impl_goodNames_1.F impl_goodNames_1.md impl_goodNames_1.T impl_goodNames_1.spec impl_goodNames_1.lb impl_goodNames_1.st impl_goodNames_1.step := by
  intro n goto y; cases y <;> kernel_rfl
theorem impl_goodNames_1.text : Text Go.Proofs.Tryz.prog impl_goodNames_1.F impl_goodNames_1.spec := textOf Go.Proofs.Tryz.f79
theorem impl_goodNames_1.ok : CtrOK Go.Proofs.Tryz.prog gl impl_goodNames_1.spec :=
  ctr_okS tabs impl_goodNames_1.text impl_goodNames_1.seg_eq (fun n x => ⟨.p0 x.1, rfl, rfl, rfl⟩) (consC impl_isName.ok (nilC))

/-! slices.IndexFunc[[]string,string] -/
def slices_IndexFunc_string_impl_goodNames_1.T : List Ctr := [impl_goodNames_1.spec]
def slices_IndexFunc_string_impl_goodNames_1.md : List (Nat × List Md) := []
noncomputable def slices_IndexFunc_string_impl_goodNames_1.F : Fun := ⟨(Go.Proofs.Tryz.f92.body).getD .skip, [.v (.sl false .str), .fn 79 []], [(.tmp 4, (.int .i64))], [], 0, [(7, ⟨[0, 1, 7, 8], [], [], false⟩)]⟩
inductive slices_IndexFunc_string_impl_goodNames_1.Pt where
  | p0 (a0 : List (ByteArray))
  | p7 (y1 : List (ByteArray)) (y2 : Int) (y3 : Int)
def slices_IndexFunc_string_impl_goodNames_1.lb : slices_IndexFunc_string_impl_goodNames_1.Pt → Nat
  | .p0 _ => 0
  | .p7 _ _ _ => 7
def slices_IndexFunc_string_impl_goodNames_1.st : slices_IndexFunc_string_impl_goodNames_1.Pt → St
  | .p0 a0 => enter [.v (.sl false .str) a0, .fn 79 []] 0
  | .p7 y1 y2 y3 => ⟨[(0, .im (.sl false .str) y1), (1, .fn 79 []), (7, .im (.int .i64) y2), (8, .im (.int .i64) y3)], [], 0⟩
def slices_IndexFunc_string_impl_goodNames_1.step (n : Nat) (K : slices_IndexFunc_string_impl_goodNames_1.Pt → Option (Tup [(.int .i64)])) : slices_IndexFunc_string_impl_goodNames_1.Pt → Option (Tup [(.int .i64)])
  | .p0 a0 => K (.p7 a0 ((List.length a0) : Int) (0 : Int))
  | .p7 y1 y2 y3 => cond (decide (y3 < y2)) (cond (inB y3 (List.length y1)) ((impl_goodNames_1 n (List.getD y1 (Int.toNat y3) default)).bind fun r6 => cond r6 (some y3) (K (.p7 y1 y2 (IntKind.wrap .i64 (y3 + (1 : Int)))))) (none)) (some (-(1 : Int)))
def slices_IndexFunc_string_impl_goodNames_1 (n : Nat) (a0 : List (ByteArray)) : Option (Tup [(.int .i64)]) := goRec slices_IndexFunc_string_impl_goodNames_1.step n (.p0 a0)
def slices_IndexFunc_string_impl_goodNames_1.spec : Ctr := ⟨92, [.v (.sl false .str), .fn 79 []], [(.int .i64)], [], none, fun n x => slices_IndexFunc_string_impl_goodNames_1 n x.1⟩
theorem slices_IndexFunc_string_impl_goodNames_1.seg_eq : SegEq ty gl slices_IndexFunc_string_impl_goodNames_1.F slices_IndexFunc_string_impl_goodNames_1.md slices_IndexFunc_string_impl_goodNames_1.T slices_IndexFunc_string_impl_goodNames_1.spec slices_IndexFunc_string_impl_goodNames_1.lb slices_IndexFunc_string_impl_goodNames_1.st slices_IndexFunc_string_impl_goodNames_1.step := by
  intro n goto y; cases y <;> kernel_rfl
theorem slices_IndexFunc_string_impl_goodNames_1.text : Text Go.Proofs.Tryz.prog slices_IndexFunc_string_impl_goodNames_1.F slices_IndexFunc_string_impl_goodNames_1.spec := textOf Go.Proofs.Tryz.f92
theorem slices_IndexFunc_string_impl_goodNames_1.ok : CtrOK Go.Proofs.Tryz.prog gl slices_IndexFunc_string_impl_goodNames_1.spec :=
  ctr_okS tabs slices_IndexFunc_string_impl_goodNames_1.text slices_IndexFunc_string_impl_goodNames_1.seg_eq (fun n x => ⟨.p0 x.1, rfl, rfl, rfl⟩) (consC impl_goodNames_1.ok (nilC))

/-! slices.ContainsFunc[[]string,string] -/
def slices_ContainsFunc_string_impl_goodNames_1.T : List Ctr := [slices_IndexFunc_string_impl_goodNames_1.spec]
def slices_ContainsFunc_string_impl_goodNames_1.md : List (Nat × List Md) := [(92, [.v, .fn])]
noncomputable def slices_ContainsFunc_string_impl_goodNames_1.F : Fun := ⟨(Go.Proofs.Tryz.f78.body).getD .skip, [.v (.sl false .str), .fn 79 []], [(.tmp 4, .bool)], [], 0, []⟩
inductive slices_ContainsFunc_string_impl_goodNames_1.Pt where
  | p0 (a0 : List (ByteArray))
def slices_ContainsFunc_string_impl_goodNames_1.lb : slices_ContainsFunc_string_impl_goodNames_1.Pt → Nat
  | .p0 _ => 0
def slices_ContainsFunc_string_impl_goodNames_1.st : slices_ContainsFunc_string_impl_goodNames_1.Pt → St
  | .p0 a0 => enter [.v (.sl false .str) a0, .fn 79 []] 0
def slices_ContainsFunc_string_impl_goodNames_1.step (n : Nat) (K : slices_ContainsFunc_string_impl_goodNames_1.Pt → Option (Tup [.bool])) : slices_ContainsFunc_string_impl_goodNames_1.Pt → Option (Tup [.bool])
  | .p0 a0 => (slices_IndexFunc_string_impl_goodNames_1 n a0).bind fun (r4 : Int) => some (decide ((0 : Int) ≤ r4))
def slices_ContainsFunc_string_impl_goodNames_1 (n : Nat) (a0 : List (ByteArray)) : Option (Tup [.bool]) := goRec slices_ContainsFunc_string_impl_goodNames_1.step n (.p0 a0)
def slices_ContainsFunc_string_impl_goodNames_1.spec : Ctr := ⟨78, [.v (.sl false .str), .fn 79 []], [.bool], [], none, fun n x => slices_ContainsFunc_string_impl_goodNames_1 n x.1⟩
theorem slices_ContainsFunc_string_impl_goodNames_1.seg_eq : SegEq ty gl slices_ContainsFunc_string_impl_goodNames_1.F slices_ContainsFunc_string_impl_goodNames_1.md slices_ContainsFunc_string_impl_goodNames_1.T slices_ContainsFunc_string_impl_goodNames_1.spec slices_ContainsFunc_string_impl_goodNames_1.lb slices_ContainsFunc_string_impl_goodNames_1.st slices_ContainsFunc_string_impl_goodNames_1.step := by
  intro n goto y; cases y <;> kernel_rfl
theorem slices_ContainsFunc_string_impl_goodNames_1.text : Text Go.Proofs.Tryz.prog slices_ContainsFunc_string_impl_goodNames_1.F slices_ContainsFunc_string_impl_goodNames_1.spec := textOf Go.Proofs.Tryz.f78
theorem slices_ContainsFunc_string_impl_goodNames_1.ok : CtrOK Go.Proofs.Tryz.prog gl slices_ContainsFunc_string_impl_goodNames_1.spec :=
  ctr_okS tabs slices_ContainsFunc_string_impl_goodNames_1.text slices_ContainsFunc_string_impl_goodNames_1.seg_eq (fun n x => ⟨.p0 x.1, rfl, rfl, rfl⟩) (consC slices_IndexFunc_string_impl_goodNames_1.ok (nilC))

/-! loop.example/g00039/impl.goodNames -/
def impl_goodNames.T : List Ctr := [impl_rising_string.spec, impl_goodNames_1.spec, slices_ContainsFunc_string_impl_goodNames_1.spec]
def impl_goodNames.md : List (Nat × List Md) := [(78, [.v, .fn])]
noncomputable def impl_goodNames.F : Fun := ⟨(Go.Proofs.Tryz.f56.body).getD .skip, [.v (.sl false .str)], [(.tmp 2, .bool)], [], 0, []⟩
inductive impl_goodNames.Pt where
  | p0 (a0 : List (ByteArray))
def impl_goodNames.lb : impl_goodNames.Pt → Nat
  | .p0 _ => 0
def impl_goodNames.st : impl_goodNames.Pt → St
  | .p0 a0 => enter [.v (.sl false .str) a0] 0
def impl_goodNames.step (n : Nat) (K : impl_goodNames.Pt → Option (Tup [.bool])) : impl_goodNames.Pt → Option (Tup [.bool])
  | .p0 a0 => cond (decide (((List.length a0) : Int) ≤ (10 : Int))) ((impl_rising_string n a0).bind fun r4 => cond r4 ((slices_ContainsFunc_string_impl_goodNames_1 n a0).bind fun r5 => some (!r5)) (some false)) (some false)
def impl_goodNames (n : Nat) (a0 : List (ByteArray)) : Option (Tup [.bool]) := goRec impl_goodNames.step n (.p0 a0)
def impl_goodNames.spec : Ctr := ⟨56, [.v (.sl false .str)], [.bool], [], none, fun n x => impl_goodNames n x.1⟩
theorem impl_goodNames.seg_eq : SegEq ty gl impl_goodNames.F impl_goodNames.md impl_goodNames.T impl_goodNames.spec impl_goodNames.lb impl_goodNames.st impl_goodNames.step := by
  intro n goto y; cases y <;> kernel_rfl
theorem impl_goodNames.text : Text Go.Proofs.Tryz.prog impl_goodNames.F impl_goodNames.spec := textOf Go.Proofs.Tryz.f56
theorem impl_goodNames.ok : CtrOK Go.Proofs.Tryz.prog gl impl_goodNames.spec :=
  ctr_okS tabs impl_goodNames.text impl_goodNames.seg_eq (fun n x => ⟨.p0 x.1, rfl, rfl, rfl⟩) (consC impl_rising_string.ok (consC impl_goodNames_1.ok (consC slices_ContainsFunc_string_impl_goodNames_1.ok (nilC))))

/-! loop.example/g00039/impl.isTime -/
def impl_isTime.T : List Ctr := []
def impl_isTime.md : List (Nat × List Md) := []
noncomputable def impl_isTime.F : Fun := ⟨(Go.Proofs.Tryz.f57.body).getD .skip, [.v (.int .i64)], [(.tmp 2, .bool)], [], 0, []⟩
inductive impl_isTime.Pt where
  | p0 (a0 : Int)
def impl_isTime.lb : impl_isTime.Pt → Nat
  | .p0 _ => 0
def impl_isTime.st : impl_isTime.Pt → St
  | .p0 a0 => enter [.v (.int .i64) a0] 0
def impl_isTime.step (n : Nat) (K : impl_isTime.Pt → Option (Tup [.bool])) : impl_isTime.Pt → Option (Tup [.bool])
  | .p0 a0 => cond (decide ((0 : Int) ≤ a0)) (some (decide (a0 ≤ (1000000000000 : Int)))) (some false)
def impl_isTime (n : Nat) (a0 : Int) : Option (Tup [.bool]) := goRec impl_isTime.step n (.p0 a0)
def impl_isTime.spec : Ctr := ⟨57, [.v (.int .i64)], [.bool], [], none, fun n x => impl_isTime n x.1⟩
theorem impl_isTime.seg_eq : SegEq ty gl impl_isTime.F impl_isTime.md impl_isTime.T impl_isTime.spec impl_isTime.lb impl_isTime.st impl_isTime.step := by
  intro n goto y; cases y <;> kernel_rfl
theorem impl_isTime.text : Text Go.Proofs.Tryz.prog impl_isTime.F impl_isTime.spec := textOf Go.Proofs.Tryz.f57
theorem impl_isTime.ok : CtrOK Go.Proofs.Tryz.prog gl impl_isTime.spec :=
  ctr_okS tabs impl_isTime.text impl_isTime.seg_eq (fun n x => ⟨.p0 x.1, rfl, rfl, rfl⟩) (nilC)

/-! loop.example/g00039/impl.rising[int] -/
def impl_rising_int.T : List Ctr := []
def impl_rising_int.md : List (Nat × List Md) := []
noncomputable def impl_rising_int.F : Fun := ⟨(Go.Proofs.Tryz.f58.body).getD .skip, [.v (.sl false (.int .i64))], [(.tmp 2, .bool)], [], 0, [(7, ⟨[0, 3], [], [], false⟩)]⟩
inductive impl_rising_int.Pt where
  | p0 (a0 : List (Int))
  | p7 (y1 : List (Int)) (y2 : Int)
def impl_rising_int.lb : impl_rising_int.Pt → Nat
  | .p0 _ => 0
  | .p7 _ _ => 7
def impl_rising_int.st : impl_rising_int.Pt → St
  | .p0 a0 => enter [.v (.sl false (.int .i64)) a0] 0
  | .p7 y1 y2 => ⟨[(0, .im (.sl false (.int .i64)) y1), (3, .im (.int .i64) y2)], [], 0⟩
def impl_rising_int.step (n : Nat) (K : impl_rising_int.Pt → Option (Tup [.bool])) : impl_rising_int.Pt → Option (Tup [.bool])
  | .p0 a0 => K (.p7 a0 (1 : Int))
  | .p7 y1 y2 => cond (decide (y2 < ((List.length y1) : Int))) (cond (inB (IntKind.wrap .i64 (y2 - (1 : Int))) (List.length y1)) (cond (inB y2 (List.length y1)) (cond (decide ((List.getD y1 (Int.toNat y2) default) ≤ (List.getD y1 (Int.toNat (IntKind.wrap .i64 (y2 - (1 : Int)))) default))) (some false) (K (.p7 y1 (IntKind.wrap .i64 (y2 + (1 : Int)))))) (none)) (none)) (some true)
def impl_rising_int (n : Nat) (a0 : List (Int)) : Option (Tup [.bool]) := goRec impl_rising_int.step n (.p0 a0)
def impl_rising_int.spec : Ctr := ⟨58, [.v (.sl false (.int .i64))], [.bool], [], none, fun n x => impl_rising_int n x.1⟩
theorem impl_rising_int.seg_eq : SegEq ty gl impl_rising_int.F impl_rising_int.md impl_rising_int.T impl_rising_int.spec impl_rising_int.lb impl_rising_int.st impl_rising_int.step := by
  intro n goto y; cases y <;> kernel_rfl
theorem impl_rising_int.text : Text Go.Proofs.Tryz.prog impl_rising_int.F impl_rising_int.spec := textOf Go.Proofs.Tryz.f58
theorem impl_rising_int.ok : CtrOK Go.Proofs.Tryz.prog gl impl_rising_int.spec :=
  ctr_okS tabs impl_rising_int.text impl_rising_int.seg_eq (fun n x => ⟨.p0 x.1, rfl, rfl, rfl⟩) (nilC)

/-! loop.example/g00039/impl.goodRoute -/
def impl_goodRoute.T : List Ctr := [impl_isName.spec, impl_GoodMatchers.spec, impl_goodNames.spec, impl_isTime.spec, impl_rising_int.spec]
def impl_goodRoute.md : List (Nat × List Md) := []
noncomputable def impl_goodRoute.F : Fun := ⟨(Go.Proofs.Tryz.f35.body).getD .skip, [.v (.pair .str (.pair (.sl false (.pair .str (.pair (.int .i64) (.pair .str .unit)))) (.pair (.sl false .str) (.pair (.int .i64) (.pair (.int .i64) (.pair (.int .i64) (.pair (.sl false (.int .i64)) (.pair .bool (.pair (.int .i64) .unit)))))))))], [(.tmp 2, .bool)], [], 0, [(4, ⟨[1, 60], [], [(1, 1, (.pair .str (.pair (.int .i64) (.pair .str .unit)))), (1, 2, .str), (1, 6, (.int .i64))], false⟩), (15, ⟨[62, 63, 64], [(62, (.int .i64))], [], false⟩)]⟩
inductive impl_goodRoute.Pt where
  | p0 (a0 : (ByteArray) × ((List ((ByteArray) × ((Int) × ((ByteArray) × (Unit))))) × ((List (ByteArray)) × ((Int) × ((Int) × ((Int) × ((List (Int)) × ((Bool) × ((Int) × (Unit))))))))))
  | p4 (y1 : Bool) (y2 : ByteArray) (y3 : List ((ByteArray) × ((Int) × ((ByteArray) × (Unit))))) (y4 : List (ByteArray)) (y5 : Int) (y6 : Int) (y7 : Int) (y8 : List (Int)) (y9 : Bool) (y10 : Int)
  | p15 (y1 : List (Int)) (y2 : Int) (y3 : Int)
def impl_goodRoute.lb : impl_goodRoute.Pt → Nat
  | .p0 _ => 0
  | .p4 _ _ _ _ _ _ _ _ _ _ => 4
  | .p15 _ _ _ => 15
def impl_goodRoute.st : impl_goodRoute.Pt → St
  | .p0 a0 => enter [.v (.pair .str (.pair (.sl false (.pair .str (.pair (.int .i64) (.pair .str .unit)))) (.pair (.sl false .str) (.pair (.int .i64) (.pair (.int .i64) (.pair (.int .i64) (.pair (.sl false (.int .i64)) (.pair .bool (.pair (.int .i64) .unit))))))))) a0] 0
  | .p4 y1 y2 y3 y4 y5 y6 y7 y8 y9 y10 => ⟨[(1, .po 0 0), (60, .im .bool y1)], [(0, .obj [.im .str y2, .im (.sl false (.pair .str (.pair (.int .i64) (.pair .str .unit)))) y3, .im (.sl false .str) y4, .im (.int .i64) y5, .im (.int .i64) y6, .im (.int .i64) y7, .im (.sl false (.int .i64)) y8, .im .bool y9, .im (.int .i64) y10])], 1⟩
  | .p15 y1 y2 y3 => ⟨[(62, .im (.sl false (.int .i64)) y1), (63, .im (.int .i64) y2), (64, .im (.int .i64) y3)], [], 0⟩
def impl_goodRoute.step (n : Nat) (K : impl_goodRoute.Pt → Option (Tup [.bool])) : impl_goodRoute.Pt → Option (Tup [.bool])
  | .p0 a0 => (impl_isName n a0.1).bind fun r4 => cond (!r4) (K (.p4 true a0.1 a0.2.1 a0.2.2.1 a0.2.2.2.1 a0.2.2.2.2.1 a0.2.2.2.2.2.1 a0.2.2.2.2.2.2.1 a0.2.2.2.2.2.2.2.1 a0.2.2.2.2.2.2.2.2.1)) ((impl_GoodMatchers n a0.2.1).bind fun r5 => cond (!r5) (K (.p4 true a0.1 a0.2.1 a0.2.2.1 a0.2.2.2.1 a0.2.2.2.2.1 a0.2.2.2.2.2.1 a0.2.2.2.2.2.2.1 a0.2.2.2.2.2.2.2.1 a0.2.2.2.2.2.2.2.2.1)) ((impl_goodNames n a0.2.2.1).bind fun r6 => cond (!r6) (K (.p4 true a0.1 a0.2.1 a0.2.2.1 a0.2.2.2.1 a0.2.2.2.2.1 a0.2.2.2.2.2.1 a0.2.2.2.2.2.2.1 a0.2.2.2.2.2.2.2.1 a0.2.2.2.2.2.2.2.2.1)) ((impl_isTime n a0.2.2.2.1).bind fun r7 => cond (!r7) (K (.p4 true a0.1 a0.2.1 a0.2.2.1 a0.2.2.2.1 a0.2.2.2.2.1 a0.2.2.2.2.2.1 a0.2.2.2.2.2.2.1 a0.2.2.2.2.2.2.2.1 a0.2.2.2.2.2.2.2.2.1)) ((impl_isTime n a0.2.2.2.2.1).bind fun r8 => cond (!r8) (K (.p4 true a0.1 a0.2.1 a0.2.2.1 a0.2.2.2.1 a0.2.2.2.2.1 a0.2.2.2.2.2.1 a0.2.2.2.2.2.2.1 a0.2.2.2.2.2.2.2.1 a0.2.2.2.2.2.2.2.2.1)) (cond (decide (a0.2.2.2.2.1 = (0 : Int))) (K (.p4 true a0.1 a0.2.1 a0.2.2.1 a0.2.2.2.1 a0.2.2.2.2.1 a0.2.2.2.2.2.1 a0.2.2.2.2.2.2.1 a0.2.2.2.2.2.2.2.1 a0.2.2.2.2.2.2.2.2.1)) ((impl_isTime n a0.2.2.2.2.2.1).bind fun r9 => cond (!r9) (K (.p4 true a0.1 a0.2.1 a0.2.2.1 a0.2.2.2.1 a0.2.2.2.2.1 a0.2.2.2.2.2.1 a0.2.2.2.2.2.2.1 a0.2.2.2.2.2.2.2.1 a0.2.2.2.2.2.2.2.2.1)) (cond (decide (a0.2.2.2.2.2.1 = (0 : Int))) (K (.p4 true a0.1 a0.2.1 a0.2.2.1 a0.2.2.2.1 a0.2.2.2.2.1 a0.2.2.2.2.2.1 a0.2.2.2.2.2.2.1 a0.2.2.2.2.2.2.2.1 a0.2.2.2.2.2.2.2.2.1)) (cond (decide ((20 : Int) < ((List.length a0.2.2.2.2.2.2.1) : Int))) (K (.p4 true a0.1 a0.2.1 a0.2.2.1 a0.2.2.2.1 a0.2.2.2.2.1 a0.2.2.2.2.2.1 a0.2.2.2.2.2.2.1 a0.2.2.2.2.2.2.2.1 a0.2.2.2.2.2.2.2.2.1)) ((impl_rising_int n a0.2.2.2.2.2.2.1).bind fun r10 => K (.p4 (!r10) a0.1 a0.2.1 a0.2.2.1 a0.2.2.2.1 a0.2.2.2.2.1 a0.2.2.2.2.2.1 a0.2.2.2.2.2.2.1 a0.2.2.2.2.2.2.2.1 a0.2.2.2.2.2.2.2.2.1))))))))))
  | .p4 y1 y2 y3 y4 y5 y6 y7 y8 y9 y10 => cond y1 (some false) (K (.p15 y8 ((List.length y8) : Int) (0 : Int)))
  | .p15 y1 y2 y3 => cond (decide (y3 < y2)) (cond (inB y3 (List.length y1)) (cond (decide ((List.getD y1 (Int.toNat y3) default) < (0 : Int))) (some false) (cond (decide ((20 : Int) ≤ (List.getD y1 (Int.toNat y3) default))) (some false) (K (.p15 y1 y2 (IntKind.wrap .i64 (y3 + (1 : Int))))))) (none)) (some true)
def impl_goodRoute (n : Nat) (a0 : (ByteArray) × ((List ((ByteArray) × ((Int) × ((ByteArray) × (Unit))))) × ((List (ByteArray)) × ((Int) × ((Int) × ((Int) × ((List (Int)) × ((Bool) × ((Int) × (Unit)))))))))) : Option (Tup [.bool]) := goRec impl_goodRoute.step n (.p0 a0)
def impl_goodRoute.spec : Ctr := ⟨35, [.v (.pair .str (.pair (.sl false (.pair .str (.pair (.int .i64) (.pair .str .unit)))) (.pair (.sl false .str) (.pair (.int .i64) (.pair (.int .i64) (.pair (.int .i64) (.pair (.sl false (.int .i64)) (.pair .bool (.pair (.int .i64) .unit)))))))))], [.bool], [], none, fun n x => impl_goodRoute n x.1⟩
theorem impl_goodRoute.seg_eq : SegEq ty gl impl_goodRoute.F impl_goodRoute.md impl_goodRoute.T impl_goodRoute.spec impl_goodRoute.lb impl_goodRoute.st impl_goodRoute.step := by
  intro n goto y; cases y <;> kernel_rfl
theorem impl_goodRoute.text : Text Go.Proofs.Tryz.prog impl_goodRoute.F impl_goodRoute.spec := textOf Go.Proofs.Tryz.f35
theorem impl_goodRoute.ok : CtrOK Go.Proofs.Tryz.prog gl impl_goodRoute.spec :=
  ctr_okS tabs impl_goodRoute.text impl_goodRoute.seg_eq (fun n x => ⟨.p0 x.1, rfl, rfl, rfl⟩) (consC impl_isName.ok (consC impl_GoodMatchers.ok (consC impl_goodNames.ok (consC impl_isTime.ok (consC impl_rising_int.ok (nilC))))))

/-! loop.example/g00039/impl.GoodRoutes$1 -/
def impl_GoodRoutes_1.T : List Ctr := [impl_goodRoute.spec]
def impl_GoodRoutes_1.md : List (Nat × List Md) := []
noncomputable def impl_GoodRoutes_1.F : Fun := ⟨(Go.Proofs.Tryz.f34.body).getD .skip, [.v (.pair .str (.pair (.sl false (.pair .str (.pair (.int .i64) (.pair .str .unit)))) (.pair (.sl false .str) (.pair (.int .i64) (.pair (.int .i64) (.pair (.int .i64) (.pair (.sl false (.int .i64)) (.pair .bool (.pair (.int .i64) .unit)))))))))], [(.tmp 2, .bool)], [], 0, []⟩
inductive impl_GoodRoutes_1.Pt where
  | p0 (a0 : (ByteArray) × ((List ((ByteArray) × ((Int) × ((ByteArray) × (Unit))))) × ((List (ByteArray)) × ((Int) × ((Int) × ((Int) × ((List (Int)) × ((Bool) × ((Int) × (Unit))))))))))
def impl_GoodRoutes_1.lb : impl_GoodRoutes_1.Pt → Nat
  | .p0 _ => 0
def impl_GoodRoutes_1.st : impl_GoodRoutes_1.Pt → St
  | .p0 a0 => enter [.v (.pair .str (.pair (.sl false (.pair .str (.pair (.int .i64) (.pair .str .unit)))) (.pair (.sl false .str) (.pair (.int .i64) (.pair (.int .i64) (.pair (.int .i64) (.pair (.sl false (.int .i64)) (.pair .bool (.pair (.int .i64) .unit))))))))) a0] 0
def impl_GoodRoutes_1.step (n : Nat) (K : impl_GoodRoutes_1.Pt → Option (Tup [.bool])) : impl_GoodRoutes_1.Pt → Option (Tup [.bool])
  | .p0 a0 => (impl_goodRoute n a0).bind fun r4 => some (!r4)
def impl_GoodRoutes_1 (n : Nat) (a0 : (ByteArray) × ((List ((ByteArray) × ((Int) × ((ByteArray) × (Unit))))) × ((List (ByteArray)) × ((Int) × ((Int) × ((Int) × ((List (Int)) × ((Bool) × ((Int) × (Unit)))))))))) : Option (Tup [.bool]) := goRec impl_GoodRoutes_1.step n (.p0 a0)
def impl_GoodRoutes_1.spec : Ctr := ⟨34, [.v (.pair .str (.pair (.sl false (.pair .str (.pair (.int .i64) (.pair .str .unit)))) (.pair (.sl false .str) (.pair (.int .i64) (.pair (.int .i64) (.pair (.int .i64) (.pair (.sl false (.int .i64)) (.pair .bool (.pair (.int .i64) .unit)))))))))], [.bool], [], none, fun n x => impl_GoodRoutes_1 n x.1⟩
theorem impl_GoodRoutes_1.seg_eq : SegEq ty gl impl_GoodRoutes_1.F impl_GoodRoutes_1.md impl_GoodRoutes_1.T impl_GoodRoutes_1.spec impl_GoodRoutes_1.lb impl_GoodRoutes_1.st impl_GoodRoutes_1.step := by
  intro n goto y; cases y <;> kernel_rfl
theorem impl_GoodRoutes_1.text : Text Go.Proofs.Tryz.prog impl_GoodRoutes_1.F impl_GoodRoutes_1.spec := textOf Go.Proofs.Tryz.f34
theorem impl_GoodRoutes_1.ok : CtrOK Go.Proofs.Tryz.prog gl impl_GoodRoutes_1.spec :=
  ctr_okS tabs impl_GoodRoutes_1.text impl_GoodRoutes_1.seg_eq (fun n x => ⟨.p0 x.1, rfl, rfl, rfl⟩) (consC impl_goodRoute.ok (nilC))

/-! slices.IndexFunc[[]loop.example/g00039/impl.Route,loop.example/g00039/impl.Route] -/
def slices_IndexFunc_Route_impl_GoodRoutes_1.T : List Ctr := [impl_GoodRoutes_1.spec]
def slices_IndexFunc_Route_impl_GoodRoutes_1.md : List (Nat × List Md) := []
noncomputable def slices_IndexFunc_Route_impl_GoodRoutes_1.F : Fun := ⟨(Go.Proofs.Tryz.f53.body).getD .skip, [.v (.sl false (.pair .str (.pair (.sl false (.pair .str (.pair (.int .i64) (.pair .str .unit)))) (.pair (.sl false .str) (.pair (.int .i64) (.pair (.int .i64) (.pair (.int .i64) (.pair (.sl false (.int .i64)) (.pair .bool (.pair (.int .i64) .unit)))))))))), .fn 34 []], [(.tmp 4, (.int .i64))], [], 0, [(7, ⟨[0, 1, 7, 8], [], [], false⟩)]⟩
inductive slices_IndexFunc_Route_impl_GoodRoutes_1.Pt where
  | p0 (a0 : List ((ByteArray) × ((List ((ByteArray) × ((Int) × ((ByteArray) × (Unit))))) × ((List (ByteArray)) × ((Int) × ((Int) × ((Int) × ((List (Int)) × ((Bool) × ((Int) × (Unit)))))))))))
  | p7 (y1 : List ((ByteArray) × ((List ((ByteArray) × ((Int) × ((ByteArray) × (Unit))))) × ((List (ByteArray)) × ((Int) × ((Int) × ((Int) × ((List (Int)) × ((Bool) × ((Int) × (Unit))))))))))) (y2 : Int) (y3 : Int)
def slices_IndexFunc_Route_impl_GoodRoutes_1.lb : slices_IndexFunc_Route_impl_GoodRoutes_1.Pt → Nat
  | .p0 _ => 0
  | .p7 _ _ _ => 7
def slices_IndexFunc_Route_impl_GoodRoutes_1.st : slices_IndexFunc_Route_impl_GoodRoutes_1.Pt → St
  | .p0 a0 => enter [.v (.sl false (.pair .str (.pair (.sl false (.pair .str (.pair (.int .i64) (.pair .str .unit)))) (.pair (.sl false .str) (.pair (.int .i64) (.pair (.int .i64) (.pair (.int .i64) (.pair (.sl false (.int .i64)) (.pair .bool (.pair (.int .i64) .unit)))))))))) a0, .fn 34 []] 0
  | .p7 y1 y2 y3 => ⟨[(0, .im (.sl false (.pair .str (.pair (.sl false (.pair .str (.pair (.int .i64) (.pair .str .unit)))) (.pair (.sl false .str) (.pair (.int .i64) (.pair (.int .i64) (.pair (.int .i64) (.pair (.sl false (.int .i64)) (.pair .bool (.pair (.int .i64) .unit)))))))))) y1), (1, .fn 34 []), (7, .im (.int .i64) y2), (8, .im (.int .i64) y3)], [], 0⟩
def slices_IndexFunc_Route_impl_GoodRoutes_1.step (n : Nat) (K : slices_IndexFunc_Route_impl_GoodRoutes_1.Pt → Option (Tup [(.int .i64)])) : slices_IndexFunc_Route_impl_GoodRoutes_1.Pt → Option (Tup [(.int .i64)])
  | .p0 a0 => K (.p7 a0 ((List.length a0) : Int) (0 : Int))
  | .p7 y1 y2 y3 => cond (decide (y3 < y2)) (cond (inB y3 (List.length y1)) ((impl_GoodRoutes_1 n (List.getD y1 (Int.toNat y3) default)).bind fun r6 => cond r6 (some y3) (K (.p7 y1 y2 (IntKind.wrap .i64 (y3 + (1 : Int)))))) (none)) (some (-(1 : Int)))
def slices_IndexFunc_Route_impl_GoodRoutes_1 (n : Nat) (a0 : List ((ByteArray) × ((List ((ByteArray) × ((Int) × ((ByteArray) × (Unit))))) × ((List (ByteArray)) × ((Int) × ((Int) × ((Int) × ((List (Int)) × ((Bool) × ((Int) × (Unit))))))))))) : Option (Tup [(.int .i64)]) := goRec slices_IndexFunc_Route_impl_GoodRoutes_1.step n (.p0 a0)
def slices_IndexFunc_Route_impl_GoodRoutes_1.spec : Ctr := ⟨53, [.v (.sl false (.pair .str (.pair (.sl false (.pair .str (.pair (.int .i64) (.pair .str .unit)))) (.pair (.sl false .str) (.pair (.int .i64) (.pair (.int .i64) (.pair (.int .i64) (.pair (.sl false (.int .i64)) (.pair .bool (.pair (.int .i64) .unit)))))))))), .fn 34 []], [(.int .i64)], [], none, fun n x => slices_IndexFunc_Route_impl_GoodRoutes_1 n x.1⟩
theorem slices_IndexFunc_Route_impl_GoodRoutes_1.seg_eq : SegEq ty gl slices_IndexFunc_Route_impl_GoodRoutes_1.F slices_IndexFunc_Route_impl_GoodRoutes_1.md slices_IndexFunc_Route_impl_GoodRoutes_1.T slices_IndexFunc_Route_impl_GoodRoutes_1.spec slices_IndexFunc_Route_impl_GoodRoutes_1.lb slices_IndexFunc_Route_impl_GoodRoutes_1.st slices_IndexFunc_Route_impl_GoodRoutes_1.step := by
  intro n goto y; cases y <;> kernel_rfl
theorem slices_IndexFunc_Route_impl_GoodRoutes_1.text : Text Go.Proofs.Tryz.prog slices_IndexFunc_Route_impl_GoodRoutes_1.F slices_IndexFunc_Route_impl_GoodRoutes_1.spec := textOf Go.Proofs.Tryz.f53
theorem slices_IndexFunc_Route_impl_GoodRoutes_1.ok : CtrOK Go.Proofs.Tryz.prog gl slices_IndexFunc_Route_impl_GoodRoutes_1.spec :=
  ctr_okS tabs slices_IndexFunc_Route_impl_GoodRoutes_1.text slices_IndexFunc_Route_impl_GoodRoutes_1.seg_eq (fun n x => ⟨.p0 x.1, rfl, rfl, rfl⟩) (consC impl_GoodRoutes_1.ok (nilC))

/-! slices.ContainsFunc[[]loop.example/g00039/impl.Route,loop.example/g00039/impl.Route] -/
def slices_ContainsFunc_Route_impl_GoodRoutes_1.T : List Ctr := [slices_IndexFunc_Route_impl_GoodRoutes_1.spec]
def slices_ContainsFunc_Route_impl_GoodRoutes_1.md : List (Nat × List Md) := [(53, [.v, .fn])]
noncomputable def slices_ContainsFunc_Route_impl_GoodRoutes_1.F : Fun := ⟨(Go.Proofs.Tryz.f33.body).getD .skip, [.v (.sl false (.pair .str (.pair (.sl false (.pair .str (.pair (.int .i64) (.pair .str .unit)))) (.pair (.sl false .str) (.pair (.int .i64) (.pair (.int .i64) (.pair (.int .i64) (.pair (.sl false (.int .i64)) (.pair .bool (.pair (.int .i64) .unit)))))))))), .fn 34 []], [(.tmp 4, .bool)], [], 0, []⟩
inductive slices_ContainsFunc_Route_impl_GoodRoutes_1.Pt where
  | p0 (a0 : List ((ByteArray) × ((List ((ByteArray) × ((Int) × ((ByteArray) × (Unit))))) × ((List (ByteArray)) × ((Int) × ((Int) × ((Int) × ((List (Int)) × ((Bool) × ((Int) × (Unit)))))))))))
def slices_ContainsFunc_Route_impl_GoodRoutes_1.lb : slices_ContainsFunc_Route_impl_GoodRoutes_1.Pt → Nat
  | .p0 _ => 0
def slices_ContainsFunc_Route_impl_GoodRoutes_1.st : slices_ContainsFunc_Route_impl_GoodRoutes_1.Pt → St
  | .p0 a0 => enter [.v (.sl false (.pair .str (.pair (.sl false (.pair .str (.pair (.int .i64) (.pair .str .unit)))) (.pair (.sl false .str) (.pair (.int .i64) (.pair (.int .i64) (.pair (.int .i64) (.pair (.sl false (.int .i64)) (.pair .bool (.pair (.int .i64) .unit)))))))))) a0, .fn 34 []] 0
def slices_ContainsFunc_Route_impl_GoodRoutes_1.step (n : Nat) (K : slices_ContainsFunc_Route_impl_GoodRoutes_1.Pt → Option (Tup [.bool])) : slices_ContainsFunc_Route_impl_GoodRoutes_1.Pt → Option (Tup [.bool])
  | .p0 a0 => (slices_IndexFunc_Route_impl_GoodRoutes_1 n a0).bind fun (r4 : Int) => some (decide ((0 : Int) ≤ r4))
def slices_ContainsFunc_Route_impl_GoodRoutes_1 (n : Nat) (a0 : List ((ByteArray) × ((List ((ByteArray) × ((Int) × ((ByteArray) × (Unit))))) × ((List (ByteArray)) × ((Int) × ((Int) × ((Int) × ((List (Int)) × ((Bool) × ((Int) × (Unit))))))))))) : Option (Tup [.bool]) := goRec slices_ContainsFunc_Route_impl_GoodRoutes_1.step n (.p0 a0)
def slices_ContainsFunc_Route_impl_GoodRoutes_1.spec : Ctr := ⟨33, [.v (.sl false (.pair .str (.pair (.sl false (.pair .str (.pair (.int .i64) (.pair .str .unit)))) (.pair (.sl false .str) (.pair (.int .i64) (.pair (.int .i64) (.pair (.int .i64) (.pair (.sl false (.int .i64)) (.pair .bool (.pair (.int .i64) .unit)))))))))), .fn 34 []], [.bool], [], none, fun n x => slices_ContainsFunc_Route_impl_GoodRoutes_1 n x.1⟩
theorem slices_ContainsFunc_Route_impl_GoodRoutes_1.seg_eq : SegEq ty gl slices_ContainsFunc_Route_impl_GoodRoutes_1.F slices_ContainsFunc_Route_impl_GoodRoutes_1.md slices_ContainsFunc_Route_impl_GoodRoutes_1.T slices_ContainsFunc_Route_impl_GoodRoutes_1.spec slices_ContainsFunc_Route_impl_GoodRoutes_1.lb slices_ContainsFunc_Route_impl_GoodRoutes_1.st slices_ContainsFunc_Route_impl_GoodRoutes_1.step := by
  intro n goto y; cases y <;> kernel_rfl
theorem slices_ContainsFunc_Route_impl_GoodRoutes_1.text : Text Go.Proofs.Tryz.prog slices_ContainsFunc_Route_impl_GoodRoutes_1.F slices_ContainsFunc_Route_impl_GoodRoutes_1.spec := textOf Go.Proofs.Tryz.f33
theorem slices_ContainsFunc_Route_impl_GoodRoutes_1.ok : CtrOK Go.Proofs.Tryz.prog gl slices_ContainsFunc_Route_impl_GoodRoutes_1.spec :=
  ctr_okS tabs slices_ContainsFunc_Route_impl_GoodRoutes_1.text slices_ContainsFunc_Route_impl_GoodRoutes_1.seg_eq (fun n x => ⟨.p0 x.1, rfl, rfl, rfl⟩) (consC slices_IndexFunc_Route_impl_GoodRoutes_1.ok (nilC))

/-! loop.example/g00039/impl.GoodRoutes -/
def impl_GoodRoutes.T : List Ctr := [impl_depths.spec, impl_GoodRoutes_1.spec, slices_ContainsFunc_Route_impl_GoodRoutes_1.spec]
def impl_GoodRoutes.md : List (Nat × List Md) := [(33, [.v, .fn])]
noncomputable def impl_GoodRoutes.F : Fun := ⟨(Go.Proofs.Tryz.f14.body).getD .skip, [.v (.sl false (.pair .str (.pair (.sl false (.pair .str (.pair (.int .i64) (.pair .str .unit)))) (.pair (.sl false .str) (.pair (.int .i64) (.pair (.int .i64) (.pair (.int .i64) (.pair (.sl false (.int .i64)) (.pair .bool (.pair (.int .i64) .unit))))))))))], [(.tmp 2, .bool)], [], 0, []⟩
inductive impl_GoodRoutes.Pt where
  | p0 (a0 : List ((ByteArray) × ((List ((ByteArray) × ((Int) × ((ByteArray) × (Unit))))) × ((List (ByteArray)) × ((Int) × ((Int) × ((Int) × ((List (Int)) × ((Bool) × ((Int) × (Unit)))))))))))
def impl_GoodRoutes.lb : impl_GoodRoutes.Pt → Nat
  | .p0 _ => 0
def impl_GoodRoutes.st : impl_GoodRoutes.Pt → St
  | .p0 a0 => enter [.v (.sl false (.pair .str (.pair (.sl false (.pair .str (.pair (.int .i64) (.pair .str .unit)))) (.pair (.sl false .str) (.pair (.int .i64) (.pair (.int .i64) (.pair (.int .i64) (.pair (.sl false (.int .i64)) (.pair .bool (.pair (.int .i64) .unit)))))))))) a0] 0
def impl_GoodRoutes.step (n : Nat) (K : impl_GoodRoutes.Pt → Option (Tup [.bool])) : impl_GoodRoutes.Pt → Option (Tup [.bool])
  | .p0 a0 => (impl_depths n a0).bind fun r4 => cond (!(List.isEmpty r4)) (cond (inB (0 : Int) (List.length a0)) (cond (decide (((List.length (List.getD a0 (Int.toNat (0 : Int)) default).2.1) : Int) = (0 : Int))) (cond (inB (0 : Int) (List.length a0)) (cond (!(List.getD a0 (Int.toNat (0 : Int)) default).2.2.2.2.2.2.2.1) ((slices_ContainsFunc_Route_impl_GoodRoutes_1 n a0).bind fun r5 => some (!r5)) (some false)) (none)) (some false)) (none)) (some false)
def impl_GoodRoutes (n : Nat) (a0 : List ((ByteArray) × ((List ((ByteArray) × ((Int) × ((ByteArray) × (Unit))))) × ((List (ByteArray)) × ((Int) × ((Int) × ((Int) × ((List (Int)) × ((Bool) × ((Int) × (Unit))))))))))) : Option (Tup [.bool]) := goRec impl_GoodRoutes.step n (.p0 a0)
def impl_GoodRoutes.spec : Ctr := ⟨14, [.v (.sl false (.pair .str (.pair (.sl false (.pair .str (.pair (.int .i64) (.pair .str .unit)))) (.pair (.sl false .str) (.pair (.int .i64) (.pair (.int .i64) (.pair (.int .i64) (.pair (.sl false (.int .i64)) (.pair .bool (.pair (.int .i64) .unit))))))))))], [.bool], [], none, fun n x => impl_GoodRoutes n x.1⟩
theorem impl_GoodRoutes.seg_eq : SegEq ty gl impl_GoodRoutes.F impl_GoodRoutes.md impl_GoodRoutes.T impl_GoodRoutes.spec impl_GoodRoutes.lb impl_GoodRoutes.st impl_GoodRoutes.step := by
  intro n goto y; cases y <;> kernel_rfl
theorem impl_GoodRoutes.text : Text Go.Proofs.Tryz.prog impl_GoodRoutes.F impl_GoodRoutes.spec := textOf Go.Proofs.Tryz.f14
theorem impl_GoodRoutes.ok : CtrOK Go.Proofs.Tryz.prog gl impl_GoodRoutes.spec :=
  ctr_okS tabs impl_GoodRoutes.text impl_GoodRoutes.seg_eq (fun n x => ⟨.p0 x.1, rfl, rfl, rfl⟩) (consC impl_depths.ok (consC impl_GoodRoutes_1.ok (consC slices_ContainsFunc_Route_impl_GoodRoutes_1.ok (nilC))))

/-! strings.Repeat -/
def strings_Repeat (n : Nat) (a0 : ByteArray) (a1 : Int) : Option ByteArray := hold n (cond (decide (0 ≤ a1) && decide (a1 ≤ 9223372036854775807) && decide ((a0.size : Int) * a1 ≤ 140737488355328)) (some ⟨(Lib.repeatL a0.data.toList a1.toNat).toArray⟩) none)
def strings_Repeat.spec : Ctr := ⟨17, [.v .str, .v (.int .i64)], [.str], [], none, fun n x => strings_Repeat n x.1 x.2.1⟩
section
open Go.Proofs
def layRepeat_ren : Go.Shelf.Ren := ⟨fun | 105 => 17 | 212 => 38 | 99 => 39 | 165 => 40 | 166 => 16 | 170 => 19 | 169 => 20 | 263 => 60 | 264 => 61 | 206 => 62 | 240 => 37 | 241 => 63 | 276 => 59 | 277 => 80 | n => n, fun | 9 => 9 | 3 => 3 | 4 => 4 | 20 => 20 | 0 => 0 | 46 => 70 | 109 => 71 | 5 => 5 | 72 => 46 | 76 => 50 | 51 => 94 | 146 => 95 | 53 => 97 | 148 => 98 | 70 => 43 | 37 => 44 | 75 => 49 | 127 => 76 | 164 => 92 | 80 => 54 | n => n, fun | n => n⟩
theorem layRepeat : Go.Proofs.Lays.n105 Tryz.prog layRepeat_ren where
  mixed := by kernel_rfl
  f99 := Tryz.func39.trans (congrArg some (by kernel_rfl))
  f105 := Tryz.func17.trans (congrArg some (by kernel_rfl))
  f165 := Tryz.func40.trans (congrArg some (by kernel_rfl))
  f166 := Tryz.func16.trans (congrArg some (by kernel_rfl))
  f169 := Tryz.func20.trans (congrArg some (by kernel_rfl))
  f170 := Tryz.func19.trans (congrArg some (by kernel_rfl))
  f206 := Tryz.func62.trans (congrArg some (by kernel_rfl))
  f212 := Tryz.func38.trans (congrArg some (by kernel_rfl))
  f240 := Tryz.func37.trans (congrArg some (by kernel_rfl))
  f241 := Tryz.func63.trans (congrArg some (by kernel_rfl))
  f263 := Tryz.func60.trans (congrArg some (by kernel_rfl))
  f264 := Tryz.func61.trans (congrArg some (by kernel_rfl))
  f276 := Tryz.func59.trans (congrArg some (by kernel_rfl))
  f277 := Tryz.func80.trans (congrArg some (by kernel_rfl))
  t0 := Tryz.underlying0
  a0 := Tryz.isAgg0
  z0 := Tryz.sizeOf0
  v0 := Tryz.zeroValue0
  t3 := Tryz.underlying3
  a3 := Tryz.isAgg3
  z3 := Tryz.sizeOf3
  v3 := Tryz.zeroValue3
  t4 := Tryz.underlying4
  a4 := Tryz.isAgg4
  z4 := Tryz.sizeOf4
  v4 := Tryz.zeroValue4
  t5 := Tryz.underlying5
  a5 := Tryz.isAgg5
  z5 := Tryz.sizeOf5
  v5 := Tryz.zeroValue5
  t9 := Tryz.underlying9
  a9 := Tryz.isAgg9
  z9 := Tryz.sizeOf9
  v9 := Tryz.zeroValue9
  t20 := Tryz.underlying20
  a20 := Tryz.isAgg20
  z20 := Tryz.sizeOf20
  v20 := Tryz.zeroValue20
  t37 := Tryz.underlying44
  a37 := Tryz.isAgg44
  z37 := Tryz.sizeOf44
  v37 := Tryz.zeroValue44
  t46 := Tryz.underlying70
  a46 := Tryz.isAgg70
  z46 := Tryz.sizeOf70
  v46 := Tryz.zeroValue70
  t51 := Tryz.underlying94
  a51 := Tryz.isAgg94
  z51 := Tryz.sizeOf94
  v51 := Tryz.zeroValue94
  t53 := Tryz.underlying97
  a53 := Tryz.isAgg97
  z53 := Tryz.sizeOf97
  v53 := Tryz.zeroValue97
  t70 := Tryz.underlying43
  a70 := Tryz.isAgg43
  z70 := Tryz.sizeOf43
  v70 := Tryz.zeroValue43
  t72 := Tryz.underlying46
  a72 := Tryz.isAgg46
  z72 := Tryz.sizeOf46
  v72 := Tryz.zeroValue46
  t75 := Tryz.underlying49
  a75 := Tryz.isAgg49
  z75 := Tryz.sizeOf49
  v75 := Tryz.zeroValue49
  t76 := Tryz.underlying50
  a76 := Tryz.isAgg50
  z76 := Tryz.sizeOf50
  v76 := Tryz.zeroValue50
  t109 := Tryz.underlying71
  a109 := Tryz.isAgg71
  z109 := Tryz.sizeOf71
  v109 := Tryz.zeroValue71
  t127 := Tryz.underlying76
  a127 := Tryz.isAgg76
  z127 := Tryz.sizeOf76
  v127 := Tryz.zeroValue76
  t146 := Tryz.underlying95
  a146 := Tryz.isAgg95
  z146 := Tryz.sizeOf95
  v146 := Tryz.zeroValue95
  t148 := Tryz.underlying98
  a148 := Tryz.isAgg98
  z148 := Tryz.sizeOf98
  v148 := Tryz.zeroValue98
  t164 := Tryz.underlying92
  a164 := Tryz.isAgg92
  z164 := Tryz.sizeOf92
  v164 := Tryz.zeroValue92

theorem layRepeatX : Builder.Extra Go.Proofs.Tryz.prog layRepeat_ren where
  sizeBuilder := by kernel_rfl
  liesBuilder := by kernel_rfl
  t5 := Go.Proofs.Tryz.underlying5
  a5 := Go.Proofs.Tryz.isAgg5
  z5 := Go.Proofs.Tryz.sizeOf5
  v5 := Go.Proofs.Tryz.zeroValue5
  infoByte := by kernel_rfl
  cellsByte := by kernel_rfl
  sizeByte := by kernel_rfl
  neB5 := by decide
end
theorem strings_Repeat.ok : CtrOK Go.Proofs.Tryz.prog gl strings_Repeat.spec := by
  refine fun n => ⟨⟨Go.Proofs.Tryz.f17, by kernel_rfl, by kernel_rfl, by decide +kernel⟩, ?_⟩
  intro inst
  rintro ⟨a0, a1, ⟨⟩⟩ y hy
  have hy := hold_some hy
  cases hb : (decide (0 ≤ a1) && decide (a1 ≤ 9223372036854775807) && decide ((a0.size : Int) * a1 ≤ 140737488355328)) with
  | false => rw [hb] at hy; cases hy
  | true =>
    rw [hb] at hy
    obtain rfl := Option.some.inj hy
    simp only [Bool.and_eq_true, decide_eq_true_eq] at hb
    obtain ⟨⟨h0, h1⟩, h2⟩ := hb
    obtain ⟨c, rfl⟩ : ∃ c : Nat, a1 = (c : Int) := ⟨a1.toNat, (Int.toNat_of_nonneg h0).symm⟩
    have h2' : a0.size * c ≤ 140737488355328 := by
      have : ((a0.size * c : Nat) : Int) ≤ ((140737488355328 : Nat) : Int) := by rw [Int.natCast_mul]; exact h2
      exact Int.ofNat_le.1 this
    intro w vs S L harg _ hL hSL hG
    change ArgsRep w [Arg.v .str a0, Arg.v (.int .i64) (c : Int)] vs S L at harg
    unfold ArgsRep at harg
    obtain ⟨v0, vr, S1, S2, L1, L2, rfl, rfl, rfl, h3, harg⟩ := harg
    unfold ArgsRep at harg
    obtain ⟨v1, vr, S3, S4, L3, L4, rfl, rfl, rfl, h4, harg⟩ := harg
    unfold ArgsRep at harg
    obtain ⟨rfl, rfl, rfl⟩ := harg
    unfold ArgRep at h3 h4
    obtain ⟨_, ⟨cs, rfl, rfl, rfl⟩, rfl⟩ := h3
    obtain ⟨_, ⟨cs, rfl, rfl, rfl⟩, rfl⟩ := h4
    refine (Go.Proofs.Any.strings_Repeat layRepeat layRepeatX a0 c w (Int.ofNat_le.1 h1) h2').mono ?_
    rintro e w' ⟨rfl, hB⟩
    refine ⟨[.string ⟨(Lib.repeatL a0.data.toList c).toArray⟩], [], [], rfl, ⟨_, [], [], [], rfl, rfl, rfl, ⟨rfl, rfl⟩, rfl, rfl⟩, ?_, by simp, by simp, hB.os, hB.tape, hB.output, hB.size, fun b hb _ => hB.block b hb⟩
    change OutsRep _ w' [Arg.v .str a0, Arg.v (.int .i64) (c : Int)] _ _ _
    simp only [OutsRep, OutRep]
    exact ⟨_, _, [], [], [], [], rfl, rfl, rfl, ⟨rfl, rfl⟩, _, _, [], [], [], [], rfl, rfl, rfl, ⟨rfl, rfl⟩, rfl, rfl⟩


/-! loop.example/g00039/impl.quote -/
def impl_quote.T : List Ctr := []
def impl_quote.md : List (Nat × List Md) := []
noncomputable def impl_quote.F : Fun := ⟨(Go.Proofs.Tryz.f81.body).getD .skip, [.v .str], [(.tmp 2, .str)], [], 0, [(9, ⟨[0, 3, 7, 8], [(3, (.int .u8))], [], false⟩), (21, ⟨[0, 3, 4, 7, 8, 20], [(3, (.int .u8))], [], false⟩)]⟩
inductive impl_quote.Pt where
  | p0 (a0 : ByteArray)
  | p9 (y1 : ByteArray) (y2 : Int) (y3 : Int) (y4 : List (Int))
  | p21 (y1 : ByteArray) (y2 : Int) (y3 : Int) (y4 : Int) (y5 : Bool) (y6 : List (Int))
def impl_quote.lb : impl_quote.Pt → Nat
  | .p0 _ => 0
  | .p9 _ _ _ _ => 9
  | .p21 _ _ _ _ _ _ => 21
def impl_quote.st : impl_quote.Pt → St
  | .p0 a0 => enter [.v .str a0] 0
  | .p9 y1 y2 y3 y4 => ⟨[(0, .im .str y1), (3, .hs 0 [] none 0), (7, .im (.int .i64) y2), (8, .im (.int .i64) y3)], [(0, .arr false (.int .u8) y4 0)], 1⟩
  | .p21 y1 y2 y3 y4 y5 y6 => ⟨[(0, .im .str y1), (3, .hs 0 [] none 0), (4, .im (.int .i64) y2), (7, .im (.int .i64) y3), (8, .im (.int .i64) y4), (20, .im .bool y5)], [(0, .arr false (.int .u8) y6 0)], 1⟩
def impl_quote.step (n : Nat) (K : impl_quote.Pt → Option (Tup [.str])) : impl_quote.Pt → Option (Tup [.str])
  | .p0 a0 => K (.p9 a0 ((ByteArray.size a0) : Int) (0 : Int) [(34 : Int)])
  | .p9 y1 y2 y3 y4 => cond (decide (y3 < y2)) (cond (inB y3 (ByteArray.size y1)) (cond (decide ((bt y1 y3) = (34 : Int))) (K (.p21 y1 y3 y2 y3 true y4)) (cond (inB y3 (ByteArray.size y1)) (K (.p21 y1 y3 y2 y3 (decide ((bt y1 y3) = (92 : Int))) y4)) (none))) (none)) (cond (room ((List.length y4) + (List.length [(34 : Int)]))) (some (ofOcts (y4 ++ [(34 : Int)]))) (none))
  | .p21 y1 y2 y3 y4 y5 y6 => cond y5 (cond (room ((List.length y6) + (List.length [(92 : Int)]))) (cond (inB y2 (ByteArray.size y1)) (cond (room ((List.length (y6 ++ [(92 : Int)])) + (List.length [(bt y1 y2)]))) (K (.p9 y1 y3 (IntKind.wrap .i64 (y4 + (1 : Int))) ((y6 ++ [(92 : Int)]) ++ [(bt y1 y2)]))) (none)) (none)) (none)) (cond (inB y2 (ByteArray.size y1)) (cond (room ((List.length y6) + (List.length [(bt y1 y2)]))) (K (.p9 y1 y3 (IntKind.wrap .i64 (y4 + (1 : Int))) (y6 ++ [(bt y1 y2)]))) (none)) (none))
def impl_quote (n : Nat) (a0 : ByteArray) : Option (Tup [.str]) := goRec impl_quote.step n (.p0 a0)
def impl_quote.spec : Ctr := ⟨81, [.v .str], [.str], [], none, fun n x => impl_quote n x.1⟩
theorem impl_quote.seg_eq : SegEq ty gl impl_quote.F impl_quote.md impl_quote.T impl_quote.spec impl_quote.lb impl_quote.st impl_quote.step := by
  intro n goto y; cases y <;> kernel_rfl
theorem impl_quote.text : Text Go.Proofs.Tryz.prog impl_quote.F impl_quote.spec := textOf Go.Proofs.Tryz.f81
theorem impl_quote.ok : CtrOK Go.Proofs.Tryz.prog gl impl_quote.spec :=
  ctr_okS tabs impl_quote.text impl_quote.seg_eq (fun n x => ⟨.p0 x.1, rfl, rfl, rfl⟩) (nilC)

/-! loop.example/g00039/impl.matcherText -/
def impl_matcherText.T : List Ctr := [impl_quote.spec]
def impl_matcherText.md : List (Nat × List Md) := []
noncomputable def impl_matcherText.F : Fun := ⟨(Go.Proofs.Tryz.f64.body).getD .skip, [.v (.pair .str (.pair (.int .i64) (.pair .str .unit)))], [(.tmp 2, .str)], [], 0, []⟩
inductive impl_matcherText.Pt where
  | p0 (a0 : (ByteArray) × ((Int) × ((ByteArray) × (Unit))))
def impl_matcherText.lb : impl_matcherText.Pt → Nat
  | .p0 _ => 0
def impl_matcherText.st : impl_matcherText.Pt → St
  | .p0 a0 => enter [.v (.pair .str (.pair (.int .i64) (.pair .str .unit))) a0] 0
def impl_matcherText.step (n : Nat) (K : impl_matcherText.Pt → Option (Tup [.str])) : impl_matcherText.Pt → Option (Tup [.str])
  | .p0 a0 => cond (inB a0.2.1 5) (cond (room ((ByteArray.size a0.1) + (ByteArray.size (List.getD (List.getD [[(⟨#[]⟩ : ByteArray), (⟨#[61]⟩ : ByteArray), (⟨#[33, 61]⟩ : ByteArray), (⟨#[61, 126]⟩ : ByteArray), (⟨#[33, 126]⟩ : ByteArray)]] 0 default) (Int.toNat a0.2.1) default)))) ((impl_quote n a0.2.2.1).bind fun r4 => cond (room ((ByteArray.size (a0.1 ++ (List.getD (List.getD [[(⟨#[]⟩ : ByteArray), (⟨#[61]⟩ : ByteArray), (⟨#[33, 61]⟩ : ByteArray), (⟨#[61, 126]⟩ : ByteArray), (⟨#[33, 126]⟩ : ByteArray)]] 0 default) (Int.toNat a0.2.1) default))) + (ByteArray.size r4))) (some ((a0.1 ++ (List.getD (List.getD [[(⟨#[]⟩ : ByteArray), (⟨#[61]⟩ : ByteArray), (⟨#[33, 61]⟩ : ByteArray), (⟨#[61, 126]⟩ : ByteArray), (⟨#[33, 126]⟩ : ByteArray)]] 0 default) (Int.toNat a0.2.1) default)) ++ r4)) (none)) (none)) (none)
def impl_matcherText (n : Nat) (a0 : (ByteArray) × ((Int) × ((ByteArray) × (Unit)))) : Option (Tup [.str]) := goRec impl_matcherText.step n (.p0 a0)
def impl_matcherText.spec : Ctr := ⟨64, [.v (.pair .str (.pair (.int .i64) (.pair .str .unit)))], [.str], [], none, fun n x => impl_matcherText n x.1⟩
theorem impl_matcherText.seg_eq : SegEq ty gl impl_matcherText.F impl_matcherText.md impl_matcherText.T impl_matcherText.spec impl_matcherText.lb impl_matcherText.st impl_matcherText.step := by
  intro n goto y; cases y <;> kernel_rfl
theorem impl_matcherText.text : Text Go.Proofs.Tryz.prog impl_matcherText.F impl_matcherText.spec := textOf Go.Proofs.Tryz.f64
theorem impl_matcherText.ok : CtrOK Go.Proofs.Tryz.prog gl impl_matcherText.spec :=
  ctr_okS tabs impl_matcherText.text impl_matcherText.seg_eq (fun n x => ⟨.p0 x.1, rfl, rfl, rfl⟩) (consC impl_quote.ok (nilC))

/-! strings.Join -/
def strings_Join (n : Nat) (a0 : List ByteArray) (a1 : ByteArray) : Option ByteArray := hold n (cond (decide (a0.length ≤ 140737488355328) && decide ((Lib.join (a0.map (·.data.toList)) a1.data.toList).length ≤ 140737488355328)) (some ⟨(Lib.join (a0.map (·.data.toList)) a1.data.toList).toArray⟩) none)
def strings_Join.spec : Ctr := ⟨42, [.v (.sl false .str), .v .str], [.str], [], none, fun n x => strings_Join n x.1 x.2.1⟩
section
open Go.Proofs
def layJoin_ren : Go.Shelf.Ren := ⟨fun | 156 => 42 | 165 => 40 | 166 => 16 | 169 => 20 | 240 => 37 | 241 => 63 | 276 => 59 | 277 => 80 | n => n, fun | 31 => 31 | 9 => 9 | 3 => 3 | 4 => 4 | 0 => 0 | 20 => 20 | 72 => 46 | 76 => 50 | 70 => 43 | 37 => 44 | 75 => 49 | 127 => 76 | 164 => 92 | 5 => 5 | 80 => 54 | n => n, fun | n => n⟩
theorem layJoin : Go.Proofs.Lays.n156 Tryz.prog layJoin_ren where
  mixed := by kernel_rfl
  f156 := Tryz.func42.trans (congrArg some (by kernel_rfl))
  f165 := Tryz.func40.trans (congrArg some (by kernel_rfl))
  f166 := Tryz.func16.trans (congrArg some (by kernel_rfl))
  f169 := Tryz.func20.trans (congrArg some (by kernel_rfl))
  f240 := Tryz.func37.trans (congrArg some (by kernel_rfl))
  f241 := Tryz.func63.trans (congrArg some (by kernel_rfl))
  f276 := Tryz.func59.trans (congrArg some (by kernel_rfl))
  f277 := Tryz.func80.trans (congrArg some (by kernel_rfl))
  t0 := Tryz.underlying0
  a0 := Tryz.isAgg0
  z0 := Tryz.sizeOf0
  v0 := Tryz.zeroValue0
  t3 := Tryz.underlying3
  a3 := Tryz.isAgg3
  z3 := Tryz.sizeOf3
  v3 := Tryz.zeroValue3
  t4 := Tryz.underlying4
  a4 := Tryz.isAgg4
  z4 := Tryz.sizeOf4
  v4 := Tryz.zeroValue4
  t9 := Tryz.underlying9
  a9 := Tryz.isAgg9
  z9 := Tryz.sizeOf9
  v9 := Tryz.zeroValue9
  t20 := Tryz.underlying20
  a20 := Tryz.isAgg20
  z20 := Tryz.sizeOf20
  v20 := Tryz.zeroValue20
  t31 := Tryz.underlying31
  a31 := Tryz.isAgg31
  z31 := Tryz.sizeOf31
  v31 := Tryz.zeroValue31
  t37 := Tryz.underlying44
  a37 := Tryz.isAgg44
  z37 := Tryz.sizeOf44
  v37 := Tryz.zeroValue44
  t70 := Tryz.underlying43
  a70 := Tryz.isAgg43
  z70 := Tryz.sizeOf43
  v70 := Tryz.zeroValue43
  t72 := Tryz.underlying46
  a72 := Tryz.isAgg46
  z72 := Tryz.sizeOf46
  v72 := Tryz.zeroValue46
  t75 := Tryz.underlying49
  a75 := Tryz.isAgg49
  z75 := Tryz.sizeOf49
  v75 := Tryz.zeroValue49
  t76 := Tryz.underlying50
  a76 := Tryz.isAgg50
  z76 := Tryz.sizeOf50
  v76 := Tryz.zeroValue50
  t127 := Tryz.underlying76
  a127 := Tryz.isAgg76
  z127 := Tryz.sizeOf76
  v127 := Tryz.zeroValue76
  t164 := Tryz.underlying92
  a164 := Tryz.isAgg92
  z164 := Tryz.sizeOf92
  v164 := Tryz.zeroValue92

theorem layJoinX : Builder.Extra Go.Proofs.Tryz.prog layJoin_ren where
  sizeBuilder := by kernel_rfl
  liesBuilder := by kernel_rfl
  t5 := Go.Proofs.Tryz.underlying5
  a5 := Go.Proofs.Tryz.isAgg5
  z5 := Go.Proofs.Tryz.sizeOf5
  v5 := Go.Proofs.Tryz.zeroValue5
  infoByte := by kernel_rfl
  cellsByte := by kernel_rfl
  sizeByte := by kernel_rfl
  neB5 := by decide
end
theorem strs_rep {w : World} {o : Bool} : ∀ {l : List ByteArray} {m : List Value} {G : List Nat}, RepL (Rep w o .str) l m G → m = l.map Value.string ∧ G = []
  | [], m, G, h => ⟨h.1, h.2⟩
  | x :: l, m, G, h => by
    obtain ⟨c, d, H, I, rfl, rfl, h1, h2⟩ := h
    obtain ⟨rfl, rfl⟩ := h1
    obtain ⟨rfl, rfl⟩ := strs_rep h2
    exact ⟨rfl, rfl⟩
theorem strings_Join.ok : CtrOK Go.Proofs.Tryz.prog gl strings_Join.spec := by
  refine fun n => ⟨⟨Go.Proofs.Tryz.f42, by kernel_rfl, by kernel_rfl, by decide +kernel⟩, ?_⟩
  intro inst
  rintro ⟨a0, a1, ⟨⟩⟩ y hy
  have hy := hold_some hy
  cases hb : (decide (a0.length ≤ 140737488355328) && decide ((Lib.join (a0.map (·.data.toList)) a1.data.toList).length ≤ 140737488355328)) with
  | false => rw [hb] at hy; cases hy
  | true =>
    rw [hb] at hy
    obtain rfl := Option.some.inj hy
    simp only [Bool.and_eq_true, decide_eq_true_eq] at hb
    intro w vs S L harg _ hL hSL hG
    change ArgsRep w [Arg.v (.sl false .str) a0, Arg.v .str a1] vs S L at harg
    unfold ArgsRep at harg
    obtain ⟨v0, vr, S1, S2, L1, L2, rfl, rfl, rfl, h1, harg⟩ := harg
    unfold ArgsRep at harg
    obtain ⟨v1, vr, S3, S4, L3, L4, rfl, rfl, rfl, h2, harg⟩ := harg
    unfold ArgsRep at harg
    obtain ⟨rfl, rfl, rfl⟩ := harg
    unfold ArgRep at h1 h2
    obtain ⟨_, ⟨cs, rfl, h1⟩, rfl⟩ := h1
    obtain ⟨_, ⟨cs2, rfl, rfl, rfl⟩, rfl⟩ := h2
    obtain ⟨v, rfl, h1⟩ := h1
    refine Calls.mono (R := fun e w' => e = .returned (.string ⟨(Lib.join (a0.map (·.data.toList)) a1.data.toList).toArray⟩) ∧ Go.RowKit.Below w.heap.size w w') ?_ ?_
    · rcases h1 with (⟨rfl, rfl, rfl⟩ | ⟨a, cap, c, t, fz, p, m, q, G, rfl, hs, he, hl, hh, hc, hp, hr, rfl, how⟩) | ⟨_, _, rfl, rfl, a, cap, rfl⟩
      · refine (Go.Proofs.Any.strings_Join_none layJoin layJoinX none 0 a1 w).mono ?_
        rintro e w' ⟨rfl, rfl⟩
        exact ⟨rfl, Go.RowKit.Below.refl _ _⟩
      · obtain ⟨rfl, rfl⟩ := strs_rep hr
        obtain ⟨ab, ao, asp⟩ := a
        dsimp only at hs hh hp
        subst hs
        have hgt : ab < w.heap.size := (Array.getElem?_eq_some_iff.1 hh).1
        refine Go.Proofs.Any.strings_Join layJoin layJoinX ab ao cap a0 a1 w ?_ hgt hb.1 hl hb.2
        intro j x hj
        have hj' : j < a0.length := (List.getElem?_eq_some_iff.1 hj).1
        simp only [World.cell?, hh, Option.isSome_none, Bool.false_eq_true, if_false]
        rw [← Array.getElem?_toList, hc, List.append_assoc, ← hp, List.getElem?_append_right (by omega), Nat.add_sub_cancel_left, List.getElem?_append_left (by simpa using hj')]
        simp [hj]
      · refine (Go.Proofs.Any.strings_Join_none layJoin layJoinX (some a) cap a1 w).mono ?_
        rintro e w' ⟨rfl, rfl⟩
        exact ⟨rfl, Go.RowKit.Below.refl _ _⟩
    · rintro e w' ⟨rfl, hB⟩
      refine ⟨[.string ⟨(Lib.join (a0.map (·.data.toList)) a1.data.toList).toArray⟩], [], [], rfl, ⟨_, [], [], [], rfl, rfl, rfl, ⟨rfl, rfl⟩, rfl, rfl⟩, ?_, by simp, by simp, hB.os, hB.tape, hB.output, hB.size, fun b hb _ => hB.block b hb⟩
      change OutsRep _ w' [Arg.v (.sl false .str) a0, Arg.v .str a1] _ _ _
      simp only [OutsRep, OutRep]
      exact ⟨_, _, [], [], [], [], rfl, rfl, rfl, ⟨rfl, rfl⟩, _, _, [], [], [], [], rfl, rfl, rfl, ⟨rfl, rfl⟩, rfl, rfl⟩


/-! loop.example/g00039/impl.MatchersText -/
def impl_MatchersText.T : List Ctr := [impl_GoodMatchers.spec, impl_matcherText.spec, strings_Join.spec]
def impl_MatchersText.md : List (Nat × List Md) := []
noncomputable def impl_MatchersText.F : Fun := ⟨(Go.Proofs.Tryz.f41.body).getD .skip, [.v (.sl false (.pair .str (.pair (.int .i64) (.pair .str .unit))))], [(.tmp 2, .str)], [], 0, [(17, ⟨[3, 9, 10, 11], [(3, .str), (9, (.pair .str (.pair (.int .i64) (.pair .str .unit))))], [], false⟩)]⟩
inductive impl_MatchersText.Pt where
  | p0 (a0 : List ((ByteArray) × ((Int) × ((ByteArray) × (Unit)))))
  | p17 (y1 : List ((ByteArray) × ((Int) × ((ByteArray) × (Unit))))) (y2 : Int) (y3 : Int) (y4 : List (ByteArray))
def impl_MatchersText.lb : impl_MatchersText.Pt → Nat
  | .p0 _ => 0
  | .p17 _ _ _ _ => 17
def impl_MatchersText.st : impl_MatchersText.Pt → St
  | .p0 a0 => enter [.v (.sl false (.pair .str (.pair (.int .i64) (.pair .str .unit)))) a0] 0
  | .p17 y1 y2 y3 y4 => ⟨[(3, .hs 0 [] none 0), (9, .im (.sl false (.pair .str (.pair (.int .i64) (.pair .str .unit)))) y1), (10, .im (.int .i64) y2), (11, .im (.int .i64) y3)], [(0, .arr true .str y4 0)], 1⟩
def impl_MatchersText.step (n : Nat) (K : impl_MatchersText.Pt → Option (Tup [.str])) : impl_MatchersText.Pt → Option (Tup [.str])
  | .p0 a0 => (impl_GoodMatchers n a0).bind fun r4 => cond (!r4) (some (⟨#[]⟩ : ByteArray)) (K (.p17 a0 ((List.length a0) : Int) (0 : Int) ([] : List (ByteArray))))
  | .p17 y1 y2 y3 y4 => cond (decide (y3 < y2)) (cond (inB y3 (List.length y1)) ((impl_matcherText n (List.getD y1 (Int.toNat y3) default)).bind fun r7 => cond (room ((List.length y4) + (List.length [r7]))) (K (.p17 y1 y2 (IntKind.wrap .i64 (y3 + (1 : Int))) (y4 ++ [r7]))) (none)) (none)) ((strings_Join n y4 (⟨#[44]⟩ : ByteArray)).bind fun r7 => cond (room ((ByteArray.size (⟨#[123]⟩ : ByteArray)) + (ByteArray.size r7))) (cond (room ((ByteArray.size ((⟨#[123]⟩ : ByteArray) ++ r7)) + (ByteArray.size (⟨#[125]⟩ : ByteArray)))) (some (((⟨#[123]⟩ : ByteArray) ++ r7) ++ (⟨#[125]⟩ : ByteArray))) (none)) (none))
def impl_MatchersText (n : Nat) (a0 : List ((ByteArray) × ((Int) × ((ByteArray) × (Unit))))) : Option (Tup [.str]) := goRec impl_MatchersText.step n (.p0 a0)
def impl_MatchersText.spec : Ctr := ⟨41, [.v (.sl false (.pair .str (.pair (.int .i64) (.pair .str .unit))))], [.str], [], none, fun n x => impl_MatchersText n x.1⟩
theorem impl_MatchersText.seg_eq : SegEq ty gl impl_MatchersText.F impl_MatchersText.md impl_MatchersText.T impl_MatchersText.spec impl_MatchersText.lb impl_MatchersText.st impl_MatchersText.step := by
  intro n goto y; cases y <;> kernel_rfl
theorem impl_MatchersText.text : Text Go.Proofs.Tryz.prog impl_MatchersText.F impl_MatchersText.spec := textOf Go.Proofs.Tryz.f41
theorem impl_MatchersText.ok : CtrOK Go.Proofs.Tryz.prog gl impl_MatchersText.spec :=
  ctr_okS tabs impl_MatchersText.text impl_MatchersText.seg_eq (fun n x => ⟨.p0 x.1, rfl, rfl, rfl⟩) (consC impl_GoodMatchers.ok (consC impl_matcherText.ok (consC strings_Join.ok (nilC))))

/-! strconv.Itoa -/
def strconv_Itoa (n : Nat) (a0 : Int) : Option ByteArray := hold n (cond (decide (-9223372036854775808 ≤ a0) && decide (a0 ≤ 9223372036854775807)) (some ⟨(Lib.itoa a0).toArray⟩) none)
def strconv_Itoa.spec : Ctr := ⟨65, [.v (.int .i64)], [.str], [], none, fun n x => strconv_Itoa n x.1⟩
section
open Go.Proofs
def layItoa_ren : Go.Shelf.Ren := ⟨fun | 171 => 65 | 243 => 82 | 246 => 93 | 283 => 97 | 284 => 98 | 285 => 99 | 286 => 100 | 129 => 105 | 317 => 104 | 318 => 106 | 319 => 107 | 320 => 108 | 337 => 110 | 338 => 111 | n => n, fun | 3 => 3 | 9 => 9 | 2 => 2 | 4 => 4 | 171 => 119 | 0 => 0 | 53 => 97 | 37 => 44 | 5 => 5 | 173 => 122 | 212 => 132 | 51 => 94 | 20 => 20 | 213 => 133 | 46 => 70 | 232 => 136 | 233 => 137 | n => n, fun | 17 => 2 | 18 => 3 | 19 => 4 | n => n⟩
theorem layItoa : Go.Proofs.LaysM.n171 Tryz.prog layItoa_ren where
  mixed := by kernel_rfl
  f129 := Tryz.func105.trans (congrArg some (by kernel_rfl))
  f171 := Tryz.func65.trans (congrArg some (by kernel_rfl))
  f243 := Tryz.func82.trans (congrArg some (by kernel_rfl))
  f246 := Tryz.func93.trans (congrArg some (by kernel_rfl))
  f283 := Tryz.func97.trans (congrArg some (by kernel_rfl))
  f284 := Tryz.func98.trans (congrArg some (by kernel_rfl))
  f285 := Tryz.func99.trans (congrArg some (by kernel_rfl))
  f286 := Tryz.func100.trans (congrArg some (by kernel_rfl))
  f317 := Tryz.func104.trans (congrArg some (by kernel_rfl))
  f318 := Tryz.func106.trans (congrArg some (by kernel_rfl))
  f319 := Tryz.func107.trans (congrArg some (by kernel_rfl))
  f320 := Tryz.func108.trans (congrArg some (by kernel_rfl))
  f337 := Tryz.func110.trans (congrArg some (by kernel_rfl))
  f338 := Tryz.func111.trans (congrArg some (by kernel_rfl))
  t0 := Tryz.underlying0
  a0 := Tryz.isAgg0
  z0 := Tryz.sizeOf0
  v0 := Tryz.zeroValue0
  t2 := Tryz.underlying2
  a2 := Tryz.isAgg2
  z2 := Tryz.sizeOf2
  v2 := Tryz.zeroValue2
  t3 := Tryz.underlying3
  a3 := Tryz.isAgg3
  z3 := Tryz.sizeOf3
  v3 := Tryz.zeroValue3
  t4 := Tryz.underlying4
  a4 := Tryz.isAgg4
  z4 := Tryz.sizeOf4
  v4 := Tryz.zeroValue4
  t5 := Tryz.underlying5
  a5 := Tryz.isAgg5
  z5 := Tryz.sizeOf5
  v5 := Tryz.zeroValue5
  t9 := Tryz.underlying9
  a9 := Tryz.isAgg9
  z9 := Tryz.sizeOf9
  v9 := Tryz.zeroValue9
  t20 := Tryz.underlying20
  a20 := Tryz.isAgg20
  z20 := Tryz.sizeOf20
  v20 := Tryz.zeroValue20
  t37 := Tryz.underlying44
  a37 := Tryz.isAgg44
  z37 := Tryz.sizeOf44
  v37 := Tryz.zeroValue44
  t46 := Tryz.underlying70
  a46 := Tryz.isAgg70
  z46 := Tryz.sizeOf70
  v46 := Tryz.zeroValue70
  t51 := Tryz.underlying94
  a51 := Tryz.isAgg94
  z51 := Tryz.sizeOf94
  v51 := Tryz.zeroValue94
  t53 := Tryz.underlying97
  a53 := Tryz.isAgg97
  z53 := Tryz.sizeOf97
  v53 := Tryz.zeroValue97
  t171 := Tryz.underlying119
  a171 := Tryz.isAgg119
  z171 := Tryz.sizeOf119
  v171 := Tryz.zeroValue119
  t173 := Tryz.underlying122
  a173 := Tryz.isAgg122
  z173 := Tryz.sizeOf122
  v173 := Tryz.zeroValue122
  t212 := Tryz.underlying132
  a212 := Tryz.isAgg132
  z212 := Tryz.sizeOf132
  v212 := Tryz.zeroValue132
  t213 := Tryz.underlying133
  a213 := Tryz.isAgg133
  z213 := Tryz.sizeOf133
  t232 := Tryz.underlying136
  a232 := Tryz.isAgg136
  z232 := Tryz.sizeOf136
  v232 := Tryz.zeroValue136
  t233 := Tryz.underlying137
  a233 := Tryz.isAgg137
  z233 := Tryz.sizeOf137
  v233 := Tryz.zeroValue137
  g17 := by kernel_rfl
  g18 := by kernel_rfl
  g19 := by kernel_rfl
  i0 := by kernel_rfl
  i2 := by kernel_rfl
  i3 := by kernel_rfl
  i4 := by kernel_rfl
  i5 := by kernel_rfl
  i9 := by kernel_rfl
  i20 := by kernel_rfl
  i37 := by kernel_rfl
  i46 := by kernel_rfl
  i51 := by kernel_rfl
  i53 := by kernel_rfl
  i171 := by kernel_rfl
  i173 := by kernel_rfl
  i212 := by kernel_rfl
  i232 := by kernel_rfl
  i233 := by kernel_rfl
  m17 := by kernel_rfl
  m18 := by kernel_rfl
  m19 := by kernel_rfl

end
theorem u64s_rep {w : World} {o : Bool} : ∀ {l : List Int} {m : List Value} {G : List Nat}, RepL (Rep w o (.int .u64)) l m G → m = l.map (Value.int .u64)
  | [], m, G, h => h.1
  | x :: l, m, G, h => by
    obtain ⟨c, d, H, I, rfl, rfl, h1, h2⟩ := h
    obtain ⟨rfl, rfl⟩ := h1
    rw [u64s_rep h2]; rfl
theorem strconv_Itoa.tab {w : World} {L : List Nat} (h : GlobOK gl w L) : Lib.TabIs Go.Proofs.Tryz.prog w "internal/strconv.uint64pow10" .u64 Lib.pow10Tab := by
  have hl : lkN gl 2 = some ⟨.ar 20 (.int .u64), Lib.pow10Tab⟩ := by kernel_rfl
  obtain ⟨c, t, fz, p, m, q, G, _, hh, hc, hp, hr, _⟩ := h.1 _ _ _ hl
  obtain ⟨cs, t', fz', hh', hsz⟩ := h.2.2.2 _ _ _ hl
  rw [show w.heap[(⟨2, 0, none⟩ : Addr).block]? = w.heap[2]? from rfl, hh'] at hh
  cases hh
  obtain ⟨a, d, H, I, rfl, _, ⟨hln, h1⟩, h2⟩ := hr
  obtain ⟨rfl, _⟩ := h2
  have ha := u64s_rep h1
  have hpn : p = [] := List.eq_nil_of_length_eq_zero hp
  subst hpn
  have hq : q = [] := by
    have := congrArg List.length hc
    rw [ha] at this
    have hz : c.size = 20 := hsz
    have h20 : (Lib.pow10Tab.map (Value.int .u64)).length = 20 := by decide
    simp only [List.nil_append, List.append_nil, List.length_append, Array.length_toList, h20, hz] at this
    exact List.eq_nil_of_length_eq_zero (by omega)
  subst hq
  have hcs : c = (Lib.pow10Tab.map fun z => Value.int .u64 z).toArray := Array.toList_inj.1 (by rw [hc, ha]; simp)
  unfold Lib.TabIs World.var?
  rw [show Go.Proofs.Tryz.prog.globalNamed "internal/strconv.uint64pow10" = some 2 from by kernel_rfl, Option.bind_some, hh', hcs]
theorem strconv_Itoa.ok : CtrOK Go.Proofs.Tryz.prog gl strconv_Itoa.spec := by
  refine fun n => ⟨⟨Go.Proofs.Tryz.f65, by kernel_rfl, by kernel_rfl, by decide +kernel⟩, ?_⟩
  intro inst
  rintro ⟨a0, ⟨⟩⟩ y hy
  have hy := hold_some hy
  cases hb : (decide (-9223372036854775808 ≤ a0) && decide (a0 ≤ 9223372036854775807)) with
  | false => rw [hb] at hy; cases hy
  | true =>
    rw [hb] at hy
    obtain rfl := Option.some.inj hy
    simp only [Bool.and_eq_true, decide_eq_true_eq] at hb
    intro w vs S L harg _ hL hSL hG
    change ArgsRep w [Arg.v (.int .i64) a0] vs S L at harg
    unfold ArgsRep at harg
    obtain ⟨v0, vr, S1, S2, L1, L2, rfl, rfl, rfl, h1, harg⟩ := harg
    unfold ArgsRep at harg
    obtain ⟨rfl, rfl, rfl⟩ := harg
    unfold ArgRep at h1
    obtain ⟨_, ⟨cs, rfl, rfl, rfl⟩, rfl⟩ := h1
    refine (Go.Proofs.Any.strconv_Itoa layItoa a0 hb.1 hb.2 w (strconv_Itoa.tab hG)).mono ?_
    rintro e w' ⟨rfl, k, os, rfl⟩
    refine ⟨[.string ⟨(Lib.itoa a0).toArray⟩], [], [], rfl, ⟨_, [], [], [], rfl, rfl, rfl, ⟨rfl, rfl⟩, rfl, rfl⟩, ?_, by simp, by simp, rfl, rfl, rfl, by simp [Go.Sort.grow, World.drewN], fun b hb _ => by simp [Go.Sort.grow, World.drewN, Array.getElem?_append, hb]⟩
    change OutsRep _ _ [Arg.v (.int .i64) a0] _ _ _
    simp only [OutsRep, OutRep]
    exact ⟨_, _, [], [], [], [], rfl, rfl, rfl, ⟨rfl, rfl⟩, rfl, rfl⟩


/-! loop.example/g00039/impl.digitsOf -/
def impl_digitsOf.T : List Ctr := [strconv_Itoa.spec]
def impl_digitsOf.md : List (Nat × List Md) := []
noncomputable def impl_digitsOf.F : Fun := ⟨(Go.Proofs.Tryz.f43.body).getD .skip, [.v (.int .i64)], [(.tmp 2, .str)], [], 0, []⟩
inductive impl_digitsOf.Pt where
  | p0 (a0 : Int)
def impl_digitsOf.lb : impl_digitsOf.Pt → Nat
  | .p0 _ => 0
def impl_digitsOf.st : impl_digitsOf.Pt → St
  | .p0 a0 => enter [.v (.int .i64) a0] 0
def impl_digitsOf.step (n : Nat) (K : impl_digitsOf.Pt → Option (Tup [.str])) : impl_digitsOf.Pt → Option (Tup [.str])
  | .p0 a0 => (strconv_Itoa n a0).bind fun r4 => some r4
def impl_digitsOf (n : Nat) (a0 : Int) : Option (Tup [.str]) := goRec impl_digitsOf.step n (.p0 a0)
def impl_digitsOf.spec : Ctr := ⟨43, [.v (.int .i64)], [.str], [], none, fun n x => impl_digitsOf n x.1⟩
theorem impl_digitsOf.seg_eq : SegEq ty gl impl_digitsOf.F impl_digitsOf.md impl_digitsOf.T impl_digitsOf.spec impl_digitsOf.lb impl_digitsOf.st impl_digitsOf.step := by
  intro n goto y; cases y <;> kernel_rfl
theorem impl_digitsOf.text : Text Go.Proofs.Tryz.prog impl_digitsOf.F impl_digitsOf.spec := textOf Go.Proofs.Tryz.f43
theorem impl_digitsOf.ok : CtrOK Go.Proofs.Tryz.prog gl impl_digitsOf.spec :=
  ctr_okS tabs impl_digitsOf.text impl_digitsOf.seg_eq (fun n x => ⟨.p0 x.1, rfl, rfl, rfl⟩) (consC strconv_Itoa.ok (nilC))

/-! loop.example/g00039/impl.intsText -/
def impl_intsText.T : List Ctr := [strings_Join.spec, impl_digitsOf.spec]
def impl_intsText.md : List (Nat × List Md) := []
noncomputable def impl_intsText.F : Fun := ⟨(Go.Proofs.Tryz.f44.body).getD .skip, [.v (.sl false (.int .i64))], [(.tmp 2, .str)], [], 0, [(9, ⟨[3, 6, 7, 8], [(3, .str), (6, (.int .i64))], [], false⟩)]⟩
inductive impl_intsText.Pt where
  | p0 (a0 : List (Int))
  | p9 (y1 : List (Int)) (y2 : Int) (y3 : Int) (y4 : List (ByteArray))
def impl_intsText.lb : impl_intsText.Pt → Nat
  | .p0 _ => 0
  | .p9 _ _ _ _ => 9
def impl_intsText.st : impl_intsText.Pt → St
  | .p0 a0 => enter [.v (.sl false (.int .i64)) a0] 0
  | .p9 y1 y2 y3 y4 => ⟨[(3, .hs 0 [] none 0), (6, .im (.sl false (.int .i64)) y1), (7, .im (.int .i64) y2), (8, .im (.int .i64) y3)], [(0, .arr true .str y4 0)], 1⟩
def impl_intsText.step (n : Nat) (K : impl_intsText.Pt → Option (Tup [.str])) : impl_intsText.Pt → Option (Tup [.str])
  | .p0 a0 => K (.p9 a0 ((List.length a0) : Int) (0 : Int) ([] : List (ByteArray)))
  | .p9 y1 y2 y3 y4 => cond (decide (y3 < y2)) (cond (inB y3 (List.length y1)) ((impl_digitsOf n (List.getD y1 (Int.toNat y3) default)).bind fun r7 => cond (room ((List.length y4) + (List.length [r7]))) (K (.p9 y1 y2 (IntKind.wrap .i64 (y3 + (1 : Int))) (y4 ++ [r7]))) (none)) (none)) ((strings_Join n y4 (⟨#[44]⟩ : ByteArray)).bind fun r7 => some r7)
def impl_intsText (n : Nat) (a0 : List (Int)) : Option (Tup [.str]) := goRec impl_intsText.step n (.p0 a0)
def impl_intsText.spec : Ctr := ⟨44, [.v (.sl false (.int .i64))], [.str], [], none, fun n x => impl_intsText n x.1⟩
theorem impl_intsText.seg_eq : SegEq ty gl impl_intsText.F impl_intsText.md impl_intsText.T impl_intsText.spec impl_intsText.lb impl_intsText.st impl_intsText.step := by
  intro n goto y; cases y <;> kernel_rfl
theorem impl_intsText.text : Text Go.Proofs.Tryz.prog impl_intsText.F impl_intsText.spec := textOf Go.Proofs.Tryz.f44
theorem impl_intsText.ok : CtrOK Go.Proofs.Tryz.prog gl impl_intsText.spec :=
  ctr_okS tabs impl_intsText.text impl_intsText.seg_eq (fun n x => ⟨.p0 x.1, rfl, rfl, rfl⟩) (consC strings_Join.ok (consC impl_digitsOf.ok (nilC)))

/-! loop.example/g00039/impl.routeText -/
def impl_routeText.T : List Ctr := [strings_Join.spec, impl_MatchersText.spec, impl_digitsOf.spec, impl_intsText.spec]
def impl_routeText.md : List (Nat × List Md) := []
noncomputable def impl_routeText.F : Fun := ⟨(Go.Proofs.Tryz.f18.body).getD .skip, [.v (.pair .str (.pair (.sl false (.pair .str (.pair (.int .i64) (.pair .str .unit)))) (.pair (.sl false .str) (.pair (.int .i64) (.pair (.int .i64) (.pair (.int .i64) (.pair (.sl false (.int .i64)) (.pair .bool (.pair (.int .i64) .unit)))))))))], [(.tmp 2, .str)], [], 0, [(5, ⟨[1, 3], [], [(1, 1, (.pair .str (.pair (.int .i64) (.pair .str .unit)))), (1, 2, .str), (1, 6, (.int .i64))], false⟩), (11, ⟨[1, 3], [], [(1, 1, (.pair .str (.pair (.int .i64) (.pair .str .unit)))), (1, 2, .str), (1, 6, (.int .i64))], false⟩)]⟩
inductive impl_routeText.Pt where
  | p0 (a0 : (ByteArray) × ((List ((ByteArray) × ((Int) × ((ByteArray) × (Unit))))) × ((List (ByteArray)) × ((Int) × ((Int) × ((Int) × ((List (Int)) × ((Bool) × ((Int) × (Unit))))))))))
  | p5 (y1 : ByteArray) (y2 : ByteArray) (y3 : List ((ByteArray) × ((Int) × ((ByteArray) × (Unit))))) (y4 : List (ByteArray)) (y5 : Int) (y6 : Int) (y7 : Int) (y8 : List (Int)) (y9 : Bool) (y10 : Int)
  | p11 (y1 : ByteArray) (y2 : ByteArray) (y3 : List ((ByteArray) × ((Int) × ((ByteArray) × (Unit))))) (y4 : List (ByteArray)) (y5 : Int) (y6 : Int) (y7 : Int) (y8 : List (Int)) (y9 : Bool) (y10 : Int)
def impl_routeText.lb : impl_routeText.Pt → Nat
  | .p0 _ => 0
  | .p5 _ _ _ _ _ _ _ _ _ _ => 5
  | .p11 _ _ _ _ _ _ _ _ _ _ => 11
def impl_routeText.st : impl_routeText.Pt → St
  | .p0 a0 => enter [.v (.pair .str (.pair (.sl false (.pair .str (.pair (.int .i64) (.pair .str .unit)))) (.pair (.sl false .str) (.pair (.int .i64) (.pair (.int .i64) (.pair (.int .i64) (.pair (.sl false (.int .i64)) (.pair .bool (.pair (.int .i64) .unit))))))))) a0] 0
  | .p5 y1 y2 y3 y4 y5 y6 y7 y8 y9 y10 => ⟨[(1, .po 0 0), (3, .im .str y1)], [(0, .obj [.im .str y2, .im (.sl false (.pair .str (.pair (.int .i64) (.pair .str .unit)))) y3, .im (.sl false .str) y4, .im (.int .i64) y5, .im (.int .i64) y6, .im (.int .i64) y7, .im (.sl false (.int .i64)) y8, .im .bool y9, .im (.int .i64) y10])], 1⟩
  | .p11 y1 y2 y3 y4 y5 y6 y7 y8 y9 y10 => ⟨[(1, .po 0 0), (3, .im .str y1)], [(0, .obj [.im .str y2, .im (.sl false (.pair .str (.pair (.int .i64) (.pair .str .unit)))) y3, .im (.sl false .str) y4, .im (.int .i64) y5, .im (.int .i64) y6, .im (.int .i64) y7, .im (.sl false (.int .i64)) y8, .im .bool y9, .im (.int .i64) y10])], 1⟩
def impl_routeText.step (n : Nat) (K : impl_routeText.Pt → Option (Tup [.str])) : impl_routeText.Pt → Option (Tup [.str])
  | .p0 a0 => cond (decide ((0 : Int) < ((List.length a0.2.1) : Int))) ((impl_MatchersText n a0.2.1).bind fun r4 => cond (room ((ByteArray.size (⟨#[32]⟩ : ByteArray)) + (ByteArray.size r4))) (cond (room ((ByteArray.size a0.1) + (ByteArray.size ((⟨#[32]⟩ : ByteArray) ++ r4)))) (K (.p5 (a0.1 ++ ((⟨#[32]⟩ : ByteArray) ++ r4)) a0.1 a0.2.1 a0.2.2.1 a0.2.2.2.1 a0.2.2.2.2.1 a0.2.2.2.2.2.1 a0.2.2.2.2.2.2.1 a0.2.2.2.2.2.2.2.1 a0.2.2.2.2.2.2.2.2.1)) (none)) (none)) (K (.p5 a0.1 a0.1 a0.2.1 a0.2.2.1 a0.2.2.2.1 a0.2.2.2.2.1 a0.2.2.2.2.2.1 a0.2.2.2.2.2.2.1 a0.2.2.2.2.2.2.2.1 a0.2.2.2.2.2.2.2.2.1))
  | .p5 y1 y2 y3 y4 y5 y6 y7 y8 y9 y10 => cond (decide ((0 : Int) < ((List.length y4) : Int))) ((strings_Join n y4 (⟨#[44]⟩ : ByteArray)).bind fun r13 => cond (room ((ByteArray.size (⟨#[32, 98, 121, 32]⟩ : ByteArray)) + (ByteArray.size r13))) (cond (room ((ByteArray.size y1) + (ByteArray.size ((⟨#[32, 98, 121, 32]⟩ : ByteArray) ++ r13)))) (K (.p11 (y1 ++ ((⟨#[32, 98, 121, 32]⟩ : ByteArray) ++ r13)) y2 y3 y4 y5 y6 y7 y8 y9 y10)) (none)) (none)) (K (.p11 y1 y2 y3 y4 y5 y6 y7 y8 y9 y10))
  | .p11 y1 y2 y3 y4 y5 y6 y7 y8 y9 y10 => (impl_digitsOf n y5).bind fun r13 => cond (room ((ByteArray.size (⟨#[32, 119, 97, 105, 116, 32]⟩ : ByteArray)) + (ByteArray.size r13))) (cond (room ((ByteArray.size ((⟨#[32, 119, 97, 105, 116, 32]⟩ : ByteArray) ++ r13)) + (ByteArray.size (⟨#[32, 101, 118, 101, 114, 121, 32]⟩ : ByteArray)))) ((impl_digitsOf n y6).bind fun r14 => cond (room ((ByteArray.size (((⟨#[32, 119, 97, 105, 116, 32]⟩ : ByteArray) ++ r13) ++ (⟨#[32, 101, 118, 101, 114, 121, 32]⟩ : ByteArray))) + (ByteArray.size r14))) (cond (room ((ByteArray.size ((((⟨#[32, 119, 97, 105, 116, 32]⟩ : ByteArray) ++ r13) ++ (⟨#[32, 101, 118, 101, 114, 121, 32]⟩ : ByteArray)) ++ r14)) + (ByteArray.size (⟨#[32, 97, 103, 97, 105, 110, 32]⟩ : ByteArray)))) ((impl_digitsOf n y7).bind fun r15 => cond (room ((ByteArray.size (((((⟨#[32, 119, 97, 105, 116, 32]⟩ : ByteArray) ++ r13) ++ (⟨#[32, 101, 118, 101, 114, 121, 32]⟩ : ByteArray)) ++ r14) ++ (⟨#[32, 97, 103, 97, 105, 110, 32]⟩ : ByteArray))) + (ByteArray.size r15))) (cond (room ((ByteArray.size y1) + (ByteArray.size ((((((⟨#[32, 119, 97, 105, 116, 32]⟩ : ByteArray) ++ r13) ++ (⟨#[32, 101, 118, 101, 114, 121, 32]⟩ : ByteArray)) ++ r14) ++ (⟨#[32, 97, 103, 97, 105, 110, 32]⟩ : ByteArray)) ++ r15)))) (cond (decide ((0 : Int) < ((List.length y8) : Int))) ((impl_intsText n y8).bind fun r16 => cond (room ((ByteArray.size (⟨#[32, 109, 117, 116, 101, 32]⟩ : ByteArray)) + (ByteArray.size r16))) (cond (room ((ByteArray.size (y1 ++ ((((((⟨#[32, 119, 97, 105, 116, 32]⟩ : ByteArray) ++ r13) ++ (⟨#[32, 101, 118, 101, 114, 121, 32]⟩ : ByteArray)) ++ r14) ++ (⟨#[32, 97, 103, 97, 105, 110, 32]⟩ : ByteArray)) ++ r15))) + (ByteArray.size ((⟨#[32, 109, 117, 116, 101, 32]⟩ : ByteArray) ++ r16)))) (cond y9 (cond (room ((ByteArray.size ((y1 ++ ((((((⟨#[32, 119, 97, 105, 116, 32]⟩ : ByteArray) ++ r13) ++ (⟨#[32, 101, 118, 101, 114, 121, 32]⟩ : ByteArray)) ++ r14) ++ (⟨#[32, 97, 103, 97, 105, 110, 32]⟩ : ByteArray)) ++ r15)) ++ ((⟨#[32, 109, 117, 116, 101, 32]⟩ : ByteArray) ++ r16))) + (ByteArray.size (⟨#[32, 111, 110]⟩ : ByteArray)))) (some (((y1 ++ ((((((⟨#[32, 119, 97, 105, 116, 32]⟩ : ByteArray) ++ r13) ++ (⟨#[32, 101, 118, 101, 114, 121, 32]⟩ : ByteArray)) ++ r14) ++ (⟨#[32, 97, 103, 97, 105, 110, 32]⟩ : ByteArray)) ++ r15)) ++ ((⟨#[32, 109, 117, 116, 101, 32]⟩ : ByteArray) ++ r16)) ++ (⟨#[32, 111, 110]⟩ : ByteArray))) (none)) (some ((y1 ++ ((((((⟨#[32, 119, 97, 105, 116, 32]⟩ : ByteArray) ++ r13) ++ (⟨#[32, 101, 118, 101, 114, 121, 32]⟩ : ByteArray)) ++ r14) ++ (⟨#[32, 97, 103, 97, 105, 110, 32]⟩ : ByteArray)) ++ r15)) ++ ((⟨#[32, 109, 117, 116, 101, 32]⟩ : ByteArray) ++ r16)))) (none)) (none)) (cond y9 (cond (room ((ByteArray.size (y1 ++ ((((((⟨#[32, 119, 97, 105, 116, 32]⟩ : ByteArray) ++ r13) ++ (⟨#[32, 101, 118, 101, 114, 121, 32]⟩ : ByteArray)) ++ r14) ++ (⟨#[32, 97, 103, 97, 105, 110, 32]⟩ : ByteArray)) ++ r15))) + (ByteArray.size (⟨#[32, 111, 110]⟩ : ByteArray)))) (some ((y1 ++ ((((((⟨#[32, 119, 97, 105, 116, 32]⟩ : ByteArray) ++ r13) ++ (⟨#[32, 101, 118, 101, 114, 121, 32]⟩ : ByteArray)) ++ r14) ++ (⟨#[32, 97, 103, 97, 105, 110, 32]⟩ : ByteArray)) ++ r15)) ++ (⟨#[32, 111, 110]⟩ : ByteArray))) (none)) (some (y1 ++ ((((((⟨#[32, 119, 97, 105, 116, 32]⟩ : ByteArray) ++ r13) ++ (⟨#[32, 101, 118, 101, 114, 121, 32]⟩ : ByteArray)) ++ r14) ++ (⟨#[32, 97, 103, 97, 105, 110, 32]⟩ : ByteArray)) ++ r15))))) (none)) (none)) (none)) (none)) (none)) (none)
def impl_routeText (n : Nat) (a0 : (ByteArray) × ((List ((ByteArray) × ((Int) × ((ByteArray) × (Unit))))) × ((List (ByteArray)) × ((Int) × ((Int) × ((Int) × ((List (Int)) × ((Bool) × ((Int) × (Unit)))))))))) : Option (Tup [.str]) := goRec impl_routeText.step n (.p0 a0)
def impl_routeText.spec : Ctr := ⟨18, [.v (.pair .str (.pair (.sl false (.pair .str (.pair (.int .i64) (.pair .str .unit)))) (.pair (.sl false .str) (.pair (.int .i64) (.pair (.int .i64) (.pair (.int .i64) (.pair (.sl false (.int .i64)) (.pair .bool (.pair (.int .i64) .unit)))))))))], [.str], [], none, fun n x => impl_routeText n x.1⟩
theorem impl_routeText.seg_eq : SegEq ty gl impl_routeText.F impl_routeText.md impl_routeText.T impl_routeText.spec impl_routeText.lb impl_routeText.st impl_routeText.step := by
  intro n goto y; cases y <;> kernel_rfl
theorem impl_routeText.text : Text Go.Proofs.Tryz.prog impl_routeText.F impl_routeText.spec := textOf Go.Proofs.Tryz.f18
theorem impl_routeText.ok : CtrOK Go.Proofs.Tryz.prog gl impl_routeText.spec :=
  ctr_okS tabs impl_routeText.text impl_routeText.seg_eq (fun n x => ⟨.p0 x.1, rfl, rfl, rfl⟩) (consC strings_Join.ok (consC impl_MatchersText.ok (consC impl_digitsOf.ok (consC impl_intsText.ok (nilC)))))

/-! loop.example/g00039/impl.RoutesText -/
def impl_RoutesText.T : List Ctr := [impl_depths.spec, impl_GoodRoutes.spec, strings_Repeat.spec, impl_routeText.spec]
def impl_RoutesText.md : List (Nat × List Md) := [(16, [.bl 1 46 5]), (19, [.bl 3 46 5]), (20, [.bl 2 46 5])]
noncomputable def impl_RoutesText.F : Fun := ⟨(Go.Proofs.Tryz.f7.body).getD .skip, [.v (.sl false (.pair .str (.pair (.sl false (.pair .str (.pair (.int .i64) (.pair .str .unit)))) (.pair (.sl false .str) (.pair (.int .i64) (.pair (.int .i64) (.pair (.int .i64) (.pair (.sl false (.int .i64)) (.pair .bool (.pair (.int .i64) .unit))))))))))], [(.tmp 2, .str)], [], 0, [(17, ⟨[0, 3, 10, 11, 12], [(10, (.int .i64))], [(3, 1, (.int .u8))], true⟩)]⟩
inductive impl_RoutesText.Pt where
  | p0 (a0 : List ((ByteArray) × ((List ((ByteArray) × ((Int) × ((ByteArray) × (Unit))))) × ((List (ByteArray)) × ((Int) × ((Int) × ((Int) × ((List (Int)) × ((Bool) × ((Int) × (Unit)))))))))))
  | p17 (y1 : List ((ByteArray) × ((List ((ByteArray) × ((Int) × ((ByteArray) × (Unit))))) × ((List (ByteArray)) × ((Int) × ((Int) × ((Int) × ((List (Int)) × ((Bool) × ((Int) × (Unit))))))))))) (y2 : Int) (y3 : Int) (y4 : List Int) (y5 : List (Int))
def impl_RoutesText.lb : impl_RoutesText.Pt → Nat
  | .p0 _ => 0
  | .p17 _ _ _ _ _ => 17
def impl_RoutesText.st : impl_RoutesText.Pt → St
  | .p0 a0 => enter [.v (.sl false (.pair .str (.pair (.sl false (.pair .str (.pair (.int .i64) (.pair .str .unit)))) (.pair (.sl false .str) (.pair (.int .i64) (.pair (.int .i64) (.pair (.int .i64) (.pair (.sl false (.int .i64)) (.pair .bool (.pair (.int .i64) .unit)))))))))) a0] 0
  | .p17 y1 y2 y3 y4 y5 => ⟨[(0, .im (.sl false (.pair .str (.pair (.sl false (.pair .str (.pair (.int .i64) (.pair .str .unit)))) (.pair (.sl false .str) (.pair (.int .i64) (.pair (.int .i64) (.pair (.int .i64) (.pair (.sl false (.int .i64)) (.pair .bool (.pair (.int .i64) .unit)))))))))) y1), (3, .po 0 0), (10, .hs 1 [] none 0), (11, .im (.int .i64) y2), (12, .im (.int .i64) y3)], [(0, .bld 46 5 false y4), (1, .arr false (.int .i64) y5 0)], 2⟩
def impl_RoutesText.step (n : Nat) (K : impl_RoutesText.Pt → Option (Tup [.str])) : impl_RoutesText.Pt → Option (Tup [.str])
  | .p0 a0 => (impl_GoodRoutes n a0).bind fun r4 => cond (!r4) (some (⟨#[]⟩ : ByteArray)) ((impl_depths n a0).bind fun r5 => K (.p17 a0 ((List.length r5) : Int) (0 : Int) ([] : List (Int)) r5))
  | .p17 y1 y2 y3 y4 y5 => cond (decide (y3 < y2)) (cond (inB y3 (List.length y5)) ((strings_Repeat n (⟨#[32, 32]⟩ : ByteArray) (List.getD y5 (0 + (Int.toNat y3)) default)).bind fun r8 => cond (inB y3 (List.length y1)) ((impl_routeText n (List.getD y1 (Int.toNat y3) default)).bind fun r9 => cond (room ((ByteArray.size r8) + (ByteArray.size r9))) (cond (room ((ByteArray.size (r8 ++ r9)) + (ByteArray.size (⟨#[10]⟩ : ByteArray)))) (cond (room ((List.length y4) + (ByteArray.size ((r8 ++ r9) ++ (⟨#[10]⟩ : ByteArray))))) (K (.p17 y1 y2 (IntKind.wrap .i64 (y3 + (1 : Int))) (y4 ++ (octs ((r8 ++ r9) ++ (⟨#[10]⟩ : ByteArray)))) y5)) (none)) (none)) (none)) (none)) (none)) (cond (room (List.length y4)) (cond (decide ((10000 : Int) < ((List.length y4) : Int))) (some (⟨#[]⟩ : ByteArray)) (cond (room (List.length y4)) (some (ofOcts y4)) (none))) (none))
def impl_RoutesText (n : Nat) (a0 : List ((ByteArray) × ((List ((ByteArray) × ((Int) × ((ByteArray) × (Unit))))) × ((List (ByteArray)) × ((Int) × ((Int) × ((Int) × ((List (Int)) × ((Bool) × ((Int) × (Unit))))))))))) : Option (Tup [.str]) := goRec impl_RoutesText.step n (.p0 a0)
def impl_RoutesText.spec : Ctr := ⟨7, [.v (.sl false (.pair .str (.pair (.sl false (.pair .str (.pair (.int .i64) (.pair .str .unit)))) (.pair (.sl false .str) (.pair (.int .i64) (.pair (.int .i64) (.pair (.int .i64) (.pair (.sl false (.int .i64)) (.pair .bool (.pair (.int .i64) .unit))))))))))], [.str], [], none, fun n x => impl_RoutesText n x.1⟩
theorem impl_RoutesText.seg_eq : SegEq ty gl impl_RoutesText.F impl_RoutesText.md impl_RoutesText.T impl_RoutesText.spec impl_RoutesText.lb impl_RoutesText.st impl_RoutesText.step := by
  intro n goto y; cases y <;> kernel_rfl
theorem impl_RoutesText.text : Text Go.Proofs.Tryz.prog impl_RoutesText.F impl_RoutesText.spec := textOf Go.Proofs.Tryz.f7
theorem impl_RoutesText.ok : CtrOK Go.Proofs.Tryz.prog gl impl_RoutesText.spec :=
  ctr_okS tabs impl_RoutesText.text impl_RoutesText.seg_eq (fun n x => ⟨.p0 x.1, rfl, rfl, rfl⟩) (consC impl_depths.ok (consC impl_GoodRoutes.ok (consC strings_Repeat.ok (consC impl_routeText.ok (nilC))))) (bld.all (by kernel_rfl))

/-! loop.example/g00039/laws.eqMatcher -/
def laws_eqMatcher.T : List Ctr := []
def laws_eqMatcher.md : List (Nat × List Md) := []
noncomputable def laws_eqMatcher.F : Fun := ⟨(Go.Proofs.Tryz.f66.body).getD .skip, [.v (.pair .str (.pair (.int .i64) (.pair .str .unit))), .v (.pair .str (.pair (.int .i64) (.pair .str .unit)))], [(.tmp 4, .bool)], [], 0, []⟩
inductive laws_eqMatcher.Pt where
  | p0 (a0 : (ByteArray) × ((Int) × ((ByteArray) × (Unit)))) (a1 : (ByteArray) × ((Int) × ((ByteArray) × (Unit))))
def laws_eqMatcher.lb : laws_eqMatcher.Pt → Nat
  | .p0 _ _ => 0
def laws_eqMatcher.st : laws_eqMatcher.Pt → St
  | .p0 a0 a1 => enter [.v (.pair .str (.pair (.int .i64) (.pair .str .unit))) a0, .v (.pair .str (.pair (.int .i64) (.pair .str .unit))) a1] 0
def laws_eqMatcher.step (n : Nat) (K : laws_eqMatcher.Pt → Option (Tup [.bool])) : laws_eqMatcher.Pt → Option (Tup [.bool])
  | .p0 a0 a1 => cond (!(seq a0.1 a1.1)) (some false) (cond (!(decide (a0.2.1 = a1.2.1))) (some false) (cond (!(seq a0.2.2.1 a1.2.2.1)) (some false) (some true)))
def laws_eqMatcher (n : Nat) (a0 : (ByteArray) × ((Int) × ((ByteArray) × (Unit)))) (a1 : (ByteArray) × ((Int) × ((ByteArray) × (Unit)))) : Option (Tup [.bool]) := goRec laws_eqMatcher.step n (.p0 a0 a1)
def laws_eqMatcher.spec : Ctr := ⟨66, [.v (.pair .str (.pair (.int .i64) (.pair .str .unit))), .v (.pair .str (.pair (.int .i64) (.pair .str .unit)))], [.bool], [], none, fun n x => laws_eqMatcher n x.1 x.2.1⟩
theorem laws_eqMatcher.seg_eq : SegEq ty gl laws_eqMatcher.F laws_eqMatcher.md laws_eqMatcher.T laws_eqMatcher.spec laws_eqMatcher.lb laws_eqMatcher.st laws_eqMatcher.step := by
  intro n goto y; cases y <;> kernel_rfl
theorem laws_eqMatcher.text : Text Go.Proofs.Tryz.prog laws_eqMatcher.F laws_eqMatcher.spec := textOf Go.Proofs.Tryz.f66
theorem laws_eqMatcher.ok : CtrOK Go.Proofs.Tryz.prog gl laws_eqMatcher.spec :=
  ctr_okS tabs laws_eqMatcher.text laws_eqMatcher.seg_eq (fun n x => ⟨.p0 x.1 x.2.1, rfl, rfl, rfl⟩) (nilC)

end Go.RX
