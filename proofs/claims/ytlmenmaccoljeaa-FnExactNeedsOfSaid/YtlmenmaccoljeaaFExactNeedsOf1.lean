/- The functions that the law reaches, each as a Lean function and with its contract, part 1. -/
import Derived.Test.YtlmenmaccoljeaaV1
import Derived.Test.YtlmenmaccoljeaaV2
import Derived.Test.YtlmenmaccoljeaaV3
import Derived.Test.YtlmenmaccoljeaaV4
import Derived.Lib.Bytealg
import Derived.Shelf.Lays
import Derived.Shelf.Small.Strs
import Derived.Test.YtlmenmaccoljeaaProg
open Go Go.VM
namespace Go.NE
set_option maxRecDepth 100000
set_option linter.unusedVariables false
set_option linter.unusedSimpArgs false
set_option linter.unusedSectionVars false
variable [Bor]
abbrev cU3 : U := (.pair .str (.pair (.int .i64) (.pair .str .unit)))
abbrev cU0 : U := (.pair (.int .i64) (.pair (.int .i64) (.pair (.int .i64) (.pair .str (.pair (.int .i64) (.pair (.bs cU3) (.pair (.int .i64) (.pair .bool (.pair (.int .i64) (.pair .bool (.pair (.int .i64) (.pair (.bs .str) (.pair (.int .i64) (.pair (.bs .str) (.pair (.int .i64) .unit)))))))))))))))
abbrev cU2 : U := (.pair (.int .i64) (.pair (.int .i64) (.pair (.int .i64) (.pair .str (.pair (.int .i64) (.pair (.sl false cU3) (.pair (.int .i64) (.pair .bool (.pair (.int .i64) (.pair .bool (.pair (.int .i64) (.pair (.sl false .str) (.pair (.int .i64) (.pair (.sl false .str) (.pair (.int .i64) .unit)))))))))))))))
abbrev tU4 : Type := (ByteArray) × ((Int) × ((ByteArray) × (Unit)))
abbrev tU1 : Type := (Int) × ((Int) × ((Int) × ((ByteArray) × ((Int) × ((List (tU4)) × ((Int) × ((Bool) × ((Int) × ((Bool) × ((Int) × ((List (ByteArray)) × ((Int) × ((List (ByteArray)) × ((Int) × (Unit)))))))))))))))
abbrev cU5 : U := (.pair (.sl false cU3) (.pair (.int .i64) (.pair (.int .i64) .unit)))
abbrev tU6 : Type := (List (tU4)) × ((Int) × ((Int) × (Unit)))
def ty : List (Nat × U) := [(1, .oth), (2, (.int .i64)), (3, (.int .i64)), (4, .bool), (5, (.int .u8)), (6, (.int .u8)), (7, (.pair (.int .i64) (.pair (.int .i64) (.pair .bool (.pair (.int .u8) .unit))))), (8, (.pair (.int .i64) (.pair (.int .i64) (.pair .bool (.pair (.int .u8) .unit))))), (9, .str), (10, .str), (11, .str), (12, (.int .u64)), (15, .oth), (16, .oth), (17, .oth), (18, (.pair .oth .unit)), (19, (.pair .oth .unit)), (20, .oth), (21, (.int .i32)), (22, (.sl false cU2)), (23, .oth), (24, (.sl false cU5)), (25, .oth), (26, (.sl false cU2)), (27, .oth), (28, .oth), (29, .oth), (30, .oth), (31, .oth), (32, .oth), (33, .oth), (34, (.sl false cU3)), (35, (.sl false .str)), (36, cU2), (37, cU2), (38, (.sl false cU3)), (39, cU2), (40, cU2), (41, (.sl false (.tr cU0))), (42, (.pair cU2 (.pair (.sl false (.tr cU0)) .unit))), (43, (.tr cU0)), (45, .oth), (46, .oth), (47, .oth), (48, .oth), (49, (.pt cU0)), (50, .oth), (51, .oth), (52, (.sl false (.pt cU0))), (53, (.pair cU2 (.pair (.sl false (.pt cU0)) .unit))), (54, (.pair cU0 (.pair (.sl false (.pt cU0)) .unit))), (55, .oth), (56, cU3), (57, cU3), (58, cU5), (59, cU5), (60, .oth), (61, .oth), (62, .oth), (63, .oth), (64, .oth), (65, .oth), (67, .oth), (69, .oth), (70, .oth), (71, .oth), (72, .oth), (73, .oth), (74, .oth), (75, .oth), (76, (.sl false (.int .u8))), (77, .oth), (78, cU3), (79, .oth), (80, .oth), (81, .oth), (82, .oth), (83, .oth), (84, .oth), (85, .oth), (86, .oth), (87, .oth), (88, .oth), (89, .oth), (90, .oth), (91, .oth), (92, .oth), (93, .oth), (94, .oth), (95, (.sl false (.sl false (.int .i64)))), (97, .oth), (98, .oth), (99, (.sl false (.sl false (.pair (.int .u8) (.pair .bool (.pair .bool .unit)))))), (101, .oth), (102, (.sl false (.int .i64))), (103, .oth), (104, (.pair (.int .u8) (.pair .bool (.pair .bool .unit)))), (105, (.pair (.int .u8) (.pair .bool (.pair .bool .unit)))), (106, (.sl false (.pair (.int .u8) (.pair .bool (.pair .bool .unit))))), (107, .oth), (108, .oth), (109, .oth), (110, (.pair .oth (.pair .oth (.pair .oth (.pair .str .unit))))), (111, (.pair .oth (.pair .oth (.pair .oth (.pair .str .unit))))), (112, (.ar 0 .oth)), (115, .oth), (116, (.int .u32)), (117, (.int .u8)), (118, (.int .u8)), (119, .oth), (120, .oth), (121, (.int .i32)), (122, (.int .i32)), (123, (.pair (.int .u64) (.pair (.int .u64) (.pair (.int .u32) (.pair (.int .u8) (.pair (.int .u8) (.pair (.int .u8) (.pair (.int .u8) (.pair .oth (.pair .oth (.pair (.int .i32) (.pair (.int .i32) .unit)))))))))))), (124, (.pair (.int .u64) (.pair (.int .u64) (.pair (.int .u32) (.pair (.int .u8) (.pair (.int .u8) (.pair (.int .u8) (.pair (.int .u8) (.pair .oth (.pair .oth (.pair (.int .i32) (.pair (.int .i32) .unit)))))))))))), (125, .oth)]
def tyN : List (Nat × U) := [(22, (.sl false cU0)), (26, (.sl false cU0)), (36, cU0), (37, cU0), (39, cU0), (40, cU0), (42, (.pair cU0 (.pair (.sl false (.tr cU0)) .unit))), (53, (.pair cU0 (.pair (.sl false (.pt cU0)) .unit)))] ++ ty
def gl : List (Nat × TV) := []
theorem tabs : Tabs Go.Proofs.Try.prog ty gl := tabs_of (by kernel_rfl) (by kernel_rfl)
theorem tabsN : Tabs Go.Proofs.Try.prog tyN gl := tabs_of (by kernel_rfl) (by kernel_rfl)
/-! loop.example/g00039/laws.szMatcher -/
def laws_szMatcher.T : List Ctr := []
def laws_szMatcher.md : List (Nat × List Md) := []
noncomputable def laws_szMatcher.F : Fun := ⟨(Go.Proofs.Try.f38.body).getD .skip, [.v cU3, .v (.int .i64)], [(.tmp 4, (.int .i64))], [], 0, []⟩
inductive laws_szMatcher.Pt where
  | p0 (a0 : tU4) (a1 : Int)
def laws_szMatcher.lb : laws_szMatcher.Pt → Nat
  | .p0 _ _ => 0
def laws_szMatcher.st : laws_szMatcher.Pt → St
  | .p0 a0 a1 => enter [.v cU3 a0, .v (.int .i64) a1] 0
def laws_szMatcher.step (n : Nat) (K : laws_szMatcher.Pt → Option (Tup [(.int .i64)])) : laws_szMatcher.Pt → Option (Tup [(.int .i64)])
  | .p0 a0 a1 => cond (decide ((IntKind.wrap .i64 (a1 - ((ByteArray.size a0.1) : Int))) < (0 : Int))) (some (-(1 : Int))) (cond (decide ((IntKind.wrap .i64 ((IntKind.wrap .i64 (a1 - ((ByteArray.size a0.1) : Int))) - ((ByteArray.size a0.2.2.1) : Int))) < (0 : Int))) (some (-(1 : Int))) (some (IntKind.wrap .i64 ((IntKind.wrap .i64 (a1 - ((ByteArray.size a0.1) : Int))) - ((ByteArray.size a0.2.2.1) : Int)))))
def laws_szMatcher (n : Nat) (a0 : tU4) (a1 : Int) : Option (Tup [(.int .i64)]) := goRec laws_szMatcher.step n (.p0 a0 a1)
def laws_szMatcher.spec : Ctr := ⟨38, [.v cU3, .v (.int .i64)], [(.int .i64)], [], none, fun n x => laws_szMatcher n x.1 x.2.1⟩
theorem laws_szMatcher.seg_eq : SegEq ty gl laws_szMatcher.F laws_szMatcher.md laws_szMatcher.T laws_szMatcher.spec laws_szMatcher.lb laws_szMatcher.st laws_szMatcher.step := by
  intro n goto y; cases y <;> kernel_rfl
theorem laws_szMatcher.text : Text Go.Proofs.Try.prog laws_szMatcher.F laws_szMatcher.spec := textOf Go.Proofs.Try.f38
theorem laws_szMatcher.ok : CtrOK Go.Proofs.Try.prog gl laws_szMatcher.spec :=
  ctr_okS tabs laws_szMatcher.text laws_szMatcher.seg_eq (fun n x => ⟨.p0 x.1 x.2.1, rfl, rfl, rfl⟩) (nilC)

/-! loop.example/g00039/laws.szMatcherS -/
def laws_szMatcherS.T : List Ctr := [laws_szMatcher.spec]
def laws_szMatcherS.md : List (Nat × List Md) := []
noncomputable def laws_szMatcherS.F : Fun := ⟨(Go.Proofs.Try.f28.body).getD .skip, [.v (.sl false cU3), .v (.int .i64)], [(.tmp 4, (.int .i64))], [], 0, [(17, ⟨[0, 1, 5], [], [], false⟩)]⟩
inductive laws_szMatcherS.Pt where
  | p0 (a0 : List (tU4)) (a1 : Int)
  | p17 (y1 : List (tU4)) (y2 : Int) (y3 : Int)
def laws_szMatcherS.lb : laws_szMatcherS.Pt → Nat
  | .p0 _ _ => 0
  | .p17 _ _ _ => 17
def laws_szMatcherS.st : laws_szMatcherS.Pt → St
  | .p0 a0 a1 => enter [.v (.sl false cU3) a0, .v (.int .i64) a1] 0
  | .p17 y1 y2 y3 => ⟨[(0, .im (.sl false cU3) y1), (1, .im (.int .i64) y2), (5, .im (.int .i64) y3)], [], 0⟩
def laws_szMatcherS.step (n : Nat) (K : laws_szMatcherS.Pt → Option (Tup [(.int .i64)])) : laws_szMatcherS.Pt → Option (Tup [(.int .i64)])
  | .p0 a0 a1 => cond (decide ((IntKind.wrap .i64 (a1 - ((List.length a0) : Int))) < (0 : Int))) (some (-(1 : Int))) (K (.p17 a0 (IntKind.wrap .i64 (a1 - ((List.length a0) : Int))) (0 : Int)))
  | .p17 y1 y2 y3 => cond (decide (y3 < ((List.length y1) : Int))) (cond (inB y3 (List.length y1)) ((laws_szMatcher n (List.getD y1 (Int.toNat y3) default) y2).bind fun (r6 : Int) => cond (decide (r6 < (0 : Int))) (some (-(1 : Int))) (K (.p17 y1 r6 (IntKind.wrap .i64 (y3 + (1 : Int)))))) (none)) (some y2)
def laws_szMatcherS (n : Nat) (a0 : List (tU4)) (a1 : Int) : Option (Tup [(.int .i64)]) := goRec laws_szMatcherS.step n (.p0 a0 a1)
def laws_szMatcherS.spec : Ctr := ⟨28, [.v (.sl false cU3), .v (.int .i64)], [(.int .i64)], [], none, fun n x => laws_szMatcherS n x.1 x.2.1⟩
theorem laws_szMatcherS.seg_eq : SegEq ty gl laws_szMatcherS.F laws_szMatcherS.md laws_szMatcherS.T laws_szMatcherS.spec laws_szMatcherS.lb laws_szMatcherS.st laws_szMatcherS.step := by
  intro n goto y; cases y <;> kernel_rfl
theorem laws_szMatcherS.text : Text Go.Proofs.Try.prog laws_szMatcherS.F laws_szMatcherS.spec := textOf Go.Proofs.Try.f28
theorem laws_szMatcherS.ok : CtrOK Go.Proofs.Try.prog gl laws_szMatcherS.spec :=
  ctr_okS tabs laws_szMatcherS.text laws_szMatcherS.seg_eq (fun n x => ⟨.p0 x.1 x.2.1, rfl, rfl, rfl⟩) (consC laws_szMatcher.ok (nilC))

/-! loop.example/g00039/laws.szStringS -/
def laws_szStringS.T : List Ctr := []
def laws_szStringS.md : List (Nat × List Md) := []
noncomputable def laws_szStringS.F : Fun := ⟨(Go.Proofs.Try.f29.body).getD .skip, [.v (.sl false .str), .v (.int .i64)], [(.tmp 4, (.int .i64))], [], 0, [(17, ⟨[0, 1, 5], [], [], false⟩)]⟩
inductive laws_szStringS.Pt where
  | p0 (a0 : List (ByteArray)) (a1 : Int)
  | p17 (y1 : List (ByteArray)) (y2 : Int) (y3 : Int)
def laws_szStringS.lb : laws_szStringS.Pt → Nat
  | .p0 _ _ => 0
  | .p17 _ _ _ => 17
def laws_szStringS.st : laws_szStringS.Pt → St
  | .p0 a0 a1 => enter [.v (.sl false .str) a0, .v (.int .i64) a1] 0
  | .p17 y1 y2 y3 => ⟨[(0, .im (.sl false .str) y1), (1, .im (.int .i64) y2), (5, .im (.int .i64) y3)], [], 0⟩
def laws_szStringS.step (n : Nat) (K : laws_szStringS.Pt → Option (Tup [(.int .i64)])) : laws_szStringS.Pt → Option (Tup [(.int .i64)])
  | .p0 a0 a1 => cond (decide ((IntKind.wrap .i64 (a1 - ((List.length a0) : Int))) < (0 : Int))) (some (-(1 : Int))) (K (.p17 a0 (IntKind.wrap .i64 (a1 - ((List.length a0) : Int))) (0 : Int)))
  | .p17 y1 y2 y3 => cond (decide (y3 < ((List.length y1) : Int))) (cond (inB y3 (List.length y1)) (cond (decide ((IntKind.wrap .i64 (y2 - ((ByteArray.size (List.getD y1 (Int.toNat y3) default)) : Int))) < (0 : Int))) (some (-(1 : Int))) (K (.p17 y1 (IntKind.wrap .i64 (y2 - ((ByteArray.size (List.getD y1 (Int.toNat y3) default)) : Int))) (IntKind.wrap .i64 (y3 + (1 : Int)))))) (none)) (some y2)
def laws_szStringS (n : Nat) (a0 : List (ByteArray)) (a1 : Int) : Option (Tup [(.int .i64)]) := goRec laws_szStringS.step n (.p0 a0 a1)
def laws_szStringS.spec : Ctr := ⟨29, [.v (.sl false .str), .v (.int .i64)], [(.int .i64)], [], none, fun n x => laws_szStringS n x.1 x.2.1⟩
theorem laws_szStringS.seg_eq : SegEq ty gl laws_szStringS.F laws_szStringS.md laws_szStringS.T laws_szStringS.spec laws_szStringS.lb laws_szStringS.st laws_szStringS.step := by
  intro n goto y; cases y <;> kernel_rfl
theorem laws_szStringS.text : Text Go.Proofs.Try.prog laws_szStringS.F laws_szStringS.spec := textOf Go.Proofs.Try.f29
theorem laws_szStringS.ok : CtrOK Go.Proofs.Try.prog gl laws_szStringS.spec :=
  ctr_okS tabs laws_szStringS.text laws_szStringS.seg_eq (fun n x => ⟨.p0 x.1 x.2.1, rfl, rfl, rfl⟩) (nilC)

/-! loop.example/g00039/laws.szQuery -/
def laws_szQuery.T : List Ctr := [laws_szMatcherS.spec, laws_szStringS.spec]
def laws_szQuery.md : List (Nat × List Md) := []
noncomputable def laws_szQuery.F : Fun := ⟨(Go.Proofs.Try.f13.body).getD .skip, [.v cU2, .v (.int .i64)], [(.tmp 4, (.int .i64))], [], 0, []⟩
inductive laws_szQuery.Pt where
  | p0 (a0 : tU1) (a1 : Int)
def laws_szQuery.lb : laws_szQuery.Pt → Nat
  | .p0 _ _ => 0
def laws_szQuery.st : laws_szQuery.Pt → St
  | .p0 a0 a1 => enter [.v cU2 a0, .v (.int .i64) a1] 0
def laws_szQuery.step (n : Nat) (K : laws_szQuery.Pt → Option (Tup [(.int .i64)])) : laws_szQuery.Pt → Option (Tup [(.int .i64)])
  | .p0 a0 a1 => cond (decide ((IntKind.wrap .i64 (a1 - ((ByteArray.size a0.2.2.2.1) : Int))) < (0 : Int))) (some (-(1 : Int))) ((laws_szMatcherS n a0.2.2.2.2.2.1 (IntKind.wrap .i64 (a1 - ((ByteArray.size a0.2.2.2.1) : Int)))).bind fun (r5 : Int) => cond (decide (r5 < (0 : Int))) (some (-(1 : Int))) ((laws_szStringS n a0.2.2.2.2.2.2.2.2.2.2.2.1 r5).bind fun (r6 : Int) => cond (decide (r6 < (0 : Int))) (some (-(1 : Int))) ((laws_szStringS n a0.2.2.2.2.2.2.2.2.2.2.2.2.2.1 r6).bind fun (r7 : Int) => cond (decide (r7 < (0 : Int))) (some (-(1 : Int))) (some r7))))
def laws_szQuery (n : Nat) (a0 : tU1) (a1 : Int) : Option (Tup [(.int .i64)]) := goRec laws_szQuery.step n (.p0 a0 a1)
def laws_szQuery.spec : Ctr := ⟨13, [.v cU2, .v (.int .i64)], [(.int .i64)], [], none, fun n x => laws_szQuery n x.1 x.2.1⟩
theorem laws_szQuery.seg_eq : SegEq ty gl laws_szQuery.F laws_szQuery.md laws_szQuery.T laws_szQuery.spec laws_szQuery.lb laws_szQuery.st laws_szQuery.step := by
  intro n goto y; cases y <;> kernel_rfl
theorem laws_szQuery.text : Text Go.Proofs.Try.prog laws_szQuery.F laws_szQuery.spec := textOf Go.Proofs.Try.f13
theorem laws_szQuery.ok : CtrOK Go.Proofs.Try.prog gl laws_szQuery.spec :=
  ctr_okS tabs laws_szQuery.text laws_szQuery.seg_eq (fun n x => ⟨.p0 x.1 x.2.1, rfl, rfl, rfl⟩) (consC laws_szMatcherS.ok (consC laws_szStringS.ok (nilC)))

/-! loop.example/g00039/laws.szQueryS -/
def laws_szQueryS.T : List Ctr := [laws_szQuery.spec]
def laws_szQueryS.md : List (Nat × List Md) := []
noncomputable def laws_szQueryS.F : Fun := ⟨(Go.Proofs.Try.f4.body).getD .skip, [.v (.sl false cU2), .v (.int .i64)], [(.tmp 4, (.int .i64))], [], 0, [(17, ⟨[0, 1, 5], [], [], false⟩)]⟩
inductive laws_szQueryS.Pt where
  | p0 (a0 : List (tU1)) (a1 : Int)
  | p17 (y1 : List (tU1)) (y2 : Int) (y3 : Int)
def laws_szQueryS.lb : laws_szQueryS.Pt → Nat
  | .p0 _ _ => 0
  | .p17 _ _ _ => 17
def laws_szQueryS.st : laws_szQueryS.Pt → St
  | .p0 a0 a1 => enter [.v (.sl false cU2) a0, .v (.int .i64) a1] 0
  | .p17 y1 y2 y3 => ⟨[(0, .im (.sl false cU2) y1), (1, .im (.int .i64) y2), (5, .im (.int .i64) y3)], [], 0⟩
def laws_szQueryS.step (n : Nat) (K : laws_szQueryS.Pt → Option (Tup [(.int .i64)])) : laws_szQueryS.Pt → Option (Tup [(.int .i64)])
  | .p0 a0 a1 => cond (decide ((IntKind.wrap .i64 (a1 - ((List.length a0) : Int))) < (0 : Int))) (some (-(1 : Int))) (K (.p17 a0 (IntKind.wrap .i64 (a1 - ((List.length a0) : Int))) (0 : Int)))
  | .p17 y1 y2 y3 => cond (decide (y3 < ((List.length y1) : Int))) (cond (inB y3 (List.length y1)) ((laws_szQuery n ((List.getD y1 (Int.toNat y3) default).1, ((List.getD y1 (Int.toNat y3) default).2.1, ((List.getD y1 (Int.toNat y3) default).2.2.1, ((List.getD y1 (Int.toNat y3) default).2.2.2.1, ((List.getD y1 (Int.toNat y3) default).2.2.2.2.1, ((List.getD y1 (Int.toNat y3) default).2.2.2.2.2.1, ((List.getD y1 (Int.toNat y3) default).2.2.2.2.2.2.1, ((List.getD y1 (Int.toNat y3) default).2.2.2.2.2.2.2.1, ((List.getD y1 (Int.toNat y3) default).2.2.2.2.2.2.2.2.1, ((List.getD y1 (Int.toNat y3) default).2.2.2.2.2.2.2.2.2.1, ((List.getD y1 (Int.toNat y3) default).2.2.2.2.2.2.2.2.2.2.1, ((List.getD y1 (Int.toNat y3) default).2.2.2.2.2.2.2.2.2.2.2.1, ((List.getD y1 (Int.toNat y3) default).2.2.2.2.2.2.2.2.2.2.2.2.1, ((List.getD y1 (Int.toNat y3) default).2.2.2.2.2.2.2.2.2.2.2.2.2.1, (List.getD y1 (Int.toNat y3) default).2.2.2.2.2.2.2.2.2.2.2.2.2.2)))))))))))))) y2).bind fun (r6 : Int) => cond (decide (r6 < (0 : Int))) (some (-(1 : Int))) (K (.p17 y1 r6 (IntKind.wrap .i64 (y3 + (1 : Int)))))) (none)) (some y2)
def laws_szQueryS (n : Nat) (a0 : List (tU1)) (a1 : Int) : Option (Tup [(.int .i64)]) := goRec laws_szQueryS.step n (.p0 a0 a1)
def laws_szQueryS.spec : Ctr := ⟨4, [.v (.sl false cU2), .v (.int .i64)], [(.int .i64)], [], none, fun n x => laws_szQueryS n x.1 x.2.1⟩
theorem laws_szQueryS.seg_eq : SegEq ty gl laws_szQueryS.F laws_szQueryS.md laws_szQueryS.T laws_szQueryS.spec laws_szQueryS.lb laws_szQueryS.st laws_szQueryS.step := by
  intro n goto y; cases y <;> kernel_rfl
theorem laws_szQueryS.text : Text Go.Proofs.Try.prog laws_szQueryS.F laws_szQueryS.spec := textOf Go.Proofs.Try.f4
theorem laws_szQueryS.ok : CtrOK Go.Proofs.Try.prog gl laws_szQueryS.spec :=
  ctr_okS tabs laws_szQueryS.text laws_szQueryS.seg_eq (fun n x => ⟨.p0 x.1 x.2.1, rfl, rfl, rfl⟩) (consC laws_szQuery.ok (nilC))

/-! loop.example/g00039/laws.toMatcher -/
def laws_toMatcher.T : List Ctr := []
def laws_toMatcher.md : List (Nat × List Md) := []
noncomputable def laws_toMatcher.F : Fun := ⟨(Go.Proofs.Try.f40.body).getD .skip, [.v cU3], [(.cell 2 57, cU3)], [], 0, []⟩
inductive laws_toMatcher.Pt where
  | p0 (a0 : tU4)
def laws_toMatcher.lb : laws_toMatcher.Pt → Nat
  | .p0 _ => 0
def laws_toMatcher.st : laws_toMatcher.Pt → St
  | .p0 a0 => enter [.v cU3 a0] 0
def laws_toMatcher.step (n : Nat) (K : laws_toMatcher.Pt → Option (Tup [cU3])) : laws_toMatcher.Pt → Option (Tup [cU3])
  | .p0 a0 => some a0
def laws_toMatcher (n : Nat) (a0 : tU4) : Option (Tup [cU3]) := goRec laws_toMatcher.step n (.p0 a0)
def laws_toMatcher.spec : Ctr := ⟨40, [.v cU3], [cU3], [], none, fun n x => laws_toMatcher n x.1⟩
theorem laws_toMatcher.seg_eq : SegEq ty gl laws_toMatcher.F laws_toMatcher.md laws_toMatcher.T laws_toMatcher.spec laws_toMatcher.lb laws_toMatcher.st laws_toMatcher.step := by
  intro n goto y; cases y <;> kernel_rfl
theorem laws_toMatcher.text : Text Go.Proofs.Try.prog laws_toMatcher.F laws_toMatcher.spec := textOf Go.Proofs.Try.f40
theorem laws_toMatcher.ok : CtrOK Go.Proofs.Try.prog gl laws_toMatcher.spec :=
  ctr_okS tabs laws_toMatcher.text laws_toMatcher.seg_eq (fun n x => ⟨.p0 x.1, rfl, rfl, rfl⟩) (nilC)

/-! loop.example/g00039/laws.toMatcherS -/
def laws_toMatcherS.T : List Ctr := [laws_toMatcher.spec]
def laws_toMatcherS.md : List (Nat × List Md) := []
noncomputable def laws_toMatcherS.F : Fun := ⟨(Go.Proofs.Try.f32.body).getD .skip, [.v (.sl false cU3)], [(.tmp 2, (.sl false cU3))], [], 0, [(9, ⟨[0, 3, 4], [(3, cU3)], [], false⟩)]⟩
inductive laws_toMatcherS.Pt where
  | p0 (a0 : List (tU4))
  | p9 (y1 : List (tU4)) (y2 : Int) (y3 : List (tU4))
def laws_toMatcherS.lb : laws_toMatcherS.Pt → Nat
  | .p0 _ => 0
  | .p9 _ _ _ => 9
def laws_toMatcherS.st : laws_toMatcherS.Pt → St
  | .p0 a0 => enter [.v (.sl false cU3) a0] 0
  | .p9 y1 y2 y3 => ⟨[(0, .im (.sl false cU3) y1), (3, .hs 0 [] none 0), (4, .im (.int .i64) y2)], [(0, .arr false cU3 y3 0)], 1⟩
def laws_toMatcherS.step (n : Nat) (K : laws_toMatcherS.Pt → Option (Tup [(.sl false cU3)])) : laws_toMatcherS.Pt → Option (Tup [(.sl false cU3)])
  | .p0 a0 => cond (inC ((List.length a0) : Int) ((List.length a0) : Int) 1000000000) (K (.p9 a0 (0 : Int) (List.replicate (Int.toNat ((List.length a0) : Int)) (default : tU4)))) (none)
  | .p9 y1 y2 y3 => cond (decide (y2 < ((List.length y1) : Int))) (cond (inB y2 (List.length y1)) ((laws_toMatcher n (List.getD y1 (Int.toNat y2) default)).bind fun r6 => cond (inB y2 (List.length y3)) (K (.p9 y1 (IntKind.wrap .i64 (y2 + (1 : Int))) (List.set y3 (0 + (Int.toNat y2)) r6))) (none)) (none)) (some y3)
def laws_toMatcherS (n : Nat) (a0 : List (tU4)) : Option (Tup [(.sl false cU3)]) := goRec laws_toMatcherS.step n (.p0 a0)
def laws_toMatcherS.spec : Ctr := ⟨32, [.v (.sl false cU3)], [(.sl false cU3)], [], none, fun n x => laws_toMatcherS n x.1⟩
theorem laws_toMatcherS.seg_eq : SegEq ty gl laws_toMatcherS.F laws_toMatcherS.md laws_toMatcherS.T laws_toMatcherS.spec laws_toMatcherS.lb laws_toMatcherS.st laws_toMatcherS.step := by
  intro n goto y; cases y <;> kernel_rfl
theorem laws_toMatcherS.text : Text Go.Proofs.Try.prog laws_toMatcherS.F laws_toMatcherS.spec := textOf Go.Proofs.Try.f32
theorem laws_toMatcherS.ok : CtrOK Go.Proofs.Try.prog gl laws_toMatcherS.spec :=
  ctr_okS tabs laws_toMatcherS.text laws_toMatcherS.seg_eq (fun n x => ⟨.p0 x.1, rfl, rfl, rfl⟩) (consC laws_toMatcher.ok (nilC))

/-! loop.example/g00039/laws.toStringS -/
def laws_toStringS.T : List Ctr := []
def laws_toStringS.md : List (Nat × List Md) := []
noncomputable def laws_toStringS.F : Fun := ⟨(Go.Proofs.Try.f33.body).getD .skip, [.v (.sl false .str)], [(.tmp 2, (.sl false .str))], [], 0, [(9, ⟨[0, 3, 4], [(3, .str)], [], false⟩)]⟩
inductive laws_toStringS.Pt where
  | p0 (a0 : List (ByteArray))
  | p9 (y1 : List (ByteArray)) (y2 : Int) (y3 : List (ByteArray))
def laws_toStringS.lb : laws_toStringS.Pt → Nat
  | .p0 _ => 0
  | .p9 _ _ _ => 9
def laws_toStringS.st : laws_toStringS.Pt → St
  | .p0 a0 => enter [.v (.sl false .str) a0] 0
  | .p9 y1 y2 y3 => ⟨[(0, .im (.sl false .str) y1), (3, .hs 0 [] none 0), (4, .im (.int .i64) y2)], [(0, .arr false .str y3 0)], 1⟩
def laws_toStringS.step (n : Nat) (K : laws_toStringS.Pt → Option (Tup [(.sl false .str)])) : laws_toStringS.Pt → Option (Tup [(.sl false .str)])
  | .p0 a0 => cond (inC ((List.length a0) : Int) ((List.length a0) : Int) 1000000000) (K (.p9 a0 (0 : Int) (List.replicate (Int.toNat ((List.length a0) : Int)) (default : ByteArray)))) (none)
  | .p9 y1 y2 y3 => cond (decide (y2 < ((List.length y1) : Int))) (cond (inB y2 (List.length y1)) (cond (inB y2 (List.length y3)) (K (.p9 y1 (IntKind.wrap .i64 (y2 + (1 : Int))) (List.set y3 (0 + (Int.toNat y2)) (List.getD y1 (Int.toNat y2) default)))) (none)) (none)) (some y3)
def laws_toStringS (n : Nat) (a0 : List (ByteArray)) : Option (Tup [(.sl false .str)]) := goRec laws_toStringS.step n (.p0 a0)
def laws_toStringS.spec : Ctr := ⟨33, [.v (.sl false .str)], [(.sl false .str)], [], none, fun n x => laws_toStringS n x.1⟩
theorem laws_toStringS.seg_eq : SegEq ty gl laws_toStringS.F laws_toStringS.md laws_toStringS.T laws_toStringS.spec laws_toStringS.lb laws_toStringS.st laws_toStringS.step := by
  intro n goto y; cases y <;> kernel_rfl
theorem laws_toStringS.text : Text Go.Proofs.Try.prog laws_toStringS.F laws_toStringS.spec := textOf Go.Proofs.Try.f33
theorem laws_toStringS.ok : CtrOK Go.Proofs.Try.prog gl laws_toStringS.spec :=
  ctr_okS tabs laws_toStringS.text laws_toStringS.seg_eq (fun n x => ⟨.p0 x.1, rfl, rfl, rfl⟩) (nilC)

/-! loop.example/g00039/laws.toQuery -/
def laws_toQuery.T : List Ctr := [laws_toMatcherS.spec, laws_toStringS.spec]
def laws_toQuery.md : List (Nat × List Md) := []
noncomputable def laws_toQuery.F : Fun := ⟨(Go.Proofs.Try.f17.body).getD .skip, [.v cU2], [(.cell 2 40, cU2)], [], 0, []⟩
inductive laws_toQuery.Pt where
  | p0 (a0 : tU1)
def laws_toQuery.lb : laws_toQuery.Pt → Nat
  | .p0 _ => 0
def laws_toQuery.st : laws_toQuery.Pt → St
  | .p0 a0 => enter [.v cU2 a0] 0
def laws_toQuery.step (n : Nat) (K : laws_toQuery.Pt → Option (Tup [cU2])) : laws_toQuery.Pt → Option (Tup [cU2])
  | .p0 a0 => (laws_toMatcherS n a0.2.2.2.2.2.1).bind fun r4 => (laws_toStringS n a0.2.2.2.2.2.2.2.2.2.2.2.1).bind fun r5 => (laws_toStringS n a0.2.2.2.2.2.2.2.2.2.2.2.2.2.1).bind fun r6 => some (a0.1, (a0.2.1, (a0.2.2.1, (a0.2.2.2.1, (a0.2.2.2.2.1, (r4, (a0.2.2.2.2.2.2.1, (a0.2.2.2.2.2.2.2.1, (a0.2.2.2.2.2.2.2.2.1, (a0.2.2.2.2.2.2.2.2.2.1, (a0.2.2.2.2.2.2.2.2.2.2.1, (r5, (a0.2.2.2.2.2.2.2.2.2.2.2.2.1, (r6, a0.2.2.2.2.2.2.2.2.2.2.2.2.2.2))))))))))))))
def laws_toQuery (n : Nat) (a0 : tU1) : Option (Tup [cU2]) := goRec laws_toQuery.step n (.p0 a0)
def laws_toQuery.spec : Ctr := ⟨17, [.v cU2], [cU2], [], none, fun n x => laws_toQuery n x.1⟩
theorem laws_toQuery.seg_eq : SegEq ty gl laws_toQuery.F laws_toQuery.md laws_toQuery.T laws_toQuery.spec laws_toQuery.lb laws_toQuery.st laws_toQuery.step := by
  intro n goto y; cases y <;> kernel_rfl
theorem laws_toQuery.text : Text Go.Proofs.Try.prog laws_toQuery.F laws_toQuery.spec := textOf Go.Proofs.Try.f17
theorem laws_toQuery.ok : CtrOK Go.Proofs.Try.prog gl laws_toQuery.spec :=
  ctr_okS tabs laws_toQuery.text laws_toQuery.seg_eq (fun n x => ⟨.p0 x.1, rfl, rfl, rfl⟩) (consC laws_toMatcherS.ok (consC laws_toStringS.ok (nilC)))

/-! loop.example/g00039/laws.toQueryS -/
def laws_toQueryS.T : List Ctr := [laws_toQuery.spec]
def laws_toQueryS.md : List (Nat × List Md) := []
noncomputable def laws_toQueryS.F : Fun := ⟨(Go.Proofs.Try.f6.body).getD .skip, [.v (.sl false cU2)], [(.tmp 2, (.sl false cU2))], [], 0, [(9, ⟨[0, 3, 4], [(3, cU2)], [], false⟩)]⟩
inductive laws_toQueryS.Pt where
  | p0 (a0 : List (tU1))
  | p9 (y1 : List (tU1)) (y2 : Int) (y3 : List (tU1))
def laws_toQueryS.lb : laws_toQueryS.Pt → Nat
  | .p0 _ => 0
  | .p9 _ _ _ => 9
def laws_toQueryS.st : laws_toQueryS.Pt → St
  | .p0 a0 => enter [.v (.sl false cU2) a0] 0
  | .p9 y1 y2 y3 => ⟨[(0, .im (.sl false cU2) y1), (3, .hs 0 [] none 0), (4, .im (.int .i64) y2)], [(0, .arr false cU2 y3 0)], 1⟩
def laws_toQueryS.step (n : Nat) (K : laws_toQueryS.Pt → Option (Tup [(.sl false cU2)])) : laws_toQueryS.Pt → Option (Tup [(.sl false cU2)])
  | .p0 a0 => cond (inC ((List.length a0) : Int) ((List.length a0) : Int) 1000000000) (K (.p9 a0 (0 : Int) (List.replicate (Int.toNat ((List.length a0) : Int)) (default : tU1)))) (none)
  | .p9 y1 y2 y3 => cond (decide (y2 < ((List.length y1) : Int))) (cond (inB y2 (List.length y1)) ((laws_toQuery n ((List.getD y1 (Int.toNat y2) default).1, ((List.getD y1 (Int.toNat y2) default).2.1, ((List.getD y1 (Int.toNat y2) default).2.2.1, ((List.getD y1 (Int.toNat y2) default).2.2.2.1, ((List.getD y1 (Int.toNat y2) default).2.2.2.2.1, ((List.getD y1 (Int.toNat y2) default).2.2.2.2.2.1, ((List.getD y1 (Int.toNat y2) default).2.2.2.2.2.2.1, ((List.getD y1 (Int.toNat y2) default).2.2.2.2.2.2.2.1, ((List.getD y1 (Int.toNat y2) default).2.2.2.2.2.2.2.2.1, ((List.getD y1 (Int.toNat y2) default).2.2.2.2.2.2.2.2.2.1, ((List.getD y1 (Int.toNat y2) default).2.2.2.2.2.2.2.2.2.2.1, ((List.getD y1 (Int.toNat y2) default).2.2.2.2.2.2.2.2.2.2.2.1, ((List.getD y1 (Int.toNat y2) default).2.2.2.2.2.2.2.2.2.2.2.2.1, ((List.getD y1 (Int.toNat y2) default).2.2.2.2.2.2.2.2.2.2.2.2.2.1, (List.getD y1 (Int.toNat y2) default).2.2.2.2.2.2.2.2.2.2.2.2.2.2))))))))))))))).bind fun r6 => cond (inB y2 (List.length y3)) (K (.p9 y1 (IntKind.wrap .i64 (y2 + (1 : Int))) (List.set y3 (0 + (Int.toNat y2)) (r6.1, (r6.2.1, (r6.2.2.1, (r6.2.2.2.1, (r6.2.2.2.2.1, (r6.2.2.2.2.2.1, (r6.2.2.2.2.2.2.1, (r6.2.2.2.2.2.2.2.1, (r6.2.2.2.2.2.2.2.2.1, (r6.2.2.2.2.2.2.2.2.2.1, (r6.2.2.2.2.2.2.2.2.2.2.1, (r6.2.2.2.2.2.2.2.2.2.2.2.1, (r6.2.2.2.2.2.2.2.2.2.2.2.2.1, (r6.2.2.2.2.2.2.2.2.2.2.2.2.2.1, r6.2.2.2.2.2.2.2.2.2.2.2.2.2.2))))))))))))))))) (none)) (none)) (some y3)
def laws_toQueryS (n : Nat) (a0 : List (tU1)) : Option (Tup [(.sl false cU2)]) := goRec laws_toQueryS.step n (.p0 a0)
def laws_toQueryS.spec : Ctr := ⟨6, [.v (.sl false cU2)], [(.sl false cU2)], [], none, fun n x => laws_toQueryS n x.1⟩
theorem laws_toQueryS.seg_eq : SegEq ty gl laws_toQueryS.F laws_toQueryS.md laws_toQueryS.T laws_toQueryS.spec laws_toQueryS.lb laws_toQueryS.st laws_toQueryS.step := by
  intro n goto y; cases y <;> kernel_rfl
theorem laws_toQueryS.text : Text Go.Proofs.Try.prog laws_toQueryS.F laws_toQueryS.spec := textOf Go.Proofs.Try.f6
theorem laws_toQueryS.ok : CtrOK Go.Proofs.Try.prog gl laws_toQueryS.spec :=
  ctr_okS tabs laws_toQueryS.text laws_toQueryS.seg_eq (fun n x => ⟨.p0 x.1, rfl, rfl, rfl⟩) (consC laws_toQuery.ok (nilC))

/-! loop.example/g00039/spec.l15Zero -/
def spec_l15Zero.T : List Ctr := []
def spec_l15Zero.md : List (Nat × List Md) := []
noncomputable def spec_l15Zero.F : Fun := ⟨(Go.Proofs.Try.f53.body).getD .skip, [.v cU0], [(.cell 2 40, cU0)], [], 0, [(13, ⟨[1, 2, 3, 10, 16], [], [(1, 5, (.bs cU3)), (1, 11, (.bs .str)), (1, 13, (.bs .str)), (2, 5, (.bs cU3)), (2, 11, (.bs .str)), (2, 13, (.bs .str)), (3, 5, (.bs cU3)), (3, 11, (.bs .str)), (3, 13, (.bs .str))], false⟩)]⟩
inductive spec_l15Zero.Pt where
  | p0 (a0 : tU1)
  | p13 (y1 : Int) (y2 : Bool) (y3 : Int) (y4 : Int) (y5 : Int) (y6 : ByteArray) (y7 : Int) (y8 : List (tU4)) (y9 : Int) (y10 : Bool) (y11 : Int) (y12 : Bool) (y13 : Int) (y14 : List (ByteArray)) (y15 : Int) (y16 : List (ByteArray)) (y17 : Int) (y18 : Int) (y19 : Int) (y20 : Int) (y21 : ByteArray) (y22 : Int) (y23 : List (tU4)) (y24 : Int) (y25 : Bool) (y26 : Int) (y27 : Bool) (y28 : Int) (y29 : List (ByteArray)) (y30 : Int) (y31 : List (ByteArray)) (y32 : Int) (y33 : Int) (y34 : Int) (y35 : Int) (y36 : ByteArray) (y37 : Int) (y38 : List (tU4)) (y39 : Int) (y40 : Bool) (y41 : Int) (y42 : Bool) (y43 : Int) (y44 : List (ByteArray)) (y45 : Int) (y46 : List (ByteArray)) (y47 : Int)
def spec_l15Zero.lb : spec_l15Zero.Pt → Nat
  | .p0 _ => 0
  | .p13 _ _ _ _ _ _ _ _ _ _ _ _ _ _ _ _ _ _ _ _ _ _ _ _ _ _ _ _ _ _ _ _ _ _ _ _ _ _ _ _ _ _ _ _ _ _ _ => 13
def spec_l15Zero.st : spec_l15Zero.Pt → St
  | .p0 a0 => enter [.v cU0 a0] 0
  | .p13 y1 y2 y3 y4 y5 y6 y7 y8 y9 y10 y11 y12 y13 y14 y15 y16 y17 y18 y19 y20 y21 y22 y23 y24 y25 y26 y27 y28 y29 y30 y31 y32 y33 y34 y35 y36 y37 y38 y39 y40 y41 y42 y43 y44 y45 y46 y47 => ⟨[(1, .po 0 0), (2, .po 1 0), (3, .po 2 0), (10, .im (.int .i64) y1), (16, .im .bool y2)], [(0, .obj [.im (.int .i64) y3, .im (.int .i64) y4, .im (.int .i64) y5, .im .str y6, .im (.int .i64) y7, .im (.bs cU3) y8, .im (.int .i64) y9, .im .bool y10, .im (.int .i64) y11, .im .bool y12, .im (.int .i64) y13, .im (.bs .str) y14, .im (.int .i64) y15, .im (.bs .str) y16, .im (.int .i64) y17]), (1, .obj [.im (.int .i64) y18, .im (.int .i64) y19, .im (.int .i64) y20, .im .str y21, .im (.int .i64) y22, .im (.bs cU3) y23, .im (.int .i64) y24, .im .bool y25, .im (.int .i64) y26, .im .bool y27, .im (.int .i64) y28, .im (.bs .str) y29, .im (.int .i64) y30, .im (.bs .str) y31, .im (.int .i64) y32]), (2, .obj [.im (.int .i64) y33, .im (.int .i64) y34, .im (.int .i64) y35, .im .str y36, .im (.int .i64) y37, .im (.bs cU3) y38, .im (.int .i64) y39, .im .bool y40, .im (.int .i64) y41, .im .bool y42, .im (.int .i64) y43, .im (.bs .str) y44, .im (.int .i64) y45, .im (.bs .str) y46, .im (.int .i64) y47])], 3⟩
def spec_l15Zero.step (n : Nat) (K : spec_l15Zero.Pt → Option (Tup [cU0])) : spec_l15Zero.Pt → Option (Tup [cU0])
  | .p0 a0 => cond (decide (a0.1 = (1 : Int))) (some (a0.1, (a0.2.1, ((default : Int), ((default : ByteArray), ((default : Int), ((default : List (tU4)), ((default : Int), ((default : Bool), ((default : Int), ((default : Bool), ((default : Int), ((default : List (ByteArray)), ((default : Int), ((default : List (ByteArray)), a0.2.2.2.2.2.2.2.2.2.2.2.2.2.2))))))))))))))) (cond (decide (a0.1 = (2 : Int))) (K (.p13 a0.1 (decide (a0.1 = (2 : Int))) a0.1 a0.2.1 a0.2.2.1 a0.2.2.2.1 a0.2.2.2.2.1 a0.2.2.2.2.2.1 a0.2.2.2.2.2.2.1 a0.2.2.2.2.2.2.2.1 a0.2.2.2.2.2.2.2.2.1 a0.2.2.2.2.2.2.2.2.2.1 a0.2.2.2.2.2.2.2.2.2.2.1 a0.2.2.2.2.2.2.2.2.2.2.2.1 a0.2.2.2.2.2.2.2.2.2.2.2.2.1 a0.2.2.2.2.2.2.2.2.2.2.2.2.2.1 a0.2.2.2.2.2.2.2.2.2.2.2.2.2.2.1 (default : Int) (default : Int) (default : Int) (default : ByteArray) (default : Int) (default : List (tU4)) (default : Int) (default : Bool) (default : Int) (default : Bool) (default : Int) (default : List (ByteArray)) (default : Int) (default : List (ByteArray)) (default : Int) a0.1 (default : Int) (default : Int) (default : ByteArray) (default : Int) (default : List (tU4)) (default : Int) (default : Bool) (default : Int) (default : Bool) (default : Int) (default : List (ByteArray)) (default : Int) (default : List (ByteArray)) a0.2.2.2.2.2.2.2.2.2.2.2.2.2.2.1)) (K (.p13 a0.1 (decide (a0.1 = (9 : Int))) a0.1 a0.2.1 a0.2.2.1 a0.2.2.2.1 a0.2.2.2.2.1 a0.2.2.2.2.2.1 a0.2.2.2.2.2.2.1 a0.2.2.2.2.2.2.2.1 a0.2.2.2.2.2.2.2.2.1 a0.2.2.2.2.2.2.2.2.2.1 a0.2.2.2.2.2.2.2.2.2.2.1 a0.2.2.2.2.2.2.2.2.2.2.2.1 a0.2.2.2.2.2.2.2.2.2.2.2.2.1 a0.2.2.2.2.2.2.2.2.2.2.2.2.2.1 a0.2.2.2.2.2.2.2.2.2.2.2.2.2.2.1 (default : Int) (default : Int) (default : Int) (default : ByteArray) (default : Int) (default : List (tU4)) (default : Int) (default : Bool) (default : Int) (default : Bool) (default : Int) (default : List (ByteArray)) (default : Int) (default : List (ByteArray)) (default : Int) a0.1 (default : Int) (default : Int) (default : ByteArray) (default : Int) (default : List (tU4)) (default : Int) (default : Bool) (default : Int) (default : Bool) (default : Int) (default : List (ByteArray)) (default : Int) (default : List (ByteArray)) a0.2.2.2.2.2.2.2.2.2.2.2.2.2.2.1)))
  | .p13 y1 y2 y3 y4 y5 y6 y7 y8 y9 y10 y11 y12 y13 y14 y15 y16 y17 y18 y19 y20 y21 y22 y23 y24 y25 y26 y27 y28 y29 y30 y31 y32 y33 y34 y35 y36 y37 y38 y39 y40 y41 y42 y43 y44 y45 y46 y47 => cond y2 (some (y33, (y34, (y35, (y6, (y37, (y38, (y39, (y40, (y41, (y42, (y43, (y44, (y45, (y46, (y47, ())))))))))))))))) (cond (decide (y1 = (3 : Int))) (some (y33, (y34, (y35, (y6, (y37, (y8, (y9, (y10, (y11, (y42, (y43, (y44, (y45, (y46, (y47, ())))))))))))))))) (cond (decide (y1 = (4 : Int))) (some (y33, (y4, (y35, (y36, (y37, (y38, (y39, (y40, (y41, (y42, (y43, (y44, (y45, (y46, (y47, ())))))))))))))))) (cond (decide (y1 = (5 : Int))) (some (y33, (y4, (y5, (y36, (y37, (y38, (y9, (y10, (y11, (y42, (y43, (y44, (y45, (y46, (y47, ())))))))))))))))) (cond (decide (y1 = (7 : Int))) (some (y33, (y34, (y35, (y36, (y7, (y38, (y39, (y40, (y41, (y12, (y13, (y14, (y15, (y16, (y47, ())))))))))))))))) (cond (decide (y1 = (8 : Int))) (some (y33, (y34, (y35, (y36, (y7, (y38, (y39, (y40, (y41, (y42, (y13, (y14, (y45, (y46, (y47, ())))))))))))))))) (some (y33, (y34, (y35, (y36, (y37, (y38, (y39, (y40, (y41, (y42, (y43, (y44, (y45, (y46, (y47, ())))))))))))))))))))))
def spec_l15Zero (n : Nat) (a0 : tU1) : Option (Tup [cU0]) := goRec spec_l15Zero.step n (.p0 a0)
def spec_l15Zero.spec : Ctr := ⟨53, [.v cU0], [cU0], [], none, fun n x => spec_l15Zero n x.1⟩
theorem spec_l15Zero.seg_eq : SegEq tyN gl spec_l15Zero.F spec_l15Zero.md spec_l15Zero.T spec_l15Zero.spec spec_l15Zero.lb spec_l15Zero.st spec_l15Zero.step := by
  intro n goto y; cases y <;> kernel_rfl
theorem spec_l15Zero.text : Text Go.Proofs.Try.prog spec_l15Zero.F spec_l15Zero.spec := textOf Go.Proofs.Try.f53
theorem spec_l15Zero.ok : CtrOK Go.Proofs.Try.prog gl spec_l15Zero.spec :=
  ctr_okS tabsN spec_l15Zero.text spec_l15Zero.seg_eq (fun n x => ⟨.p0 x.1, rfl, rfl, rfl⟩) (nilC)

/-! loop.example/g00039/spec.l15SameTexts -/
def spec_l15SameTexts.T : List Ctr := []
def spec_l15SameTexts.md : List (Nat × List Md) := []
noncomputable def spec_l15SameTexts.F : Fun := ⟨(Go.Proofs.Try.f74.body).getD .skip, [.v (.sl false .str), .v (.sl false .str)], [(.tmp 4, .bool)], [], 0, [(15, ⟨[0, 1, 12, 13], [], [], false⟩)]⟩
inductive spec_l15SameTexts.Pt where
  | p0 (a0 : List (ByteArray)) (a1 : List (ByteArray))
  | p15 (y1 : List (ByteArray)) (y2 : List (ByteArray)) (y3 : Int) (y4 : Int)
def spec_l15SameTexts.lb : spec_l15SameTexts.Pt → Nat
  | .p0 _ _ => 0
  | .p15 _ _ _ _ => 15
def spec_l15SameTexts.st : spec_l15SameTexts.Pt → St
  | .p0 a0 a1 => enter [.v (.sl false .str) a0, .v (.sl false .str) a1] 0
  | .p15 y1 y2 y3 y4 => ⟨[(0, .im (.sl false .str) y1), (1, .im (.sl false .str) y2), (12, .im (.int .i64) y3), (13, .im (.int .i64) y4)], [], 0⟩
def spec_l15SameTexts.step (n : Nat) (K : spec_l15SameTexts.Pt → Option (Tup [.bool])) : spec_l15SameTexts.Pt → Option (Tup [.bool])
  | .p0 a0 a1 => cond (!(decide (((List.length a0) : Int) = ((List.length a1) : Int)))) (some false) (K (.p15 a0 a1 ((List.length a0) : Int) (0 : Int)))
  | .p15 y1 y2 y3 y4 => cond (decide (y4 < y3)) (cond (inB y4 (List.length y1)) (cond (inB y4 (List.length y2)) (cond (!(seq (List.getD y1 (Int.toNat y4) default) (List.getD y2 (Int.toNat y4) default))) (some false) (K (.p15 y1 y2 y3 (IntKind.wrap .i64 (y4 + (1 : Int)))))) (none)) (none)) (some true)
def spec_l15SameTexts (n : Nat) (a0 : List (ByteArray)) (a1 : List (ByteArray)) : Option (Tup [.bool]) := goRec spec_l15SameTexts.step n (.p0 a0 a1)
def spec_l15SameTexts.spec : Ctr := ⟨74, [.v (.sl false .str), .v (.sl false .str)], [.bool], [], none, fun n x => spec_l15SameTexts n x.1 x.2.1⟩
theorem spec_l15SameTexts.seg_eq : SegEq tyN gl spec_l15SameTexts.F spec_l15SameTexts.md spec_l15SameTexts.T spec_l15SameTexts.spec spec_l15SameTexts.lb spec_l15SameTexts.st spec_l15SameTexts.step := by
  intro n goto y; cases y <;> kernel_rfl
theorem spec_l15SameTexts.text : Text Go.Proofs.Try.prog spec_l15SameTexts.F spec_l15SameTexts.spec := textOf Go.Proofs.Try.f74
theorem spec_l15SameTexts.ok : CtrOK Go.Proofs.Try.prog gl spec_l15SameTexts.spec :=
  ctr_okS tabsN spec_l15SameTexts.text spec_l15SameTexts.seg_eq (fun n x => ⟨.p0 x.1 x.2.1, rfl, rfl, rfl⟩) (nilC)

/-! loop.example/g00039/spec.l15SameNode -/
def spec_l15SameNode.T : List Ctr := [spec_l15SameTexts.spec]
def spec_l15SameNode.md : List (Nat × List Md) := []
noncomputable def spec_l15SameNode.F : Fun := ⟨(Go.Proofs.Try.f52.body).getD .skip, [.v cU0, .v cU0], [(.tmp 4, .bool)], [], 0, [(4, ⟨[2, 3, 28], [], [(2, 5, (.bs cU3)), (2, 11, (.bs .str)), (2, 13, (.bs .str)), (3, 5, (.bs cU3)), (3, 11, (.bs .str)), (3, 13, (.bs .str))], false⟩), (15, ⟨[2, 3, 31, 32], [], [(2, 5, (.bs cU3)), (2, 11, (.bs .str)), (2, 13, (.bs .str)), (3, 5, (.bs cU3)), (3, 11, (.bs .str)), (3, 13, (.bs .str))], false⟩)]⟩
inductive spec_l15SameNode.Pt where
  | p0 (a0 : tU1) (a1 : tU1)
  | p4 (y1 : Bool) (y2 : Int) (y3 : Int) (y4 : Int) (y5 : ByteArray) (y6 : Int) (y7 : List (tU4)) (y8 : Int) (y9 : Bool) (y10 : Int) (y11 : Bool) (y12 : Int) (y13 : List (ByteArray)) (y14 : Int) (y15 : List (ByteArray)) (y16 : Int) (y17 : Int) (y18 : Int) (y19 : Int) (y20 : ByteArray) (y21 : Int) (y22 : List (tU4)) (y23 : Int) (y24 : Bool) (y25 : Int) (y26 : Bool) (y27 : Int) (y28 : List (ByteArray)) (y29 : Int) (y30 : List (ByteArray)) (y31 : Int)
  | p15 (y1 : Int) (y2 : Int) (y3 : Int) (y4 : Int) (y5 : Int) (y6 : ByteArray) (y7 : Int) (y8 : List (tU4)) (y9 : Int) (y10 : Bool) (y11 : Int) (y12 : Bool) (y13 : Int) (y14 : List (ByteArray)) (y15 : Int) (y16 : List (ByteArray)) (y17 : Int) (y18 : Int) (y19 : Int) (y20 : Int) (y21 : ByteArray) (y22 : Int) (y23 : List (tU4)) (y24 : Int) (y25 : Bool) (y26 : Int) (y27 : Bool) (y28 : Int) (y29 : List (ByteArray)) (y30 : Int) (y31 : List (ByteArray)) (y32 : Int)
def spec_l15SameNode.lb : spec_l15SameNode.Pt → Nat
  | .p0 _ _ => 0
  | .p4 _ _ _ _ _ _ _ _ _ _ _ _ _ _ _ _ _ _ _ _ _ _ _ _ _ _ _ _ _ _ _ => 4
  | .p15 _ _ _ _ _ _ _ _ _ _ _ _ _ _ _ _ _ _ _ _ _ _ _ _ _ _ _ _ _ _ _ _ => 15
def spec_l15SameNode.st : spec_l15SameNode.Pt → St
  | .p0 a0 a1 => enter [.v cU0 a0, .v cU0 a1] 0
  | .p4 y1 y2 y3 y4 y5 y6 y7 y8 y9 y10 y11 y12 y13 y14 y15 y16 y17 y18 y19 y20 y21 y22 y23 y24 y25 y26 y27 y28 y29 y30 y31 => ⟨[(2, .po 0 0), (3, .po 1 0), (28, .im .bool y1)], [(0, .obj [.im (.int .i64) y2, .im (.int .i64) y3, .im (.int .i64) y4, .im .str y5, .im (.int .i64) y6, .im (.bs cU3) y7, .im (.int .i64) y8, .im .bool y9, .im (.int .i64) y10, .im .bool y11, .im (.int .i64) y12, .im (.bs .str) y13, .im (.int .i64) y14, .im (.bs .str) y15, .im (.int .i64) y16]), (1, .obj [.im (.int .i64) y17, .im (.int .i64) y18, .im (.int .i64) y19, .im .str y20, .im (.int .i64) y21, .im (.bs cU3) y22, .im (.int .i64) y23, .im .bool y24, .im (.int .i64) y25, .im .bool y26, .im (.int .i64) y27, .im (.bs .str) y28, .im (.int .i64) y29, .im (.bs .str) y30, .im (.int .i64) y31])], 2⟩
  | .p15 y1 y2 y3 y4 y5 y6 y7 y8 y9 y10 y11 y12 y13 y14 y15 y16 y17 y18 y19 y20 y21 y22 y23 y24 y25 y26 y27 y28 y29 y30 y31 y32 => ⟨[(2, .po 0 0), (3, .po 1 0), (31, .im (.int .i64) y1), (32, .im (.int .i64) y2)], [(0, .obj [.im (.int .i64) y3, .im (.int .i64) y4, .im (.int .i64) y5, .im .str y6, .im (.int .i64) y7, .im (.bs cU3) y8, .im (.int .i64) y9, .im .bool y10, .im (.int .i64) y11, .im .bool y12, .im (.int .i64) y13, .im (.bs .str) y14, .im (.int .i64) y15, .im (.bs .str) y16, .im (.int .i64) y17]), (1, .obj [.im (.int .i64) y18, .im (.int .i64) y19, .im (.int .i64) y20, .im .str y21, .im (.int .i64) y22, .im (.bs cU3) y23, .im (.int .i64) y24, .im .bool y25, .im (.int .i64) y26, .im .bool y27, .im (.int .i64) y28, .im (.bs .str) y29, .im (.int .i64) y30, .im (.bs .str) y31, .im (.int .i64) y32])], 2⟩
def spec_l15SameNode.step (n : Nat) (K : spec_l15SameNode.Pt → Option (Tup [.bool])) : spec_l15SameNode.Pt → Option (Tup [.bool])
  | .p0 a0 a1 => cond (!(decide (((List.length a0.2.2.2.2.2.1) : Int) = ((List.length a1.2.2.2.2.2.1) : Int)))) (K (.p4 true a0.1 a0.2.1 a0.2.2.1 a0.2.2.2.1 a0.2.2.2.2.1 a0.2.2.2.2.2.1 a0.2.2.2.2.2.2.1 a0.2.2.2.2.2.2.2.1 a0.2.2.2.2.2.2.2.2.1 a0.2.2.2.2.2.2.2.2.2.1 a0.2.2.2.2.2.2.2.2.2.2.1 a0.2.2.2.2.2.2.2.2.2.2.2.1 a0.2.2.2.2.2.2.2.2.2.2.2.2.1 a0.2.2.2.2.2.2.2.2.2.2.2.2.2.1 a0.2.2.2.2.2.2.2.2.2.2.2.2.2.2.1 a1.1 a1.2.1 a1.2.2.1 a1.2.2.2.1 a1.2.2.2.2.1 a1.2.2.2.2.2.1 a1.2.2.2.2.2.2.1 a1.2.2.2.2.2.2.2.1 a1.2.2.2.2.2.2.2.2.1 a1.2.2.2.2.2.2.2.2.2.1 a1.2.2.2.2.2.2.2.2.2.2.1 a1.2.2.2.2.2.2.2.2.2.2.2.1 a1.2.2.2.2.2.2.2.2.2.2.2.2.1 a1.2.2.2.2.2.2.2.2.2.2.2.2.2.1 a1.2.2.2.2.2.2.2.2.2.2.2.2.2.2.1)) ((spec_l15SameTexts n a0.2.2.2.2.2.2.2.2.2.2.2.1 a1.2.2.2.2.2.2.2.2.2.2.2.1).bind fun r5 => cond (!r5) (K (.p4 true a0.1 a0.2.1 a0.2.2.1 a0.2.2.2.1 a0.2.2.2.2.1 a0.2.2.2.2.2.1 a0.2.2.2.2.2.2.1 a0.2.2.2.2.2.2.2.1 a0.2.2.2.2.2.2.2.2.1 a0.2.2.2.2.2.2.2.2.2.1 a0.2.2.2.2.2.2.2.2.2.2.1 a0.2.2.2.2.2.2.2.2.2.2.2.1 a0.2.2.2.2.2.2.2.2.2.2.2.2.1 a0.2.2.2.2.2.2.2.2.2.2.2.2.2.1 a0.2.2.2.2.2.2.2.2.2.2.2.2.2.2.1 a1.1 a1.2.1 a1.2.2.1 a1.2.2.2.1 a1.2.2.2.2.1 a1.2.2.2.2.2.1 a1.2.2.2.2.2.2.1 a1.2.2.2.2.2.2.2.1 a1.2.2.2.2.2.2.2.2.1 a1.2.2.2.2.2.2.2.2.2.1 a1.2.2.2.2.2.2.2.2.2.2.1 a1.2.2.2.2.2.2.2.2.2.2.2.1 a1.2.2.2.2.2.2.2.2.2.2.2.2.1 a1.2.2.2.2.2.2.2.2.2.2.2.2.2.1 a1.2.2.2.2.2.2.2.2.2.2.2.2.2.2.1)) ((spec_l15SameTexts n a0.2.2.2.2.2.2.2.2.2.2.2.2.2.1 a1.2.2.2.2.2.2.2.2.2.2.2.2.2.1).bind fun r6 => K (.p4 (!r6) a0.1 a0.2.1 a0.2.2.1 a0.2.2.2.1 a0.2.2.2.2.1 a0.2.2.2.2.2.1 a0.2.2.2.2.2.2.1 a0.2.2.2.2.2.2.2.1 a0.2.2.2.2.2.2.2.2.1 a0.2.2.2.2.2.2.2.2.2.1 a0.2.2.2.2.2.2.2.2.2.2.1 a0.2.2.2.2.2.2.2.2.2.2.2.1 a0.2.2.2.2.2.2.2.2.2.2.2.2.1 a0.2.2.2.2.2.2.2.2.2.2.2.2.2.1 a0.2.2.2.2.2.2.2.2.2.2.2.2.2.2.1 a1.1 a1.2.1 a1.2.2.1 a1.2.2.2.1 a1.2.2.2.2.1 a1.2.2.2.2.2.1 a1.2.2.2.2.2.2.1 a1.2.2.2.2.2.2.2.1 a1.2.2.2.2.2.2.2.2.1 a1.2.2.2.2.2.2.2.2.2.1 a1.2.2.2.2.2.2.2.2.2.2.1 a1.2.2.2.2.2.2.2.2.2.2.2.1 a1.2.2.2.2.2.2.2.2.2.2.2.2.1 a1.2.2.2.2.2.2.2.2.2.2.2.2.2.1 a1.2.2.2.2.2.2.2.2.2.2.2.2.2.2.1)))
  | .p4 y1 y2 y3 y4 y5 y6 y7 y8 y9 y10 y11 y12 y13 y14 y15 y16 y17 y18 y19 y20 y21 y22 y23 y24 y25 y26 y27 y28 y29 y30 y31 => cond y1 (some false) (K (.p15 ((List.length y7) : Int) (0 : Int) y2 y3 y4 y5 y6 y7 y8 y9 y10 y11 y12 y13 y14 y15 y16 y17 y18 y19 y20 y21 y22 y23 y24 y25 y26 y27 y28 y29 y30 y31))
  | .p15 y1 y2 y3 y4 y5 y6 y7 y8 y9 y10 y11 y12 y13 y14 y15 y16 y17 y18 y19 y20 y21 y22 y23 y24 y25 y26 y27 y28 y29 y30 y31 y32 => cond (decide (y2 < y1)) (cond (inB y2 (List.length y8)) (cond (inB y2 (List.length y23)) (cond (!((seq (List.getD y8 (Int.toNat y2) default).1 (List.getD y23 (Int.toNat y2) default).1) && ((decide ((List.getD y8 (Int.toNat y2) default).2.1 = (List.getD y23 (Int.toNat y2) default).2.1)) && ((seq (List.getD y8 (Int.toNat y2) default).2.2.1 (List.getD y23 (Int.toNat y2) default).2.2.1) && true)))) (some false) (K (.p15 y1 (IntKind.wrap .i64 (y2 + (1 : Int))) y3 y4 y5 y6 y7 y8 y9 y10 y11 y12 y13 y14 y15 y16 y17 y18 y19 y20 y21 y22 y23 y24 y25 y26 y27 y28 y29 y30 y31 y32))) (none)) (none)) (cond (decide (y3 = y18)) (cond (decide (y4 = y19)) (cond (decide (y5 = y20)) (cond (seq y6 y21) (cond (decide (y7 = y22)) (cond (decide (y9 = y24)) (cond (y10 == y25) (cond (decide (y11 = y26)) (cond (y12 == y27) (cond (decide (y13 = y28)) (cond (decide (y15 = y30)) (some (decide (y17 = y32))) (some false)) (some false)) (some false)) (some false)) (some false)) (some false)) (some false)) (some false)) (some false)) (some false)) (some false))
def spec_l15SameNode (n : Nat) (a0 : tU1) (a1 : tU1) : Option (Tup [.bool]) := goRec spec_l15SameNode.step n (.p0 a0 a1)
def spec_l15SameNode.spec : Ctr := ⟨52, [.v cU0, .v cU0], [.bool], [], none, fun n x => spec_l15SameNode n x.1 x.2.1⟩
theorem spec_l15SameNode.seg_eq : SegEq tyN gl spec_l15SameNode.F spec_l15SameNode.md spec_l15SameNode.T spec_l15SameNode.spec spec_l15SameNode.lb spec_l15SameNode.st spec_l15SameNode.step := by
  intro n goto y; cases y <;> kernel_rfl
theorem spec_l15SameNode.text : Text Go.Proofs.Try.prog spec_l15SameNode.F spec_l15SameNode.spec := textOf Go.Proofs.Try.f52
theorem spec_l15SameNode.ok : CtrOK Go.Proofs.Try.prog gl spec_l15SameNode.spec :=
  ctr_okS tabsN spec_l15SameNode.text spec_l15SameNode.seg_eq (fun n x => ⟨.p0 x.1 x.2.1, rfl, rfl, rfl⟩) (consC spec_l15SameTexts.ok (nilC))

/-! loop.example/g00039/spec.l2Printed -/
def spec_l2Printed.T : List Ctr := []
def spec_l2Printed.md : List (Nat × List Md) := []
noncomputable def spec_l2Printed.F : Fun := ⟨(Go.Proofs.Try.f54.body).getD .skip, [.v .str], [(.tmp 2, .bool)], [], 0, [(7, ⟨[0, 3], [], [], false⟩)]⟩
inductive spec_l2Printed.Pt where
  | p0 (a0 : ByteArray)
  | p7 (y1 : ByteArray) (y2 : Int)
def spec_l2Printed.lb : spec_l2Printed.Pt → Nat
  | .p0 _ => 0
  | .p7 _ _ => 7
def spec_l2Printed.st : spec_l2Printed.Pt → St
  | .p0 a0 => enter [.v .str a0] 0
  | .p7 y1 y2 => ⟨[(0, .im .str y1), (3, .im (.int .i64) y2)], [], 0⟩
def spec_l2Printed.step (n : Nat) (K : spec_l2Printed.Pt → Option (Tup [.bool])) : spec_l2Printed.Pt → Option (Tup [.bool])
  | .p0 a0 => K (.p7 a0 (0 : Int))
  | .p7 y1 y2 => cond (decide (y2 < ((ByteArray.size y1) : Int))) (cond (inB y2 (ByteArray.size y1)) (cond (decide ((bt y1 y2) < (32 : Int))) (some false) (cond (inB y2 (ByteArray.size y1)) (cond (decide ((126 : Int) < (bt y1 y2))) (some false) (K (.p7 y1 (IntKind.wrap .i64 (y2 + (1 : Int)))))) (none))) (none)) (some true)
def spec_l2Printed (n : Nat) (a0 : ByteArray) : Option (Tup [.bool]) := goRec spec_l2Printed.step n (.p0 a0)
def spec_l2Printed.spec : Ctr := ⟨54, [.v .str], [.bool], [], none, fun n x => spec_l2Printed n x.1⟩
theorem spec_l2Printed.seg_eq : SegEq tyN gl spec_l2Printed.F spec_l2Printed.md spec_l2Printed.T spec_l2Printed.spec spec_l2Printed.lb spec_l2Printed.st spec_l2Printed.step := by
  intro n goto y; cases y <;> kernel_rfl
theorem spec_l2Printed.text : Text Go.Proofs.Try.prog spec_l2Printed.F spec_l2Printed.spec := textOf Go.Proofs.Try.f54
theorem spec_l2Printed.ok : CtrOK Go.Proofs.Try.prog gl spec_l2Printed.spec :=
  ctr_okS tabsN spec_l2Printed.text spec_l2Printed.seg_eq (fun n x => ⟨.p0 x.1, rfl, rfl, rfl⟩) (nilC)

/-! loop.example/g00039/spec.l2Digit -/
def spec_l2Digit.T : List Ctr := []
def spec_l2Digit.md : List (Nat × List Md) := []
noncomputable def spec_l2Digit.F : Fun := ⟨(Go.Proofs.Try.f75.body).getD .skip, [.v (.int .u8)], [(.tmp 2, .bool)], [], 0, []⟩
inductive spec_l2Digit.Pt where
  | p0 (a0 : Int)
def spec_l2Digit.lb : spec_l2Digit.Pt → Nat
  | .p0 _ => 0
def spec_l2Digit.st : spec_l2Digit.Pt → St
  | .p0 a0 => enter [.v (.int .u8) a0] 0
def spec_l2Digit.step (n : Nat) (K : spec_l2Digit.Pt → Option (Tup [.bool])) : spec_l2Digit.Pt → Option (Tup [.bool])
  | .p0 a0 => cond (decide ((48 : Int) ≤ a0)) (some (decide (a0 ≤ (57 : Int)))) (some false)
def spec_l2Digit (n : Nat) (a0 : Int) : Option (Tup [.bool]) := goRec spec_l2Digit.step n (.p0 a0)
def spec_l2Digit.spec : Ctr := ⟨75, [.v (.int .u8)], [.bool], [], none, fun n x => spec_l2Digit n x.1⟩
theorem spec_l2Digit.seg_eq : SegEq tyN gl spec_l2Digit.F spec_l2Digit.md spec_l2Digit.T spec_l2Digit.spec spec_l2Digit.lb spec_l2Digit.st spec_l2Digit.step := by
  intro n goto y; cases y <;> kernel_rfl
theorem spec_l2Digit.text : Text Go.Proofs.Try.prog spec_l2Digit.F spec_l2Digit.spec := textOf Go.Proofs.Try.f75
theorem spec_l2Digit.ok : CtrOK Go.Proofs.Try.prog gl spec_l2Digit.spec :=
  ctr_okS tabsN spec_l2Digit.text spec_l2Digit.seg_eq (fun n x => ⟨.p0 x.1, rfl, rfl, rfl⟩) (nilC)

/-! loop.example/g00039/spec.l2Letter -/
def spec_l2Letter.T : List Ctr := []
def spec_l2Letter.md : List (Nat × List Md) := []
noncomputable def spec_l2Letter.F : Fun := ⟨(Go.Proofs.Try.f76.body).getD .skip, [.v (.int .u8)], [(.tmp 2, .bool)], [], 0, []⟩
inductive spec_l2Letter.Pt where
  | p0 (a0 : Int)
def spec_l2Letter.lb : spec_l2Letter.Pt → Nat
  | .p0 _ => 0
def spec_l2Letter.st : spec_l2Letter.Pt → St
  | .p0 a0 => enter [.v (.int .u8) a0] 0
def spec_l2Letter.step (n : Nat) (K : spec_l2Letter.Pt → Option (Tup [.bool])) : spec_l2Letter.Pt → Option (Tup [.bool])
  | .p0 a0 => cond (decide ((97 : Int) ≤ a0)) (cond (decide (a0 ≤ (122 : Int))) (some true) (cond (decide ((65 : Int) ≤ a0)) (some (decide (a0 ≤ (90 : Int)))) (some false))) (cond (decide ((65 : Int) ≤ a0)) (some (decide (a0 ≤ (90 : Int)))) (some false))
def spec_l2Letter (n : Nat) (a0 : Int) : Option (Tup [.bool]) := goRec spec_l2Letter.step n (.p0 a0)
def spec_l2Letter.spec : Ctr := ⟨76, [.v (.int .u8)], [.bool], [], none, fun n x => spec_l2Letter n x.1⟩
theorem spec_l2Letter.seg_eq : SegEq tyN gl spec_l2Letter.F spec_l2Letter.md spec_l2Letter.T spec_l2Letter.spec spec_l2Letter.lb spec_l2Letter.st spec_l2Letter.step := by
  intro n goto y; cases y <;> kernel_rfl
theorem spec_l2Letter.text : Text Go.Proofs.Try.prog spec_l2Letter.F spec_l2Letter.spec := textOf Go.Proofs.Try.f76
theorem spec_l2Letter.ok : CtrOK Go.Proofs.Try.prog gl spec_l2Letter.spec :=
  ctr_okS tabsN spec_l2Letter.text spec_l2Letter.seg_eq (fun n x => ⟨.p0 x.1, rfl, rfl, rfl⟩) (nilC)

/-! loop.example/g00039/spec.l2Name -/
def spec_l2Name.T : List Ctr := [spec_l2Digit.spec, spec_l2Letter.spec]
def spec_l2Name.md : List (Nat × List Md) := []
noncomputable def spec_l2Name.F : Fun := ⟨(Go.Proofs.Try.f55.body).getD .skip, [.v .str], [(.tmp 2, .bool)], [], 0, [(4, ⟨[0, 16], [], [], false⟩), (15, ⟨[0, 3], [], [], false⟩), (24, ⟨[0, 3, 40], [], [], false⟩)]⟩
inductive spec_l2Name.Pt where
  | p0 (a0 : ByteArray)
  | p4 (y1 : ByteArray) (y2 : Bool)
  | p15 (y1 : ByteArray) (y2 : Int)
  | p24 (y1 : ByteArray) (y2 : Int) (y3 : Bool)
def spec_l2Name.lb : spec_l2Name.Pt → Nat
  | .p0 _ => 0
  | .p4 _ _ => 4
  | .p15 _ _ => 15
  | .p24 _ _ _ => 24
def spec_l2Name.st : spec_l2Name.Pt → St
  | .p0 a0 => enter [.v .str a0] 0
  | .p4 y1 y2 => ⟨[(0, .im .str y1), (16, .im .bool y2)], [], 0⟩
  | .p15 y1 y2 => ⟨[(0, .im .str y1), (3, .im (.int .i64) y2)], [], 0⟩
  | .p24 y1 y2 y3 => ⟨[(0, .im .str y1), (3, .im (.int .i64) y2), (40, .im .bool y3)], [], 0⟩
def spec_l2Name.step (n : Nat) (K : spec_l2Name.Pt → Option (Tup [.bool])) : spec_l2Name.Pt → Option (Tup [.bool])
  | .p0 a0 => cond (decide (((ByteArray.size a0) : Int) < (1 : Int))) (K (.p4 a0 true)) (cond (decide ((40 : Int) < ((ByteArray.size a0) : Int))) (K (.p4 a0 true)) (cond (inB (0 : Int) (ByteArray.size a0)) ((spec_l2Digit n (bt a0 (0 : Int))).bind fun r4 => K (.p4 a0 r4)) (none)))
  | .p4 y1 y2 => cond y2 (some false) (K (.p15 y1 (0 : Int)))
  | .p15 y1 y2 => cond (decide (y2 < ((ByteArray.size y1) : Int))) (cond (inB y2 (ByteArray.size y1)) ((spec_l2Letter n (bt y1 y2)).bind fun r5 => cond (!r5) (cond (inB y2 (ByteArray.size y1)) ((spec_l2Digit n (bt y1 y2)).bind fun r6 => cond (!r6) (cond (inB y2 (ByteArray.size y1)) (K (.p24 y1 y2 (!(decide ((bt y1 y2) = (95 : Int)))))) (none)) (K (.p24 y1 y2 false))) (none)) (K (.p24 y1 y2 false))) (none)) (some true)
  | .p24 y1 y2 y3 => cond y3 (some false) (K (.p15 y1 (IntKind.wrap .i64 (y2 + (1 : Int)))))
def spec_l2Name (n : Nat) (a0 : ByteArray) : Option (Tup [.bool]) := goRec spec_l2Name.step n (.p0 a0)
def spec_l2Name.spec : Ctr := ⟨55, [.v .str], [.bool], [], none, fun n x => spec_l2Name n x.1⟩
theorem spec_l2Name.seg_eq : SegEq tyN gl spec_l2Name.F spec_l2Name.md spec_l2Name.T spec_l2Name.spec spec_l2Name.lb spec_l2Name.st spec_l2Name.step := by
  intro n goto y; cases y <;> kernel_rfl
theorem spec_l2Name.text : Text Go.Proofs.Try.prog spec_l2Name.F spec_l2Name.spec := textOf Go.Proofs.Try.f55
theorem spec_l2Name.ok : CtrOK Go.Proofs.Try.prog gl spec_l2Name.spec :=
  ctr_okS tabsN spec_l2Name.text spec_l2Name.seg_eq (fun n x => ⟨.p0 x.1, rfl, rfl, rfl⟩) (consC spec_l2Digit.ok (consC spec_l2Letter.ok (nilC)))

/-! loop.example/g00039/spec.l15Functions -/
def spec_l15Functions.T : List Ctr := []
def spec_l15Functions.md : List (Nat × List Md) := []
noncomputable def spec_l15Functions.F : Fun := ⟨(Go.Proofs.Try.f63.body).getD .skip, [], [(.tmp 0, (.sl false .str))], [], 0, []⟩
inductive spec_l15Functions.Pt where
  | p0
def spec_l15Functions.lb : spec_l15Functions.Pt → Nat
  | .p0 => 0
def spec_l15Functions.st : spec_l15Functions.Pt → St
  | .p0 => enter [] 0
def spec_l15Functions.step (n : Nat) (K : spec_l15Functions.Pt → Option (Tup [(.sl false .str)])) : spec_l15Functions.Pt → Option (Tup [(.sl false .str)])
  | .p0 => some [(⟨#[97, 98, 115]⟩ : ByteArray), (⟨#[97, 98, 115, 101, 110, 116]⟩ : ByteArray), (⟨#[97, 118, 103, 95, 111, 118, 101, 114]⟩ : ByteArray), (⟨#[99, 104, 97, 110, 103, 101, 115]⟩ : ByteArray), (⟨#[99, 108, 97, 109, 112]⟩ : ByteArray), (⟨#[99, 111, 117, 110, 116, 95, 111, 118, 101, 114]⟩ : ByteArray), (⟨#[100, 101, 108, 116, 97]⟩ : ByteArray), (⟨#[104, 105, 115, 116, 95, 113, 117, 97, 110, 116, 105, 108, 101]⟩ : ByteArray), (⟨#[108, 97, 98, 101, 108, 95, 106, 111, 105, 110]⟩ : ByteArray), (⟨#[108, 97, 98, 101, 108, 95, 115, 101, 116]⟩ : ByteArray), (⟨#[108, 97, 115, 116, 95, 111, 118, 101, 114]⟩ : ByteArray), (⟨#[109, 97, 120, 95, 111, 118, 101, 114]⟩ : ByteArray), (⟨#[109, 105, 110, 95, 111, 118, 101, 114]⟩ : ByteArray), (⟨#[112, 114, 101, 100, 105, 99, 116]⟩ : ByteArray), (⟨#[113, 117, 97, 110, 116, 105, 108, 101, 95, 111, 118, 101, 114]⟩ : ByteArray), (⟨#[114, 97, 116, 101]⟩ : ByteArray), (⟨#[114, 101, 115, 101, 116, 115]⟩ : ByteArray), (⟨#[114, 105, 115, 101]⟩ : ByteArray), (⟨#[115, 99, 97, 108, 97, 114]⟩ : ByteArray), (⟨#[115, 117, 109, 95, 111, 118, 101, 114]⟩ : ByteArray), (⟨#[116, 105, 109, 101]⟩ : ByteArray), (⟨#[116, 105, 109, 101, 115, 116, 97, 109, 112]⟩ : ByteArray), (⟨#[118, 101, 99, 116, 111, 114]⟩ : ByteArray)]
def spec_l15Functions (n : Nat) : Option (Tup [(.sl false .str)]) := goRec spec_l15Functions.step n (.p0)
def spec_l15Functions.spec : Ctr := ⟨63, [], [(.sl false .str)], [], none, fun n x => spec_l15Functions n⟩
theorem spec_l15Functions.seg_eq : SegEq tyN gl spec_l15Functions.F spec_l15Functions.md spec_l15Functions.T spec_l15Functions.spec spec_l15Functions.lb spec_l15Functions.st spec_l15Functions.step := by
  intro n goto y; cases y <;> kernel_rfl
theorem spec_l15Functions.text : Text Go.Proofs.Try.prog spec_l15Functions.F spec_l15Functions.spec := textOf Go.Proofs.Try.f63
theorem spec_l15Functions.ok : CtrOK Go.Proofs.Try.prog gl spec_l15Functions.spec :=
  ctr_okS tabsN spec_l15Functions.text spec_l15Functions.seg_eq (fun n x => ⟨.p0, rfl, rfl, rfl⟩) (nilC)

/-! loop.example/g00039/spec.l2Has -/
def spec_l2Has.T : List Ctr := []
def spec_l2Has.md : List (Nat × List Md) := []
noncomputable def spec_l2Has.F : Fun := ⟨(Go.Proofs.Try.f62.body).getD .skip, [.v (.sl false .str), .v .str], [(.tmp 4, .bool)], [], 0, [(7, ⟨[1, 7, 8, 9], [(7, .str)], [], false⟩)]⟩
inductive spec_l2Has.Pt where
  | p0 (a0 : List (ByteArray)) (a1 : ByteArray)
  | p7 (y1 : ByteArray) (y2 : List (ByteArray)) (y3 : Int) (y4 : Int)
def spec_l2Has.lb : spec_l2Has.Pt → Nat
  | .p0 _ _ => 0
  | .p7 _ _ _ _ => 7
def spec_l2Has.st : spec_l2Has.Pt → St
  | .p0 a0 a1 => enter [.v (.sl false .str) a0, .v .str a1] 0
  | .p7 y1 y2 y3 y4 => ⟨[(1, .im .str y1), (7, .im (.sl false .str) y2), (8, .im (.int .i64) y3), (9, .im (.int .i64) y4)], [], 0⟩
def spec_l2Has.step (n : Nat) (K : spec_l2Has.Pt → Option (Tup [.bool])) : spec_l2Has.Pt → Option (Tup [.bool])
  | .p0 a0 a1 => K (.p7 a1 a0 ((List.length a0) : Int) (0 : Int))
  | .p7 y1 y2 y3 y4 => cond (decide (y4 < y3)) (cond (inB y4 (List.length y2)) (cond (seq (List.getD y2 (Int.toNat y4) default) y1) (some true) (K (.p7 y1 y2 y3 (IntKind.wrap .i64 (y4 + (1 : Int)))))) (none)) (some false)
def spec_l2Has (n : Nat) (a0 : List (ByteArray)) (a1 : ByteArray) : Option (Tup [.bool]) := goRec spec_l2Has.step n (.p0 a0 a1)
def spec_l2Has.spec : Ctr := ⟨62, [.v (.sl false .str), .v .str], [.bool], [], none, fun n x => spec_l2Has n x.1 x.2.1⟩
theorem spec_l2Has.seg_eq : SegEq tyN gl spec_l2Has.F spec_l2Has.md spec_l2Has.T spec_l2Has.spec spec_l2Has.lb spec_l2Has.st spec_l2Has.step := by
  intro n goto y; cases y <;> kernel_rfl
theorem spec_l2Has.text : Text Go.Proofs.Try.prog spec_l2Has.F spec_l2Has.spec := textOf Go.Proofs.Try.f62
theorem spec_l2Has.ok : CtrOK Go.Proofs.Try.prog gl spec_l2Has.spec :=
  ctr_okS tabsN spec_l2Has.text spec_l2Has.seg_eq (fun n x => ⟨.p0 x.1 x.2.1, rfl, rfl, rfl⟩) (nilC)

/-! loop.example/g00039/spec.l15Aggs -/
def spec_l15Aggs.T : List Ctr := []
def spec_l15Aggs.md : List (Nat × List Md) := []
noncomputable def spec_l15Aggs.F : Fun := ⟨(Go.Proofs.Try.f77.body).getD .skip, [], [(.tmp 0, (.sl false .str))], [], 0, []⟩
inductive spec_l15Aggs.Pt where
  | p0
def spec_l15Aggs.lb : spec_l15Aggs.Pt → Nat
  | .p0 => 0
def spec_l15Aggs.st : spec_l15Aggs.Pt → St
  | .p0 => enter [] 0
def spec_l15Aggs.step (n : Nat) (K : spec_l15Aggs.Pt → Option (Tup [(.sl false .str)])) : spec_l15Aggs.Pt → Option (Tup [(.sl false .str)])
  | .p0 => some [(⟨#[]⟩ : ByteArray), (⟨#[115, 117, 109]⟩ : ByteArray), (⟨#[109, 105, 110]⟩ : ByteArray), (⟨#[109, 97, 120]⟩ : ByteArray), (⟨#[97, 118, 103]⟩ : ByteArray), (⟨#[99, 111, 117, 110, 116]⟩ : ByteArray), (⟨#[116, 111, 112, 107]⟩ : ByteArray), (⟨#[98, 111, 116, 116, 111, 109, 107]⟩ : ByteArray), (⟨#[113, 117, 97, 110, 116, 105, 108, 101]⟩ : ByteArray)]
def spec_l15Aggs (n : Nat) : Option (Tup [(.sl false .str)]) := goRec spec_l15Aggs.step n (.p0)
def spec_l15Aggs.spec : Ctr := ⟨77, [], [(.sl false .str)], [], none, fun n x => spec_l15Aggs n⟩
theorem spec_l15Aggs.seg_eq : SegEq tyN gl spec_l15Aggs.F spec_l15Aggs.md spec_l15Aggs.T spec_l15Aggs.spec spec_l15Aggs.lb spec_l15Aggs.st spec_l15Aggs.step := by
  intro n goto y; cases y <;> kernel_rfl
theorem spec_l15Aggs.text : Text Go.Proofs.Try.prog spec_l15Aggs.F spec_l15Aggs.spec := textOf Go.Proofs.Try.f77
theorem spec_l15Aggs.ok : CtrOK Go.Proofs.Try.prog gl spec_l15Aggs.spec :=
  ctr_okS tabsN spec_l15Aggs.text spec_l15Aggs.seg_eq (fun n x => ⟨.p0, rfl, rfl, rfl⟩) (nilC)

/-! loop.example/g00039/spec.l15Word -/
def spec_l15Word.T : List Ctr := [spec_l15Functions.spec, spec_l2Has.spec, spec_l15Aggs.spec]
def spec_l15Word.md : List (Nat × List Md) := []
noncomputable def spec_l15Word.F : Fun := ⟨(Go.Proofs.Try.f56.body).getD .skip, [.v .str], [(.tmp 2, .bool)], [], 0, []⟩
inductive spec_l15Word.Pt where
  | p0 (a0 : ByteArray)
def spec_l15Word.lb : spec_l15Word.Pt → Nat
  | .p0 _ => 0
def spec_l15Word.st : spec_l15Word.Pt → St
  | .p0 a0 => enter [.v .str a0] 0
def spec_l15Word.step (n : Nat) (K : spec_l15Word.Pt → Option (Tup [.bool])) : spec_l15Word.Pt → Option (Tup [.bool])
  | .p0 a0 => (spec_l15Functions n).bind fun r4 => (spec_l2Has n r4 a0).bind fun r5 => cond r5 (some true) (cond (!(seq a0 (⟨#[]⟩ : ByteArray))) ((spec_l15Aggs n).bind fun r6 => (spec_l2Has n r6 a0).bind fun r7 => cond r7 (some true) ((spec_l2Has n [(⟨#[97, 110, 100]⟩ : ByteArray), (⟨#[98, 111, 111, 108]⟩ : ByteArray), (⟨#[98, 121]⟩ : ByteArray), (⟨#[103, 114, 111, 117, 112, 95, 108, 101, 102, 116]⟩ : ByteArray), (⟨#[103, 114, 111, 117, 112, 95, 114, 105, 103, 104, 116]⟩ : ByteArray), (⟨#[105, 103, 110, 111, 114, 105, 110, 103]⟩ : ByteArray), (⟨#[111, 102, 102, 115, 101, 116]⟩ : ByteArray), (⟨#[111, 110]⟩ : ByteArray), (⟨#[111, 114]⟩ : ByteArray), (⟨#[117, 110, 108, 101, 115, 115]⟩ : ByteArray), (⟨#[119, 105, 116, 104, 111, 117, 116]⟩ : ByteArray)] a0).bind fun r8 => some r8)) ((spec_l2Has n [(⟨#[97, 110, 100]⟩ : ByteArray), (⟨#[98, 111, 111, 108]⟩ : ByteArray), (⟨#[98, 121]⟩ : ByteArray), (⟨#[103, 114, 111, 117, 112, 95, 108, 101, 102, 116]⟩ : ByteArray), (⟨#[103, 114, 111, 117, 112, 95, 114, 105, 103, 104, 116]⟩ : ByteArray), (⟨#[105, 103, 110, 111, 114, 105, 110, 103]⟩ : ByteArray), (⟨#[111, 102, 102, 115, 101, 116]⟩ : ByteArray), (⟨#[111, 110]⟩ : ByteArray), (⟨#[111, 114]⟩ : ByteArray), (⟨#[117, 110, 108, 101, 115, 115]⟩ : ByteArray), (⟨#[119, 105, 116, 104, 111, 117, 116]⟩ : ByteArray)] a0).bind fun r6 => some r6))
def spec_l15Word (n : Nat) (a0 : ByteArray) : Option (Tup [.bool]) := goRec spec_l15Word.step n (.p0 a0)
def spec_l15Word.spec : Ctr := ⟨56, [.v .str], [.bool], [], none, fun n x => spec_l15Word n x.1⟩
theorem spec_l15Word.seg_eq : SegEq tyN gl spec_l15Word.F spec_l15Word.md spec_l15Word.T spec_l15Word.spec spec_l15Word.lb spec_l15Word.st spec_l15Word.step := by
  intro n goto y; cases y <;> kernel_rfl
theorem spec_l15Word.text : Text Go.Proofs.Try.prog spec_l15Word.F spec_l15Word.spec := textOf Go.Proofs.Try.f56
theorem spec_l15Word.ok : CtrOK Go.Proofs.Try.prog gl spec_l15Word.spec :=
  ctr_okS tabsN spec_l15Word.text spec_l15Word.seg_eq (fun n x => ⟨.p0 x.1, rfl, rfl, rfl⟩) (consC spec_l15Functions.ok (consC spec_l2Has.ok (consC spec_l15Aggs.ok (nilC))))

/-! loop.example/g00039/spec.l2Alternatives -/
def spec_l2Alternatives.T : List Ctr := [spec_l2Printed.spec]
def spec_l2Alternatives.md : List (Nat × List Md) := []
noncomputable def spec_l2Alternatives.F : Fun := ⟨(Go.Proofs.Try.f85.body).getD .skip, [.v .str], [(.tmp 2, (.sl false (.sl false (.int .i64)))), (.tmp 3, .bool)], [], 0, [(8, ⟨[0, 4, 5, 14], [(4, (.sl false (.int .i64))), (5, (.int .i64))], [], false⟩), (19, ⟨[0, 4, 5, 6], [(4, (.sl false (.int .i64))), (5, (.int .i64))], [], false⟩), (51, ⟨[0, 4, 5, 6, 78], [(4, (.sl false (.int .i64))), (5, (.int .i64))], [], false⟩)]⟩
inductive spec_l2Alternatives.Pt where
  | p0 (a0 : ByteArray)
  | p8 (y1 : ByteArray) (y2 : Bool) (y3 : List (List (Int))) (y4 : List (Int))
  | p19 (y1 : ByteArray) (y2 : Int) (y3 : List (List (Int))) (y4 : List (Int))
  | p51 (y1 : ByteArray) (y2 : Int) (y3 : Bool) (y4 : List (List (Int))) (y5 : List (Int))
def spec_l2Alternatives.lb : spec_l2Alternatives.Pt → Nat
  | .p0 _ => 0
  | .p8 _ _ _ _ => 8
  | .p19 _ _ _ _ => 19
  | .p51 _ _ _ _ _ => 51
def spec_l2Alternatives.st : spec_l2Alternatives.Pt → St
  | .p0 a0 => enter [.v .str a0] 0
  | .p8 y1 y2 y3 y4 => ⟨[(0, .im .str y1), (4, .hs 0 [] none 0), (5, .hs 1 [] none 0), (14, .im .bool y2)], [(0, .arr true (.sl false (.int .i64)) y3 0), (1, .arr true (.int .i64) y4 0)], 2⟩
  | .p19 y1 y2 y3 y4 => ⟨[(0, .im .str y1), (4, .hs 0 [] none 0), (5, .hs 1 [] none 0), (6, .im (.int .i64) y2)], [(0, .arr true (.sl false (.int .i64)) y3 0), (1, .arr true (.int .i64) y4 0)], 2⟩
  | .p51 y1 y2 y3 y4 y5 => ⟨[(0, .im .str y1), (4, .hs 0 [] none 0), (5, .hs 1 [] none 0), (6, .im (.int .i64) y2), (78, .im .bool y3)], [(0, .arr true (.sl false (.int .i64)) y4 0), (1, .arr true (.int .i64) y5 0)], 2⟩
def spec_l2Alternatives.step (n : Nat) (K : spec_l2Alternatives.Pt → Option (Tup [(.sl false (.sl false (.int .i64))), .bool])) : spec_l2Alternatives.Pt → Option (Tup [(.sl false (.sl false (.int .i64))), .bool])
  | .p0 a0 => cond (decide ((100 : Int) < ((ByteArray.size a0) : Int))) (K (.p8 a0 true ([] : List (List (Int))) ([] : List (Int)))) ((spec_l2Printed n a0).bind fun r4 => K (.p8 a0 (!r4) ([] : List (List (Int))) ([] : List (Int))))
  | .p8 y1 y2 y3 y4 => cond y2 (some (([] : List (List (Int))), false)) (K (.p19 y1 (0 : Int) y3 y4))
  | .p19 y1 y2 y3 y4 => cond (decide (y2 < ((ByteArray.size y1) : Int))) (cond (inB y2 (ByteArray.size y1)) (cond (decide ((bt y1 y2) = (124 : Int))) (cond (room ((List.length y3) + (List.length [y4]))) (K (.p19 y1 (IntKind.wrap .i64 (y2 + (1 : Int))) (y3 ++ [y4]) ([] : List (Int)))) (none)) (cond (decide ((bt y1 y2) = (42 : Int))) (cond (room ((List.length y4) + (List.length [(-(1 : Int))]))) (K (.p19 y1 (IntKind.wrap .i64 (y2 + (1 : Int))) y3 (y4 ++ [(-(1 : Int))]))) (none)) (cond (decide ((bt y1 y2) = (63 : Int))) (cond (room ((List.length y4) + (List.length [(-(2 : Int))]))) (K (.p19 y1 (IntKind.wrap .i64 (y2 + (1 : Int))) y3 (y4 ++ [(-(2 : Int))]))) (none)) (cond (decide ((bt y1 y2) = (92 : Int))) (cond (decide ((IntKind.wrap .i64 (y2 + (1 : Int))) = ((ByteArray.size y1) : Int))) (K (.p51 y1 (IntKind.wrap .i64 (y2 + (1 : Int))) true y3 y4)) (cond (inB (IntKind.wrap .i64 (y2 + (1 : Int))) (ByteArray.size y1)) (cond (!(decide ((bt y1 (IntKind.wrap .i64 (y2 + (1 : Int)))) = (42 : Int)))) (cond (inB (IntKind.wrap .i64 (y2 + (1 : Int))) (ByteArray.size y1)) (cond (!(decide ((bt y1 (IntKind.wrap .i64 (y2 + (1 : Int)))) = (63 : Int)))) (cond (inB (IntKind.wrap .i64 (y2 + (1 : Int))) (ByteArray.size y1)) (cond (!(decide ((bt y1 (IntKind.wrap .i64 (y2 + (1 : Int)))) = (124 : Int)))) (cond (inB (IntKind.wrap .i64 (y2 + (1 : Int))) (ByteArray.size y1)) (K (.p51 y1 (IntKind.wrap .i64 (y2 + (1 : Int))) (!(decide ((bt y1 (IntKind.wrap .i64 (y2 + (1 : Int)))) = (92 : Int)))) y3 y4)) (none)) (K (.p51 y1 (IntKind.wrap .i64 (y2 + (1 : Int))) false y3 y4))) (none)) (K (.p51 y1 (IntKind.wrap .i64 (y2 + (1 : Int))) false y3 y4))) (none)) (K (.p51 y1 (IntKind.wrap .i64 (y2 + (1 : Int))) false y3 y4))) (none))) (cond (inB y2 (ByteArray.size y1)) (cond (room ((List.length y4) + (List.length [(IntKind.wrap .i64 (bt y1 y2))]))) (K (.p19 y1 (IntKind.wrap .i64 (y2 + (1 : Int))) y3 (y4 ++ [(IntKind.wrap .i64 (bt y1 y2))]))) (none)) (none)))))) (none)) (cond (room ((List.length y3) + (List.length [y4]))) (some ((y3 ++ [y4]), true)) (none))
  | .p51 y1 y2 y3 y4 y5 => cond y3 (some (([] : List (List (Int))), false)) (cond (inB y2 (ByteArray.size y1)) (cond (room ((List.length y5) + (List.length [(IntKind.wrap .i64 (bt y1 y2))]))) (K (.p19 y1 (IntKind.wrap .i64 (y2 + (1 : Int))) y4 (y5 ++ [(IntKind.wrap .i64 (bt y1 y2))]))) (none)) (none))
def spec_l2Alternatives (n : Nat) (a0 : ByteArray) : Option (Tup [(.sl false (.sl false (.int .i64))), .bool]) := goRec spec_l2Alternatives.step n (.p0 a0)
def spec_l2Alternatives.spec : Ctr := ⟨85, [.v .str], [(.sl false (.sl false (.int .i64))), .bool], [], none, fun n x => spec_l2Alternatives n x.1⟩
theorem spec_l2Alternatives.seg_eq : SegEq tyN gl spec_l2Alternatives.F spec_l2Alternatives.md spec_l2Alternatives.T spec_l2Alternatives.spec spec_l2Alternatives.lb spec_l2Alternatives.st spec_l2Alternatives.step := by
  intro n goto y; cases y <;> kernel_rfl
theorem spec_l2Alternatives.text : Text Go.Proofs.Try.prog spec_l2Alternatives.F spec_l2Alternatives.spec := textOf Go.Proofs.Try.f85
theorem spec_l2Alternatives.ok : CtrOK Go.Proofs.Try.prog gl spec_l2Alternatives.spec :=
  ctr_okS tabsN spec_l2Alternatives.text spec_l2Alternatives.seg_eq (fun n x => ⟨.p0 x.1, rfl, rfl, rfl⟩) (consC spec_l2Printed.ok (nilC))

/-! loop.example/g00039/spec.GoodPattern -/
def spec_GoodPattern.T : List Ctr := [spec_l2Alternatives.spec]
def spec_GoodPattern.md : List (Nat × List Md) := []
noncomputable def spec_GoodPattern.F : Fun := ⟨(Go.Proofs.Try.f78.body).getD .skip, [.v .str], [(.tmp 2, .bool)], [], 0, []⟩
inductive spec_GoodPattern.Pt where
  | p0 (a0 : ByteArray)
def spec_GoodPattern.lb : spec_GoodPattern.Pt → Nat
  | .p0 _ => 0
def spec_GoodPattern.st : spec_GoodPattern.Pt → St
  | .p0 a0 => enter [.v .str a0] 0
def spec_GoodPattern.step (n : Nat) (K : spec_GoodPattern.Pt → Option (Tup [.bool])) : spec_GoodPattern.Pt → Option (Tup [.bool])
  | .p0 a0 => (spec_l2Alternatives n a0).bind fun r4 => some r4.2
def spec_GoodPattern (n : Nat) (a0 : ByteArray) : Option (Tup [.bool]) := goRec spec_GoodPattern.step n (.p0 a0)
def spec_GoodPattern.spec : Ctr := ⟨78, [.v .str], [.bool], [], none, fun n x => spec_GoodPattern n x.1⟩
theorem spec_GoodPattern.seg_eq : SegEq tyN gl spec_GoodPattern.F spec_GoodPattern.md spec_GoodPattern.T spec_GoodPattern.spec spec_GoodPattern.lb spec_GoodPattern.st spec_GoodPattern.step := by
  intro n goto y; cases y <;> kernel_rfl
theorem spec_GoodPattern.text : Text Go.Proofs.Try.prog spec_GoodPattern.F spec_GoodPattern.spec := textOf Go.Proofs.Try.f78
theorem spec_GoodPattern.ok : CtrOK Go.Proofs.Try.prog gl spec_GoodPattern.spec :=
  ctr_okS tabsN spec_GoodPattern.text spec_GoodPattern.seg_eq (fun n x => ⟨.p0 x.1, rfl, rfl, rfl⟩) (consC spec_l2Alternatives.ok (nilC))

/-! loop.example/g00039/spec.GoodMatchers -/
def spec_GoodMatchers.T : List Ctr := [spec_l2Printed.spec, spec_l2Name.spec, spec_GoodPattern.spec]
def spec_GoodMatchers.md : List (Nat × List Md) := []
noncomputable def spec_GoodMatchers.F : Fun := ⟨(Go.Proofs.Try.f57.body).getD .skip, [.v (.sl false cU3)], [(.tmp 2, .bool)], [], 0, [(15, ⟨[8, 9, 10], [(8, cU3)], [], false⟩), (26, ⟨[8, 9, 10, 50], [(8, cU3)], [], false⟩)]⟩
inductive spec_GoodMatchers.Pt where
  | p0 (a0 : List (tU4))
  | p15 (y1 : List (tU4)) (y2 : Int) (y3 : Int)
  | p26 (y1 : List (tU4)) (y2 : Int) (y3 : Int) (y4 : Bool)
def spec_GoodMatchers.lb : spec_GoodMatchers.Pt → Nat
  | .p0 _ => 0
  | .p15 _ _ _ => 15
  | .p26 _ _ _ _ => 26
def spec_GoodMatchers.st : spec_GoodMatchers.Pt → St
  | .p0 a0 => enter [.v (.sl false cU3) a0] 0
  | .p15 y1 y2 y3 => ⟨[(8, .im (.sl false cU3) y1), (9, .im (.int .i64) y2), (10, .im (.int .i64) y3)], [], 0⟩
  | .p26 y1 y2 y3 y4 => ⟨[(8, .im (.sl false cU3) y1), (9, .im (.int .i64) y2), (10, .im (.int .i64) y3), (50, .im .bool y4)], [], 0⟩
def spec_GoodMatchers.step (n : Nat) (K : spec_GoodMatchers.Pt → Option (Tup [.bool])) : spec_GoodMatchers.Pt → Option (Tup [.bool])
  | .p0 a0 => cond (decide ((10 : Int) < ((List.length a0) : Int))) (some false) (K (.p15 a0 ((List.length a0) : Int) (0 : Int)))
  | .p15 y1 y2 y3 => cond (decide (y3 < y2)) (cond (inB y3 (List.length y1)) ((spec_l2Name n (List.getD y1 (Int.toNat y3) default).1).bind fun r6 => cond (!r6) (K (.p26 y1 y2 y3 true)) (cond (decide ((List.getD y1 (Int.toNat y3) default).2.1 < (1 : Int))) (K (.p26 y1 y2 y3 true)) (cond (decide ((4 : Int) < (List.getD y1 (Int.toNat y3) default).2.1)) (K (.p26 y1 y2 y3 true)) (cond (decide ((100 : Int) < ((ByteArray.size (List.getD y1 (Int.toNat y3) default).2.2.1) : Int))) (K (.p26 y1 y2 y3 true)) ((spec_l2Printed n (List.getD y1 (Int.toNat y3) default).2.2.1).bind fun r7 => cond (!r7) (K (.p26 y1 y2 y3 true)) (cond (decide ((3 : Int) ≤ (List.getD y1 (Int.toNat y3) default).2.1)) ((spec_GoodPattern n (List.getD y1 (Int.toNat y3) default).2.2.1).bind fun r8 => K (.p26 y1 y2 y3 (!r8))) (K (.p26 y1 y2 y3 false)))))))) (none)) (some true)
  | .p26 y1 y2 y3 y4 => cond y4 (some false) (K (.p15 y1 y2 (IntKind.wrap .i64 (y3 + (1 : Int)))))
def spec_GoodMatchers (n : Nat) (a0 : List (tU4)) : Option (Tup [.bool]) := goRec spec_GoodMatchers.step n (.p0 a0)
def spec_GoodMatchers.spec : Ctr := ⟨57, [.v (.sl false cU3)], [.bool], [], none, fun n x => spec_GoodMatchers n x.1⟩
theorem spec_GoodMatchers.seg_eq : SegEq tyN gl spec_GoodMatchers.F spec_GoodMatchers.md spec_GoodMatchers.T spec_GoodMatchers.spec spec_GoodMatchers.lb spec_GoodMatchers.st spec_GoodMatchers.step := by
  intro n goto y; cases y <;> kernel_rfl
theorem spec_GoodMatchers.text : Text Go.Proofs.Try.prog spec_GoodMatchers.F spec_GoodMatchers.spec := textOf Go.Proofs.Try.f57
theorem spec_GoodMatchers.ok : CtrOK Go.Proofs.Try.prog gl spec_GoodMatchers.spec :=
  ctr_okS tabsN spec_GoodMatchers.text spec_GoodMatchers.seg_eq (fun n x => ⟨.p0 x.1, rfl, rfl, rfl⟩) (consC spec_l2Printed.ok (consC spec_l2Name.ok (consC spec_GoodPattern.ok (nilC))))

/-! loop.example/g00039/spec.l3Time -/
def spec_l3Time.T : List Ctr := []
def spec_l3Time.md : List (Nat × List Md) := []
noncomputable def spec_l3Time.F : Fun := ⟨(Go.Proofs.Try.f15.body).getD .skip, [.v (.int .i64)], [(.tmp 2, .bool)], [], 0, []⟩
inductive spec_l3Time.Pt where
  | p0 (a0 : Int)
def spec_l3Time.lb : spec_l3Time.Pt → Nat
  | .p0 _ => 0
def spec_l3Time.st : spec_l3Time.Pt → St
  | .p0 a0 => enter [.v (.int .i64) a0] 0
def spec_l3Time.step (n : Nat) (K : spec_l3Time.Pt → Option (Tup [.bool])) : spec_l3Time.Pt → Option (Tup [.bool])
  | .p0 a0 => cond (decide ((0 : Int) ≤ a0)) (some (decide (a0 ≤ (1000000000000 : Int)))) (some false)
def spec_l3Time (n : Nat) (a0 : Int) : Option (Tup [.bool]) := goRec spec_l3Time.step n (.p0 a0)
def spec_l3Time.spec : Ctr := ⟨15, [.v (.int .i64)], [.bool], [], none, fun n x => spec_l3Time n x.1⟩
theorem spec_l3Time.seg_eq : SegEq tyN gl spec_l3Time.F spec_l3Time.md spec_l3Time.T spec_l3Time.spec spec_l3Time.lb spec_l3Time.st spec_l3Time.step := by
  intro n goto y; cases y <;> kernel_rfl
theorem spec_l3Time.text : Text Go.Proofs.Try.prog spec_l3Time.F spec_l3Time.spec := textOf Go.Proofs.Try.f15
theorem spec_l3Time.ok : CtrOK Go.Proofs.Try.prog gl spec_l3Time.spec :=
  ctr_okS tabsN spec_l3Time.text spec_l3Time.seg_eq (fun n x => ⟨.p0 x.1, rfl, rfl, rfl⟩) (nilC)

/-! loop.example/g00039/spec.l15Place -/
def spec_l15Place.T : List Ctr := [spec_l3Time.spec]
def spec_l15Place.md : List (Nat × List Md) := []
noncomputable def spec_l15Place.F : Fun := ⟨(Go.Proofs.Try.f58.body).getD .skip, [.v cU0], [(.tmp 2, .bool)], [], 0, []⟩
inductive spec_l15Place.Pt where
  | p0 (a0 : tU1)
def spec_l15Place.lb : spec_l15Place.Pt → Nat
  | .p0 _ => 0
def spec_l15Place.st : spec_l15Place.Pt → St
  | .p0 a0 => enter [.v cU0 a0] 0
def spec_l15Place.step (n : Nat) (K : spec_l15Place.Pt → Option (Tup [.bool])) : spec_l15Place.Pt → Option (Tup [.bool])
  | .p0 a0 => (spec_l3Time n a0.2.2.2.2.2.2.1).bind fun r4 => cond r4 (cond a0.2.2.2.2.2.2.2.1 ((spec_l3Time n a0.2.2.2.2.2.2.2.2.1).bind fun r5 => cond r5 (some true) (cond (!a0.2.2.2.2.2.2.2.1) (some (decide (a0.2.2.2.2.2.2.2.2.1 = (0 : Int)))) (some false))) (cond (!a0.2.2.2.2.2.2.2.1) (some (decide (a0.2.2.2.2.2.2.2.2.1 = (0 : Int)))) (some false))) (some false)
def spec_l15Place (n : Nat) (a0 : tU1) : Option (Tup [.bool]) := goRec spec_l15Place.step n (.p0 a0)
def spec_l15Place.spec : Ctr := ⟨58, [.v cU0], [.bool], [], none, fun n x => spec_l15Place n x.1⟩
theorem spec_l15Place.seg_eq : SegEq tyN gl spec_l15Place.F spec_l15Place.md spec_l15Place.T spec_l15Place.spec spec_l15Place.lb spec_l15Place.st spec_l15Place.step := by
  intro n goto y; cases y <;> kernel_rfl
theorem spec_l15Place.text : Text Go.Proofs.Try.prog spec_l15Place.F spec_l15Place.spec := textOf Go.Proofs.Try.f58
theorem spec_l15Place.ok : CtrOK Go.Proofs.Try.prog gl spec_l15Place.spec :=
  ctr_okS tabsN spec_l15Place.text spec_l15Place.seg_eq (fun n x => ⟨.p0 x.1, rfl, rfl, rfl⟩) (consC spec_l3Time.ok (nilC))

/-! loop.example/g00039/spec.l15Compare -/
def spec_l15Compare.T : List Ctr := []
def spec_l15Compare.md : List (Nat × List Md) := []
noncomputable def spec_l15Compare.F : Fun := ⟨(Go.Proofs.Try.f59.body).getD .skip, [.v (.int .i64)], [(.tmp 2, .bool)], [], 0, []⟩
inductive spec_l15Compare.Pt where
  | p0 (a0 : Int)
def spec_l15Compare.lb : spec_l15Compare.Pt → Nat
  | .p0 _ => 0
def spec_l15Compare.st : spec_l15Compare.Pt → St
  | .p0 a0 => enter [.v (.int .i64) a0] 0
def spec_l15Compare.step (n : Nat) (K : spec_l15Compare.Pt → Option (Tup [.bool])) : spec_l15Compare.Pt → Option (Tup [.bool])
  | .p0 a0 => cond (decide ((6 : Int) ≤ a0)) (some (decide (a0 ≤ (11 : Int)))) (some false)
def spec_l15Compare (n : Nat) (a0 : Int) : Option (Tup [.bool]) := goRec spec_l15Compare.step n (.p0 a0)
def spec_l15Compare.spec : Ctr := ⟨59, [.v (.int .i64)], [.bool], [], none, fun n x => spec_l15Compare n x.1⟩
theorem spec_l15Compare.seg_eq : SegEq tyN gl spec_l15Compare.F spec_l15Compare.md spec_l15Compare.T spec_l15Compare.spec spec_l15Compare.lb spec_l15Compare.st spec_l15Compare.step := by
  intro n goto y; cases y <;> kernel_rfl
theorem spec_l15Compare.text : Text Go.Proofs.Try.prog spec_l15Compare.F spec_l15Compare.spec := textOf Go.Proofs.Try.f59
theorem spec_l15Compare.ok : CtrOK Go.Proofs.Try.prog gl spec_l15Compare.spec :=
  ctr_okS tabsN spec_l15Compare.text spec_l15Compare.seg_eq (fun n x => ⟨.p0 x.1, rfl, rfl, rfl⟩) (nilC)

/-! loop.example/g00039/spec.l2CmpNum -/
def spec_l2CmpNum.T : List Ctr := []
def spec_l2CmpNum.md : List (Nat × List Md) := []
noncomputable def spec_l2CmpNum.F : Fun := ⟨(Go.Proofs.Try.f88.body).getD .skip, [.v (.int .i64), .v (.int .i64)], [(.tmp 4, (.int .i64))], [], 0, []⟩
inductive spec_l2CmpNum.Pt where
  | p0 (a0 : Int) (a1 : Int)
def spec_l2CmpNum.lb : spec_l2CmpNum.Pt → Nat
  | .p0 _ _ => 0
def spec_l2CmpNum.st : spec_l2CmpNum.Pt → St
  | .p0 a0 a1 => enter [.v (.int .i64) a0, .v (.int .i64) a1] 0
def spec_l2CmpNum.step (n : Nat) (K : spec_l2CmpNum.Pt → Option (Tup [(.int .i64)])) : spec_l2CmpNum.Pt → Option (Tup [(.int .i64)])
  | .p0 a0 a1 => cond (decide (a0 < a1)) (some (-(1 : Int))) (cond (decide (a1 < a0)) (some (1 : Int)) (some (0 : Int)))
def spec_l2CmpNum (n : Nat) (a0 : Int) (a1 : Int) : Option (Tup [(.int .i64)]) := goRec spec_l2CmpNum.step n (.p0 a0 a1)
def spec_l2CmpNum.spec : Ctr := ⟨88, [.v (.int .i64), .v (.int .i64)], [(.int .i64)], [], none, fun n x => spec_l2CmpNum n x.1 x.2.1⟩
theorem spec_l2CmpNum.seg_eq : SegEq tyN gl spec_l2CmpNum.F spec_l2CmpNum.md spec_l2CmpNum.T spec_l2CmpNum.spec spec_l2CmpNum.lb spec_l2CmpNum.st spec_l2CmpNum.step := by
  intro n goto y; cases y <;> kernel_rfl
theorem spec_l2CmpNum.text : Text Go.Proofs.Try.prog spec_l2CmpNum.F spec_l2CmpNum.spec := textOf Go.Proofs.Try.f88
theorem spec_l2CmpNum.ok : CtrOK Go.Proofs.Try.prog gl spec_l2CmpNum.spec :=
  ctr_okS tabsN spec_l2CmpNum.text spec_l2CmpNum.seg_eq (fun n x => ⟨.p0 x.1 x.2.1, rfl, rfl, rfl⟩) (nilC)

/-! loop.example/g00039/spec.l2CmpText -/
def spec_l2CmpText.T : List Ctr := [spec_l2CmpNum.spec]
def spec_l2CmpText.md : List (Nat × List Md) := []
noncomputable def spec_l2CmpText.F : Fun := ⟨(Go.Proofs.Try.f86.body).getD .skip, [.v .str, .v .str], [(.tmp 4, (.int .i64))], [], 0, [(7, ⟨[0, 1, 5], [], [], false⟩), (9, ⟨[0, 1, 5, 15], [], [], false⟩)]⟩
inductive spec_l2CmpText.Pt where
  | p0 (a0 : ByteArray) (a1 : ByteArray)
  | p7 (y1 : ByteArray) (y2 : ByteArray) (y3 : Int)
  | p9 (y1 : ByteArray) (y2 : ByteArray) (y3 : Int) (y4 : Bool)
def spec_l2CmpText.lb : spec_l2CmpText.Pt → Nat
  | .p0 _ _ => 0
  | .p7 _ _ _ => 7
  | .p9 _ _ _ _ => 9
def spec_l2CmpText.st : spec_l2CmpText.Pt → St
  | .p0 a0 a1 => enter [.v .str a0, .v .str a1] 0
  | .p7 y1 y2 y3 => ⟨[(0, .im .str y1), (1, .im .str y2), (5, .im (.int .i64) y3)], [], 0⟩
  | .p9 y1 y2 y3 y4 => ⟨[(0, .im .str y1), (1, .im .str y2), (5, .im (.int .i64) y3), (15, .im .bool y4)], [], 0⟩
def spec_l2CmpText.step (n : Nat) (K : spec_l2CmpText.Pt → Option (Tup [(.int .i64)])) : spec_l2CmpText.Pt → Option (Tup [(.int .i64)])
  | .p0 a0 a1 => K (.p7 a0 a1 (0 : Int))
  | .p7 y1 y2 y3 => cond (decide (y3 < ((ByteArray.size y1) : Int))) (K (.p9 y1 y2 y3 (decide (y3 < ((ByteArray.size y2) : Int))))) (K (.p9 y1 y2 y3 false))
  | .p9 y1 y2 y3 y4 => cond y4 (cond (inB y3 (ByteArray.size y1)) (cond (inB y3 (ByteArray.size y2)) (cond (!(decide ((bt y1 y3) = (bt y2 y3)))) (cond (inB y3 (ByteArray.size y1)) (cond (inB y3 (ByteArray.size y2)) ((spec_l2CmpNum n (IntKind.wrap .i64 (bt y1 y3)) (IntKind.wrap .i64 (bt y2 y3))).bind fun (r7 : Int) => some r7) (none)) (none)) (K (.p7 y1 y2 (IntKind.wrap .i64 (y3 + (1 : Int)))))) (none)) (none)) ((spec_l2CmpNum n ((ByteArray.size y1) : Int) ((ByteArray.size y2) : Int)).bind fun (r7 : Int) => some r7)
def spec_l2CmpText (n : Nat) (a0 : ByteArray) (a1 : ByteArray) : Option (Tup [(.int .i64)]) := goRec spec_l2CmpText.step n (.p0 a0 a1)
def spec_l2CmpText.spec : Ctr := ⟨86, [.v .str, .v .str], [(.int .i64)], [], none, fun n x => spec_l2CmpText n x.1 x.2.1⟩
theorem spec_l2CmpText.seg_eq : SegEq tyN gl spec_l2CmpText.F spec_l2CmpText.md spec_l2CmpText.T spec_l2CmpText.spec spec_l2CmpText.lb spec_l2CmpText.st spec_l2CmpText.step := by
  intro n goto y; cases y <;> kernel_rfl
theorem spec_l2CmpText.text : Text Go.Proofs.Try.prog spec_l2CmpText.F spec_l2CmpText.spec := textOf Go.Proofs.Try.f86
theorem spec_l2CmpText.ok : CtrOK Go.Proofs.Try.prog gl spec_l2CmpText.spec :=
  ctr_okS tabsN spec_l2CmpText.text spec_l2CmpText.seg_eq (fun n x => ⟨.p0 x.1 x.2.1, rfl, rfl, rfl⟩) (consC spec_l2CmpNum.ok (nilC))

/-! loop.example/g00039/spec.l2Rising -/
def spec_l2Rising.T : List Ctr := [spec_l2CmpText.spec]
def spec_l2Rising.md : List (Nat × List Md) := []
noncomputable def spec_l2Rising.F : Fun := ⟨(Go.Proofs.Try.f79.body).getD .skip, [.v (.sl false .str)], [(.tmp 2, .bool)], [], 0, [(7, ⟨[0, 3], [], [], false⟩)]⟩
inductive spec_l2Rising.Pt where
  | p0 (a0 : List (ByteArray))
  | p7 (y1 : List (ByteArray)) (y2 : Int)
def spec_l2Rising.lb : spec_l2Rising.Pt → Nat
  | .p0 _ => 0
  | .p7 _ _ => 7
def spec_l2Rising.st : spec_l2Rising.Pt → St
  | .p0 a0 => enter [.v (.sl false .str) a0] 0
  | .p7 y1 y2 => ⟨[(0, .im (.sl false .str) y1), (3, .im (.int .i64) y2)], [], 0⟩
def spec_l2Rising.step (n : Nat) (K : spec_l2Rising.Pt → Option (Tup [.bool])) : spec_l2Rising.Pt → Option (Tup [.bool])
  | .p0 a0 => K (.p7 a0 (1 : Int))
  | .p7 y1 y2 => cond (decide (y2 < ((List.length y1) : Int))) (cond (inB (IntKind.wrap .i64 (y2 - (1 : Int))) (List.length y1)) (cond (inB y2 (List.length y1)) ((spec_l2CmpText n (List.getD y1 (Int.toNat (IntKind.wrap .i64 (y2 - (1 : Int)))) default) (List.getD y1 (Int.toNat y2) default)).bind fun (r5 : Int) => cond (decide ((0 : Int) ≤ r5)) (some false) (K (.p7 y1 (IntKind.wrap .i64 (y2 + (1 : Int)))))) (none)) (none)) (some true)
def spec_l2Rising (n : Nat) (a0 : List (ByteArray)) : Option (Tup [.bool]) := goRec spec_l2Rising.step n (.p0 a0)
def spec_l2Rising.spec : Ctr := ⟨79, [.v (.sl false .str)], [.bool], [], none, fun n x => spec_l2Rising n x.1⟩
theorem spec_l2Rising.seg_eq : SegEq tyN gl spec_l2Rising.F spec_l2Rising.md spec_l2Rising.T spec_l2Rising.spec spec_l2Rising.lb spec_l2Rising.st spec_l2Rising.step := by
  intro n goto y; cases y <;> kernel_rfl
theorem spec_l2Rising.text : Text Go.Proofs.Try.prog spec_l2Rising.F spec_l2Rising.spec := textOf Go.Proofs.Try.f79
theorem spec_l2Rising.ok : CtrOK Go.Proofs.Try.prog gl spec_l2Rising.spec :=
  ctr_okS tabsN spec_l2Rising.text spec_l2Rising.seg_eq (fun n x => ⟨.p0 x.1, rfl, rfl, rfl⟩) (consC spec_l2CmpText.ok (nilC))

/-! loop.example/g00039/spec.l15Names -/
def spec_l15Names.T : List Ctr := [spec_l2Name.spec, spec_l2Rising.spec]
def spec_l15Names.md : List (Nat × List Md) := []
noncomputable def spec_l15Names.F : Fun := ⟨(Go.Proofs.Try.f61.body).getD .skip, [.v (.sl false .str)], [(.tmp 2, .bool)], [], 0, [(7, ⟨[0, 5, 6, 7], [(5, .str)], [], false⟩)]⟩
inductive spec_l15Names.Pt where
  | p0 (a0 : List (ByteArray))
  | p7 (y1 : List (ByteArray)) (y2 : List (ByteArray)) (y3 : Int) (y4 : Int)
def spec_l15Names.lb : spec_l15Names.Pt → Nat
  | .p0 _ => 0
  | .p7 _ _ _ _ => 7
def spec_l15Names.st : spec_l15Names.Pt → St
  | .p0 a0 => enter [.v (.sl false .str) a0] 0
  | .p7 y1 y2 y3 y4 => ⟨[(0, .im (.sl false .str) y1), (5, .im (.sl false .str) y2), (6, .im (.int .i64) y3), (7, .im (.int .i64) y4)], [], 0⟩
def spec_l15Names.step (n : Nat) (K : spec_l15Names.Pt → Option (Tup [.bool])) : spec_l15Names.Pt → Option (Tup [.bool])
  | .p0 a0 => K (.p7 a0 a0 ((List.length a0) : Int) (0 : Int))
  | .p7 y1 y2 y3 y4 => cond (decide (y4 < y3)) (cond (inB y4 (List.length y2)) ((spec_l2Name n (List.getD y2 (Int.toNat y4) default)).bind fun r7 => cond (!r7) (some false) (K (.p7 y1 y2 y3 (IntKind.wrap .i64 (y4 + (1 : Int)))))) (none)) (cond (decide (((List.length y1) : Int) ≤ (10 : Int))) ((spec_l2Rising n y1).bind fun r7 => some r7) (some false))
def spec_l15Names (n : Nat) (a0 : List (ByteArray)) : Option (Tup [.bool]) := goRec spec_l15Names.step n (.p0 a0)
def spec_l15Names.spec : Ctr := ⟨61, [.v (.sl false .str)], [.bool], [], none, fun n x => spec_l15Names n x.1⟩
theorem spec_l15Names.seg_eq : SegEq tyN gl spec_l15Names.F spec_l15Names.md spec_l15Names.T spec_l15Names.spec spec_l15Names.lb spec_l15Names.st spec_l15Names.step := by
  intro n goto y; cases y <;> kernel_rfl
theorem spec_l15Names.text : Text Go.Proofs.Try.prog spec_l15Names.F spec_l15Names.spec := textOf Go.Proofs.Try.f61
theorem spec_l15Names.ok : CtrOK Go.Proofs.Try.prog gl spec_l15Names.spec :=
  ctr_okS tabsN spec_l15Names.text spec_l15Names.seg_eq (fun n x => ⟨.p0 x.1, rfl, rfl, rfl⟩) (consC spec_l2Name.ok (consC spec_l2Rising.ok (nilC)))

/-! loop.example/g00039/spec.l15By -/
def spec_l15By.T : List Ctr := [spec_l15Names.spec]
def spec_l15By.md : List (Nat × List Md) := []
noncomputable def spec_l15By.F : Fun := ⟨(Go.Proofs.Try.f60.body).getD .skip, [.v cU0], [(.tmp 2, .bool)], [], 0, []⟩
inductive spec_l15By.Pt where
  | p0 (a0 : tU1)
def spec_l15By.lb : spec_l15By.Pt → Nat
  | .p0 _ => 0
def spec_l15By.st : spec_l15By.Pt → St
  | .p0 a0 => enter [.v cU0 a0] 0
def spec_l15By.step (n : Nat) (K : spec_l15By.Pt → Option (Tup [.bool])) : spec_l15By.Pt → Option (Tup [.bool])
  | .p0 a0 => cond (decide ((0 : Int) ≤ a0.2.2.2.2.2.2.2.2.2.2.1)) (cond (decide (a0.2.2.2.2.2.2.2.2.2.2.1 ≤ (2 : Int))) ((spec_l15Names n a0.2.2.2.2.2.2.2.2.2.2.2.1).bind fun r4 => cond r4 (cond (!(decide (a0.2.2.2.2.2.2.2.2.2.2.1 = (0 : Int)))) (some true) (some (decide (((List.length a0.2.2.2.2.2.2.2.2.2.2.2.1) : Int) = (0 : Int))))) (some false)) (some false)) (some false)
def spec_l15By (n : Nat) (a0 : tU1) : Option (Tup [.bool]) := goRec spec_l15By.step n (.p0 a0)
def spec_l15By.spec : Ctr := ⟨60, [.v cU0], [.bool], [], none, fun n x => spec_l15By n x.1⟩
theorem spec_l15By.seg_eq : SegEq tyN gl spec_l15By.F spec_l15By.md spec_l15By.T spec_l15By.spec spec_l15By.lb spec_l15By.st spec_l15By.step := by
  intro n goto y; cases y <;> kernel_rfl
theorem spec_l15By.text : Text Go.Proofs.Try.prog spec_l15By.F spec_l15By.spec := textOf Go.Proofs.Try.f60
theorem spec_l15By.ok : CtrOK Go.Proofs.Try.prog gl spec_l15By.spec :=
  ctr_okS tabsN spec_l15By.text spec_l15By.seg_eq (fun n x => ⟨.p0 x.1, rfl, rfl, rfl⟩) (consC spec_l15Names.ok (nilC))

/-! loop.example/g00039/spec.l15Node -/
def spec_l15Node.T : List Ctr := [spec_l15Zero.spec, spec_l15SameNode.spec, spec_l2Printed.spec, spec_l2Name.spec, spec_l15Functions.spec, spec_l2Has.spec, spec_l15Word.spec, spec_GoodMatchers.spec, spec_l15Place.spec, spec_l15Compare.spec, spec_l15Names.spec, spec_l15By.spec]
def spec_l15Node.md : List (Nat × List Md) := []
noncomputable def spec_l15Node.F : Fun := ⟨(Go.Proofs.Try.f39.body).getD .skip, [.v cU0], [(.tmp 2, .bool)], [], 0, [(93, ⟨[1, 5], [], [(1, 5, (.bs cU3)), (1, 11, (.bs .str)), (1, 13, (.bs .str))], false⟩), (78, ⟨[1, 182], [], [(1, 5, (.bs cU3)), (1, 11, (.bs .str)), (1, 13, (.bs .str))], false⟩), (34, ⟨[1, 42, 43, 44], [(42, cU3)], [(1, 5, (.bs cU3)), (1, 11, (.bs .str)), (1, 13, (.bs .str))], false⟩)]⟩
inductive spec_l15Node.Pt where
  | p0 (a0 : tU1)
  | p34 (y1 : List (tU4)) (y2 : Int) (y3 : Int) (y4 : Int) (y5 : Int) (y6 : Int) (y7 : ByteArray) (y8 : Int) (y9 : List (tU4)) (y10 : Int) (y11 : Bool) (y12 : Int) (y13 : Bool) (y14 : Int) (y15 : List (ByteArray)) (y16 : Int) (y17 : List (ByteArray)) (y18 : Int)
  | p78 (y1 : Bool) (y2 : Int) (y3 : Int) (y4 : Int) (y5 : ByteArray) (y6 : Int) (y7 : List (tU4)) (y8 : Int) (y9 : Bool) (y10 : Int) (y11 : Bool) (y12 : Int) (y13 : List (ByteArray)) (y14 : Int) (y15 : List (ByteArray)) (y16 : Int)
  | p93 (y1 : Int) (y2 : Int) (y3 : Int) (y4 : Int) (y5 : ByteArray) (y6 : Int) (y7 : List (tU4)) (y8 : Int) (y9 : Bool) (y10 : Int) (y11 : Bool) (y12 : Int) (y13 : List (ByteArray)) (y14 : Int) (y15 : List (ByteArray)) (y16 : Int)
def spec_l15Node.lb : spec_l15Node.Pt → Nat
  | .p0 _ => 0
  | .p34 _ _ _ _ _ _ _ _ _ _ _ _ _ _ _ _ _ _ => 34
  | .p78 _ _ _ _ _ _ _ _ _ _ _ _ _ _ _ _ => 78
  | .p93 _ _ _ _ _ _ _ _ _ _ _ _ _ _ _ _ => 93
def spec_l15Node.st : spec_l15Node.Pt → St
  | .p0 a0 => enter [.v cU0 a0] 0
  | .p34 y1 y2 y3 y4 y5 y6 y7 y8 y9 y10 y11 y12 y13 y14 y15 y16 y17 y18 => ⟨[(1, .po 0 0), (42, .im (.bs cU3) y1), (43, .im (.int .i64) y2), (44, .im (.int .i64) y3)], [(0, .obj [.im (.int .i64) y4, .im (.int .i64) y5, .im (.int .i64) y6, .im .str y7, .im (.int .i64) y8, .im (.bs cU3) y9, .im (.int .i64) y10, .im .bool y11, .im (.int .i64) y12, .im .bool y13, .im (.int .i64) y14, .im (.bs .str) y15, .im (.int .i64) y16, .im (.bs .str) y17, .im (.int .i64) y18])], 1⟩
  | .p78 y1 y2 y3 y4 y5 y6 y7 y8 y9 y10 y11 y12 y13 y14 y15 y16 => ⟨[(1, .po 0 0), (182, .im .bool y1)], [(0, .obj [.im (.int .i64) y2, .im (.int .i64) y3, .im (.int .i64) y4, .im .str y5, .im (.int .i64) y6, .im (.bs cU3) y7, .im (.int .i64) y8, .im .bool y9, .im (.int .i64) y10, .im .bool y11, .im (.int .i64) y12, .im (.bs .str) y13, .im (.int .i64) y14, .im (.bs .str) y15, .im (.int .i64) y16])], 1⟩
  | .p93 y1 y2 y3 y4 y5 y6 y7 y8 y9 y10 y11 y12 y13 y14 y15 y16 => ⟨[(1, .po 0 0), (5, .im (.int .i64) y1)], [(0, .obj [.im (.int .i64) y2, .im (.int .i64) y3, .im (.int .i64) y4, .im .str y5, .im (.int .i64) y6, .im (.bs cU3) y7, .im (.int .i64) y8, .im .bool y9, .im (.int .i64) y10, .im .bool y11, .im (.int .i64) y12, .im (.bs .str) y13, .im (.int .i64) y14, .im (.bs .str) y15, .im (.int .i64) y16])], 1⟩
def spec_l15Node.step (n : Nat) (K : spec_l15Node.Pt → Option (Tup [.bool])) : spec_l15Node.Pt → Option (Tup [.bool])
  | .p0 a0 => (spec_l15Zero n (a0.1, (a0.2.1, (a0.2.2.1, (a0.2.2.2.1, (a0.2.2.2.2.1, (a0.2.2.2.2.2.1, (a0.2.2.2.2.2.2.1, (a0.2.2.2.2.2.2.2.1, (a0.2.2.2.2.2.2.2.2.1, (a0.2.2.2.2.2.2.2.2.2.1, (a0.2.2.2.2.2.2.2.2.2.2.1, (a0.2.2.2.2.2.2.2.2.2.2.2.1, (a0.2.2.2.2.2.2.2.2.2.2.2.2.1, (a0.2.2.2.2.2.2.2.2.2.2.2.2.2.1, a0.2.2.2.2.2.2.2.2.2.2.2.2.2.2))))))))))))))).bind fun r4 => (spec_l15SameNode n (a0.1, (a0.2.1, (a0.2.2.1, (a0.2.2.2.1, (a0.2.2.2.2.1, (a0.2.2.2.2.2.1, (a0.2.2.2.2.2.2.1, (a0.2.2.2.2.2.2.2.1, (a0.2.2.2.2.2.2.2.2.1, (a0.2.2.2.2.2.2.2.2.2.1, (a0.2.2.2.2.2.2.2.2.2.2.1, (a0.2.2.2.2.2.2.2.2.2.2.2.1, (a0.2.2.2.2.2.2.2.2.2.2.2.2.1, (a0.2.2.2.2.2.2.2.2.2.2.2.2.2.1, a0.2.2.2.2.2.2.2.2.2.2.2.2.2.2)))))))))))))) (r4.1, (r4.2.1, (r4.2.2.1, (r4.2.2.2.1, (r4.2.2.2.2.1, (r4.2.2.2.2.2.1, (r4.2.2.2.2.2.2.1, (r4.2.2.2.2.2.2.2.1, (r4.2.2.2.2.2.2.2.2.1, (r4.2.2.2.2.2.2.2.2.2.1, (r4.2.2.2.2.2.2.2.2.2.2.1, (r4.2.2.2.2.2.2.2.2.2.2.2.1, (r4.2.2.2.2.2.2.2.2.2.2.2.2.1, (r4.2.2.2.2.2.2.2.2.2.2.2.2.2.1, r4.2.2.2.2.2.2.2.2.2.2.2.2.2.2))))))))))))))).bind fun r5 => cond (!r5) (some false) (cond (decide (a0.1 = (1 : Int))) (cond (decide ((0 : Int) ≤ a0.2.1)) (some (decide (a0.2.2.2.2.2.2.2.2.2.2.2.2.2.2.1 = (0 : Int)))) (some false)) (cond (decide (a0.1 = (2 : Int))) (cond (decide (((ByteArray.size a0.2.2.2.1) : Int) ≤ (100 : Int))) ((spec_l2Printed n a0.2.2.2.1).bind fun r6 => cond r6 (some (decide (a0.2.2.2.2.2.2.2.2.2.2.2.2.2.2.1 = (0 : Int)))) (some false)) (some false)) (cond (decide (a0.1 = (3 : Int))) (K (.p34 a0.2.2.2.2.2.1 ((List.length a0.2.2.2.2.2.1) : Int) (0 : Int) a0.1 a0.2.1 a0.2.2.1 a0.2.2.2.1 a0.2.2.2.2.1 a0.2.2.2.2.2.1 a0.2.2.2.2.2.2.1 a0.2.2.2.2.2.2.2.1 a0.2.2.2.2.2.2.2.2.1 a0.2.2.2.2.2.2.2.2.2.1 a0.2.2.2.2.2.2.2.2.2.2.1 a0.2.2.2.2.2.2.2.2.2.2.2.1 a0.2.2.2.2.2.2.2.2.2.2.2.2.1 a0.2.2.2.2.2.2.2.2.2.2.2.2.2.1 a0.2.2.2.2.2.2.2.2.2.2.2.2.2.2.1)) (cond (decide (a0.1 = (4 : Int))) (cond (decide (a0.2.2.2.2.2.2.2.2.2.2.2.2.2.2.1 = (1 : Int))) (cond (decide ((1 : Int) ≤ a0.2.1)) (some (decide (a0.2.1 ≤ (1000000000000 : Int)))) (some false)) (some false)) (cond (decide (a0.1 = (5 : Int))) (cond (decide (a0.2.2.2.2.2.2.2.2.2.2.2.2.2.2.1 = (1 : Int))) (cond (decide ((1 : Int) ≤ a0.2.1)) (cond (decide (a0.2.1 ≤ (1000000000000 : Int))) (cond (decide ((1 : Int) ≤ a0.2.2.1)) (cond (decide (a0.2.2.1 ≤ a0.2.1)) ((spec_l15Place n (a0.1, (a0.2.1, (a0.2.2.1, (a0.2.2.2.1, (a0.2.2.2.2.1, (a0.2.2.2.2.2.1, (a0.2.2.2.2.2.2.1, (a0.2.2.2.2.2.2.2.1, (a0.2.2.2.2.2.2.2.2.1, (a0.2.2.2.2.2.2.2.2.2.1, (a0.2.2.2.2.2.2.2.2.2.2.1, (a0.2.2.2.2.2.2.2.2.2.2.2.1, (a0.2.2.2.2.2.2.2.2.2.2.2.2.1, (a0.2.2.2.2.2.2.2.2.2.2.2.2.2.1, a0.2.2.2.2.2.2.2.2.2.2.2.2.2.2))))))))))))))).bind fun r6 => some r6) (some false)) (some false)) (some false)) (some false)) (some false)) (cond (decide (a0.1 = (6 : Int))) (some (decide (a0.2.2.2.2.2.2.2.2.2.2.2.2.2.2.1 = (1 : Int)))) (cond (decide (a0.1 = (7 : Int))) (cond (!(decide (a0.2.2.2.2.2.2.2.2.2.2.2.2.2.2.1 = (2 : Int)))) (K (.p78 true a0.1 a0.2.1 a0.2.2.1 a0.2.2.2.1 a0.2.2.2.2.1 a0.2.2.2.2.2.1 a0.2.2.2.2.2.2.1 a0.2.2.2.2.2.2.2.1 a0.2.2.2.2.2.2.2.2.1 a0.2.2.2.2.2.2.2.2.2.1 a0.2.2.2.2.2.2.2.2.2.2.1 a0.2.2.2.2.2.2.2.2.2.2.2.1 a0.2.2.2.2.2.2.2.2.2.2.2.2.1 a0.2.2.2.2.2.2.2.2.2.2.2.2.2.1 a0.2.2.2.2.2.2.2.2.2.2.2.2.2.2.1)) (cond (decide (a0.2.2.2.2.1 < (1 : Int))) (K (.p78 true a0.1 a0.2.1 a0.2.2.1 a0.2.2.2.1 a0.2.2.2.2.1 a0.2.2.2.2.2.1 a0.2.2.2.2.2.2.1 a0.2.2.2.2.2.2.2.1 a0.2.2.2.2.2.2.2.2.1 a0.2.2.2.2.2.2.2.2.2.1 a0.2.2.2.2.2.2.2.2.2.2.1 a0.2.2.2.2.2.2.2.2.2.2.2.1 a0.2.2.2.2.2.2.2.2.2.2.2.2.1 a0.2.2.2.2.2.2.2.2.2.2.2.2.2.1 a0.2.2.2.2.2.2.2.2.2.2.2.2.2.2.1)) (cond (decide ((14 : Int) < a0.2.2.2.2.1)) (K (.p78 true a0.1 a0.2.1 a0.2.2.1 a0.2.2.2.1 a0.2.2.2.2.1 a0.2.2.2.2.2.1 a0.2.2.2.2.2.2.1 a0.2.2.2.2.2.2.2.1 a0.2.2.2.2.2.2.2.2.1 a0.2.2.2.2.2.2.2.2.2.1 a0.2.2.2.2.2.2.2.2.2.2.1 a0.2.2.2.2.2.2.2.2.2.2.2.1 a0.2.2.2.2.2.2.2.2.2.2.2.2.1 a0.2.2.2.2.2.2.2.2.2.2.2.2.2.1 a0.2.2.2.2.2.2.2.2.2.2.2.2.2.2.1)) (cond a0.2.2.2.2.2.2.2.2.2.1 ((spec_l15Compare n a0.2.2.2.2.1).bind fun r6 => cond (!r6) (K (.p78 true a0.1 a0.2.1 a0.2.2.1 a0.2.2.2.1 a0.2.2.2.2.1 a0.2.2.2.2.2.1 a0.2.2.2.2.2.2.1 a0.2.2.2.2.2.2.2.1 a0.2.2.2.2.2.2.2.2.1 a0.2.2.2.2.2.2.2.2.2.1 a0.2.2.2.2.2.2.2.2.2.2.1 a0.2.2.2.2.2.2.2.2.2.2.2.1 a0.2.2.2.2.2.2.2.2.2.2.2.2.1 a0.2.2.2.2.2.2.2.2.2.2.2.2.2.1 a0.2.2.2.2.2.2.2.2.2.2.2.2.2.2.1)) ((spec_l15By n (a0.1, (a0.2.1, (a0.2.2.1, (a0.2.2.2.1, (a0.2.2.2.2.1, (a0.2.2.2.2.2.1, (a0.2.2.2.2.2.2.1, (a0.2.2.2.2.2.2.2.1, (a0.2.2.2.2.2.2.2.2.1, (a0.2.2.2.2.2.2.2.2.2.1, (a0.2.2.2.2.2.2.2.2.2.2.1, (a0.2.2.2.2.2.2.2.2.2.2.2.1, (a0.2.2.2.2.2.2.2.2.2.2.2.2.1, (a0.2.2.2.2.2.2.2.2.2.2.2.2.2.1, a0.2.2.2.2.2.2.2.2.2.2.2.2.2.2))))))))))))))).bind fun r7 => cond (!r7) (K (.p78 true a0.1 a0.2.1 a0.2.2.1 a0.2.2.2.1 a0.2.2.2.2.1 a0.2.2.2.2.2.1 a0.2.2.2.2.2.2.1 a0.2.2.2.2.2.2.2.1 a0.2.2.2.2.2.2.2.2.1 a0.2.2.2.2.2.2.2.2.2.1 a0.2.2.2.2.2.2.2.2.2.2.1 a0.2.2.2.2.2.2.2.2.2.2.2.1 a0.2.2.2.2.2.2.2.2.2.2.2.2.1 a0.2.2.2.2.2.2.2.2.2.2.2.2.2.1 a0.2.2.2.2.2.2.2.2.2.2.2.2.2.2.1)) (cond (decide (a0.2.2.2.2.2.2.2.2.2.2.2.2.1 < (0 : Int))) (K (.p78 true a0.1 a0.2.1 a0.2.2.1 a0.2.2.2.1 a0.2.2.2.2.1 a0.2.2.2.2.2.1 a0.2.2.2.2.2.2.1 a0.2.2.2.2.2.2.2.1 a0.2.2.2.2.2.2.2.2.1 a0.2.2.2.2.2.2.2.2.2.1 a0.2.2.2.2.2.2.2.2.2.2.1 a0.2.2.2.2.2.2.2.2.2.2.2.1 a0.2.2.2.2.2.2.2.2.2.2.2.2.1 a0.2.2.2.2.2.2.2.2.2.2.2.2.2.1 a0.2.2.2.2.2.2.2.2.2.2.2.2.2.2.1)) (K (.p78 (decide ((2 : Int) < a0.2.2.2.2.2.2.2.2.2.2.2.2.1)) a0.1 a0.2.1 a0.2.2.1 a0.2.2.2.1 a0.2.2.2.2.1 a0.2.2.2.2.2.1 a0.2.2.2.2.2.2.1 a0.2.2.2.2.2.2.2.1 a0.2.2.2.2.2.2.2.2.1 a0.2.2.2.2.2.2.2.2.2.1 a0.2.2.2.2.2.2.2.2.2.2.1 a0.2.2.2.2.2.2.2.2.2.2.2.1 a0.2.2.2.2.2.2.2.2.2.2.2.2.1 a0.2.2.2.2.2.2.2.2.2.2.2.2.2.1 a0.2.2.2.2.2.2.2.2.2.2.2.2.2.2.1))))) ((spec_l15By n (a0.1, (a0.2.1, (a0.2.2.1, (a0.2.2.2.1, (a0.2.2.2.2.1, (a0.2.2.2.2.2.1, (a0.2.2.2.2.2.2.1, (a0.2.2.2.2.2.2.2.1, (a0.2.2.2.2.2.2.2.2.1, (a0.2.2.2.2.2.2.2.2.2.1, (a0.2.2.2.2.2.2.2.2.2.2.1, (a0.2.2.2.2.2.2.2.2.2.2.2.1, (a0.2.2.2.2.2.2.2.2.2.2.2.2.1, (a0.2.2.2.2.2.2.2.2.2.2.2.2.2.1, a0.2.2.2.2.2.2.2.2.2.2.2.2.2.2))))))))))))))).bind fun r6 => cond (!r6) (K (.p78 true a0.1 a0.2.1 a0.2.2.1 a0.2.2.2.1 a0.2.2.2.2.1 a0.2.2.2.2.2.1 a0.2.2.2.2.2.2.1 a0.2.2.2.2.2.2.2.1 a0.2.2.2.2.2.2.2.2.1 a0.2.2.2.2.2.2.2.2.2.1 a0.2.2.2.2.2.2.2.2.2.2.1 a0.2.2.2.2.2.2.2.2.2.2.2.1 a0.2.2.2.2.2.2.2.2.2.2.2.2.1 a0.2.2.2.2.2.2.2.2.2.2.2.2.2.1 a0.2.2.2.2.2.2.2.2.2.2.2.2.2.2.1)) (cond (decide (a0.2.2.2.2.2.2.2.2.2.2.2.2.1 < (0 : Int))) (K (.p78 true a0.1 a0.2.1 a0.2.2.1 a0.2.2.2.1 a0.2.2.2.2.1 a0.2.2.2.2.2.1 a0.2.2.2.2.2.2.1 a0.2.2.2.2.2.2.2.1 a0.2.2.2.2.2.2.2.2.1 a0.2.2.2.2.2.2.2.2.2.1 a0.2.2.2.2.2.2.2.2.2.2.1 a0.2.2.2.2.2.2.2.2.2.2.2.1 a0.2.2.2.2.2.2.2.2.2.2.2.2.1 a0.2.2.2.2.2.2.2.2.2.2.2.2.2.1 a0.2.2.2.2.2.2.2.2.2.2.2.2.2.2.1)) (K (.p78 (decide ((2 : Int) < a0.2.2.2.2.2.2.2.2.2.2.2.2.1)) a0.1 a0.2.1 a0.2.2.1 a0.2.2.2.1 a0.2.2.2.2.1 a0.2.2.2.2.2.1 a0.2.2.2.2.2.2.1 a0.2.2.2.2.2.2.2.1 a0.2.2.2.2.2.2.2.2.1 a0.2.2.2.2.2.2.2.2.2.1 a0.2.2.2.2.2.2.2.2.2.2.1 a0.2.2.2.2.2.2.2.2.2.2.2.1 a0.2.2.2.2.2.2.2.2.2.2.2.2.1 a0.2.2.2.2.2.2.2.2.2.2.2.2.2.1 a0.2.2.2.2.2.2.2.2.2.2.2.2.2.2.1)))))))) (cond (decide (a0.1 = (8 : Int))) (cond (decide ((6 : Int) ≤ a0.2.2.2.2.1)) (K (.p93 (2 : Int) a0.1 a0.2.1 a0.2.2.1 a0.2.2.2.1 a0.2.2.2.2.1 a0.2.2.2.2.2.1 a0.2.2.2.2.2.2.1 a0.2.2.2.2.2.2.2.1 a0.2.2.2.2.2.2.2.2.1 a0.2.2.2.2.2.2.2.2.2.1 a0.2.2.2.2.2.2.2.2.2.2.1 a0.2.2.2.2.2.2.2.2.2.2.2.1 a0.2.2.2.2.2.2.2.2.2.2.2.2.1 a0.2.2.2.2.2.2.2.2.2.2.2.2.2.1 a0.2.2.2.2.2.2.2.2.2.2.2.2.2.2.1)) (K (.p93 (1 : Int) a0.1 a0.2.1 a0.2.2.1 a0.2.2.2.1 a0.2.2.2.2.1 a0.2.2.2.2.2.1 a0.2.2.2.2.2.2.1 a0.2.2.2.2.2.2.2.1 a0.2.2.2.2.2.2.2.2.1 a0.2.2.2.2.2.2.2.2.2.1 a0.2.2.2.2.2.2.2.2.2.2.1 a0.2.2.2.2.2.2.2.2.2.2.2.1 a0.2.2.2.2.2.2.2.2.2.2.2.2.1 a0.2.2.2.2.2.2.2.2.2.2.2.2.2.1 a0.2.2.2.2.2.2.2.2.2.2.2.2.2.2.1))) (cond (decide (a0.1 = (9 : Int))) ((spec_l15Functions n).bind fun r6 => (spec_l2Has n r6 a0.2.2.2.1).bind fun r7 => cond r7 (cond (decide ((0 : Int) ≤ a0.2.2.2.2.2.2.2.2.2.2.2.2.2.2.1)) (some (decide (a0.2.2.2.2.2.2.2.2.2.2.2.2.2.2.1 ≤ (10 : Int)))) (some false)) (some false)) (some false))))))))))
  | .p34 y1 y2 y3 y4 y5 y6 y7 y8 y9 y10 y11 y12 y13 y14 y15 y16 y17 y18 => cond (decide (y3 < y2)) (cond (inB y3 (List.length y1)) (cond (seq (List.getD y1 (Int.toNat y3) default).1 (⟨#[95, 110, 97, 109, 101]⟩ : ByteArray)) (some false) (K (.p34 y1 y2 (IntKind.wrap .i64 (y3 + (1 : Int))) y4 y5 y6 y7 y8 y9 y10 y11 y12 y13 y14 y15 y16 y17 y18))) (none)) (cond (decide (y18 = (0 : Int))) (cond (seq y7 (⟨#[]⟩ : ByteArray)) (cond (decide ((0 : Int) < ((List.length y9) : Int))) ((spec_GoodMatchers n y9).bind fun r21 => cond r21 (cond (decide (((List.length y9) : Int) < (10 : Int))) ((spec_l15Place n (y4, (y5, (y6, (y7, (y8, (y9, (y10, (y11, (y12, (y13, (y14, (y15, (y16, (y17, (y18, ())))))))))))))))).bind fun r22 => some r22) (some false)) (some false)) ((spec_l2Name n y7).bind fun r21 => cond r21 ((spec_l15Word n y7).bind fun r22 => cond (!r22) ((spec_GoodMatchers n y9).bind fun r23 => cond r23 (cond (decide (((List.length y9) : Int) < (10 : Int))) ((spec_l15Place n (y4, (y5, (y6, (y7, (y8, (y9, (y10, (y11, (y12, (y13, (y14, (y15, (y16, (y17, (y18, ())))))))))))))))).bind fun r24 => some r24) (some false)) (some false)) (some false)) (some false))) ((spec_l2Name n y7).bind fun r21 => cond r21 ((spec_l15Word n y7).bind fun r22 => cond (!r22) ((spec_GoodMatchers n y9).bind fun r23 => cond r23 (cond (decide (((List.length y9) : Int) < (10 : Int))) ((spec_l15Place n (y4, (y5, (y6, (y7, (y8, (y9, (y10, (y11, (y12, (y13, (y14, (y15, (y16, (y17, (y18, ())))))))))))))))).bind fun r24 => some r24) (some false)) (some false)) (some false)) (some false))) (some false))
  | .p78 y1 y2 y3 y4 y5 y6 y7 y8 y9 y10 y11 y12 y13 y14 y15 y16 => cond y1 (some false) ((spec_l15Names n y15).bind fun r19 => cond r19 (cond (!(decide (y14 = (0 : Int)))) (cond (decide (y14 = (0 : Int))) (some true) (cond (!(decide (y12 = (0 : Int)))) (some (decide (y6 ≤ (11 : Int)))) (some false))) (cond (decide (((List.length y15) : Int) = (0 : Int))) (cond (decide (y14 = (0 : Int))) (some true) (cond (!(decide (y12 = (0 : Int)))) (some (decide (y6 ≤ (11 : Int)))) (some false))) (some false))) (some false))
  | .p93 y1 y2 y3 y4 y5 y6 y7 y8 y9 y10 y11 y12 y13 y14 y15 y16 => cond (decide ((1 : Int) ≤ y6)) (cond (decide (y6 ≤ (8 : Int))) (cond (decide (y16 = y1)) ((spec_l15By n (y2, (y3, (y4, (y5, (y6, (y7, (y8, (y9, (y10, (y11, (y12, (y13, (y14, (y15, (y16, ())))))))))))))))).bind fun r19 => some r19) (some false)) (some false)) (some false)
def spec_l15Node (n : Nat) (a0 : tU1) : Option (Tup [.bool]) := goRec spec_l15Node.step n (.p0 a0)
def spec_l15Node.spec : Ctr := ⟨39, [.v cU0], [.bool], [], none, fun n x => spec_l15Node n x.1⟩
theorem spec_l15Node.seg_eq : SegEq tyN gl spec_l15Node.F spec_l15Node.md spec_l15Node.T spec_l15Node.spec spec_l15Node.lb spec_l15Node.st spec_l15Node.step := by
  intro n goto y; cases y <;> kernel_rfl
theorem spec_l15Node.text : Text Go.Proofs.Try.prog spec_l15Node.F spec_l15Node.spec := textOf Go.Proofs.Try.f39
theorem spec_l15Node.ok : CtrOK Go.Proofs.Try.prog gl spec_l15Node.spec :=
  ctr_okS tabsN spec_l15Node.text spec_l15Node.seg_eq (fun n x => ⟨.p0 x.1, rfl, rfl, rfl⟩) (consC spec_l15Zero.ok (consC spec_l15SameNode.ok (consC spec_l2Printed.ok (consC spec_l2Name.ok (consC spec_l15Functions.ok (consC spec_l2Has.ok (consC spec_l15Word.ok (consC spec_GoodMatchers.ok (consC spec_l15Place.ok (consC spec_l15Compare.ok (consC spec_l15Names.ok (consC spec_l15By.ok (nilC)))))))))))))

/-! loop.example/g00039/spec.l15Take -/
def spec_l15Take.T : List Ctr := [spec_l15Node.spec]
def spec_l15Take.md : List (Nat × List Md) := []
noncomputable def spec_l15Take.F : Fun := ⟨(Go.Proofs.Try.f30.body).getD .skip, [.v (.sl false cU0), .v (.int .i64), .v (.int .i64)], [(.cell 6 43, (.tr cU0)), (.tmp 7, (.int .i64))], [], 0, [(4, ⟨[0, 1, 2, 6, 27], [], [(6, 15, (.tr cU0))], false⟩), (19, ⟨[0, 1, 2, 6, 8, 9], [], [(6, 15, (.tr cU0)), (8, 15, (.tr cU0))], false⟩), (31, ⟨[0, 2, 6, 8, 9, 10, 11, 64], [], [(6, 15, (.tr cU0)), (8, 15, (.tr cU0)), (10, 15, (.tr cU0))], false⟩)]⟩
inductive spec_l15Take.Pt where
  | p0 (a0 : List (tU1)) (a1 : Int) (a2 : Int)
  | p4 (y1 : List (tU1)) (y2 : Int) (y3 : Int) (y4 : Bool) (y5 : Int) (y6 : Int) (y7 : Int) (y8 : ByteArray) (y9 : Int) (y10 : List (tU4)) (y11 : Int) (y12 : Bool) (y13 : Int) (y14 : Bool) (y15 : Int) (y16 : List (ByteArray)) (y17 : Int) (y18 : List (ByteArray)) (y19 : Int) (y20 : List (Tr (tU1)))
  | p19 (y1 : List (tU1)) (y2 : Int) (y3 : Int) (y4 : Int) (y5 : Int) (y6 : Int) (y7 : Int) (y8 : ByteArray) (y9 : Int) (y10 : List (tU4)) (y11 : Int) (y12 : Bool) (y13 : Int) (y14 : Bool) (y15 : Int) (y16 : List (ByteArray)) (y17 : Int) (y18 : List (ByteArray)) (y19 : Int) (y20 : Int) (y21 : Int) (y22 : Int) (y23 : ByteArray) (y24 : Int) (y25 : List (tU4)) (y26 : Int) (y27 : Bool) (y28 : Int) (y29 : Bool) (y30 : Int) (y31 : List (ByteArray)) (y32 : Int) (y33 : List (ByteArray)) (y34 : Int) (y35 : List (Tr (tU1))) (y36 : List (Tr (tU1)))
  | p31 (y1 : List (tU1)) (y2 : Int) (y3 : Int) (y4 : Int) (y5 : Bool) (y6 : Int) (y7 : Int) (y8 : Int) (y9 : ByteArray) (y10 : Int) (y11 : List (tU4)) (y12 : Int) (y13 : Bool) (y14 : Int) (y15 : Bool) (y16 : Int) (y17 : List (ByteArray)) (y18 : Int) (y19 : List (ByteArray)) (y20 : Int) (y21 : Int) (y22 : Int) (y23 : Int) (y24 : ByteArray) (y25 : Int) (y26 : List (tU4)) (y27 : Int) (y28 : Bool) (y29 : Int) (y30 : Bool) (y31 : Int) (y32 : List (ByteArray)) (y33 : Int) (y34 : List (ByteArray)) (y35 : Int) (y36 : Int) (y37 : Int) (y38 : Int) (y39 : ByteArray) (y40 : Int) (y41 : List (tU4)) (y42 : Int) (y43 : Bool) (y44 : Int) (y45 : Bool) (y46 : Int) (y47 : List (ByteArray)) (y48 : Int) (y49 : List (ByteArray)) (y50 : Int) (y51 : List (Tr (tU1))) (y52 : List (Tr (tU1))) (y53 : List (Tr (tU1)))
def spec_l15Take.lb : spec_l15Take.Pt → Nat
  | .p0 _ _ _ => 0
  | .p4 _ _ _ _ _ _ _ _ _ _ _ _ _ _ _ _ _ _ _ _ => 4
  | .p19 _ _ _ _ _ _ _ _ _ _ _ _ _ _ _ _ _ _ _ _ _ _ _ _ _ _ _ _ _ _ _ _ _ _ _ _ => 19
  | .p31 _ _ _ _ _ _ _ _ _ _ _ _ _ _ _ _ _ _ _ _ _ _ _ _ _ _ _ _ _ _ _ _ _ _ _ _ _ _ _ _ _ _ _ _ _ _ _ _ _ _ _ _ _ => 31
def spec_l15Take.st : spec_l15Take.Pt → St
  | .p0 a0 a1 a2 => enter [.v (.sl false cU0) a0, .v (.int .i64) a1, .v (.int .i64) a2] 0
  | .p4 y1 y2 y3 y4 y5 y6 y7 y8 y9 y10 y11 y12 y13 y14 y15 y16 y17 y18 y19 y20 => ⟨[(0, .im (.sl false cU0) y1), (1, .im (.int .i64) y2), (2, .im (.int .i64) y3), (6, .po 0 0), (27, .im .bool y4)], [(0, .obj [.im (.int .i64) y5, .im (.int .i64) y6, .im (.int .i64) y7, .im .str y8, .im (.int .i64) y9, .im (.bs cU3) y10, .im (.int .i64) y11, .im .bool y12, .im (.int .i64) y13, .im .bool y14, .im (.int .i64) y15, .im (.bs .str) y16, .im (.int .i64) y17, .im (.bs .str) y18, .im (.int .i64) y19, .hs 1 [] none 0]), (1, .arr true (.tr cU0) y20 0)], 2⟩
  | .p19 y1 y2 y3 y4 y5 y6 y7 y8 y9 y10 y11 y12 y13 y14 y15 y16 y17 y18 y19 y20 y21 y22 y23 y24 y25 y26 y27 y28 y29 y30 y31 y32 y33 y34 y35 y36 => ⟨[(0, .im (.sl false cU0) y1), (1, .im (.int .i64) y2), (2, .im (.int .i64) y3), (6, .po 0 0), (8, .po 1 0), (9, .im (.int .i64) y4)], [(0, .obj [.im (.int .i64) y5, .im (.int .i64) y6, .im (.int .i64) y7, .im .str y8, .im (.int .i64) y9, .im (.bs cU3) y10, .im (.int .i64) y11, .im .bool y12, .im (.int .i64) y13, .im .bool y14, .im (.int .i64) y15, .im (.bs .str) y16, .im (.int .i64) y17, .im (.bs .str) y18, .im (.int .i64) y19, .hs 2 [] none 0]), (1, .obj [.im (.int .i64) y20, .im (.int .i64) y21, .im (.int .i64) y22, .im .str y23, .im (.int .i64) y24, .im (.bs cU3) y25, .im (.int .i64) y26, .im .bool y27, .im (.int .i64) y28, .im .bool y29, .im (.int .i64) y30, .im (.bs .str) y31, .im (.int .i64) y32, .im (.bs .str) y33, .im (.int .i64) y34, .hs 3 [] none 0]), (2, .arr true (.tr cU0) y35 0), (3, .arr true (.tr cU0) y36 0)], 4⟩
  | .p31 y1 y2 y3 y4 y5 y6 y7 y8 y9 y10 y11 y12 y13 y14 y15 y16 y17 y18 y19 y20 y21 y22 y23 y24 y25 y26 y27 y28 y29 y30 y31 y32 y33 y34 y35 y36 y37 y38 y39 y40 y41 y42 y43 y44 y45 y46 y47 y48 y49 y50 y51 y52 y53 => ⟨[(0, .im (.sl false cU0) y1), (2, .im (.int .i64) y2), (6, .po 0 0), (8, .po 1 0), (9, .im (.int .i64) y3), (10, .po 2 0), (11, .im (.int .i64) y4), (64, .im .bool y5)], [(0, .obj [.im (.int .i64) y6, .im (.int .i64) y7, .im (.int .i64) y8, .im .str y9, .im (.int .i64) y10, .im (.bs cU3) y11, .im (.int .i64) y12, .im .bool y13, .im (.int .i64) y14, .im .bool y15, .im (.int .i64) y16, .im (.bs .str) y17, .im (.int .i64) y18, .im (.bs .str) y19, .im (.int .i64) y20, .hs 3 [] none 0]), (1, .obj [.im (.int .i64) y21, .im (.int .i64) y22, .im (.int .i64) y23, .im .str y24, .im (.int .i64) y25, .im (.bs cU3) y26, .im (.int .i64) y27, .im .bool y28, .im (.int .i64) y29, .im .bool y30, .im (.int .i64) y31, .im (.bs .str) y32, .im (.int .i64) y33, .im (.bs .str) y34, .im (.int .i64) y35, .hs 4 [] none 0]), (2, .obj [.im (.int .i64) y36, .im (.int .i64) y37, .im (.int .i64) y38, .im .str y39, .im (.int .i64) y40, .im (.bs cU3) y41, .im (.int .i64) y42, .im .bool y43, .im (.int .i64) y44, .im .bool y45, .im (.int .i64) y46, .im (.bs .str) y47, .im (.int .i64) y48, .im (.bs .str) y49, .im (.int .i64) y50, .hs 5 [] none 0]), (3, .arr true (.tr cU0) y51 0), (4, .arr true (.tr cU0) y52 0), (5, .arr false (.tr cU0) y53 0)], 6⟩
def spec_l15Take.step (n : Nat) (self : Ty.Els [.v (.sl false cU0), .v (.int .i64), .v (.int .i64)] → Option (Tup [(.tr cU0), (.int .i64)])) (K : spec_l15Take.Pt → Option (Tup [(.tr cU0), (.int .i64)])) : spec_l15Take.Pt → Option (Tup [(.tr cU0), (.int .i64)])
  | .p0 a0 a1 a2 => cond (decide (((List.length a0) : Int) ≤ a1)) (K (.p4 a0 a1 a2 true (default : Int) (default : Int) (default : Int) (default : ByteArray) (default : Int) (default : List (tU4)) (default : Int) (default : Bool) (default : Int) (default : Bool) (default : Int) (default : List (ByteArray)) (default : Int) (default : List (ByteArray)) (default : Int) ([] : List (Tr (tU1))))) (cond (decide ((12 : Int) < a2)) (K (.p4 a0 a1 a2 true (default : Int) (default : Int) (default : Int) (default : ByteArray) (default : Int) (default : List (tU4)) (default : Int) (default : Bool) (default : Int) (default : Bool) (default : Int) (default : List (ByteArray)) (default : Int) (default : List (ByteArray)) (default : Int) ([] : List (Tr (tU1))))) (cond (inB a1 (List.length a0)) ((spec_l15Node n ((List.getD a0 (Int.toNat a1) default).1, ((List.getD a0 (Int.toNat a1) default).2.1, ((List.getD a0 (Int.toNat a1) default).2.2.1, ((List.getD a0 (Int.toNat a1) default).2.2.2.1, ((List.getD a0 (Int.toNat a1) default).2.2.2.2.1, ((List.getD a0 (Int.toNat a1) default).2.2.2.2.2.1, ((List.getD a0 (Int.toNat a1) default).2.2.2.2.2.2.1, ((List.getD a0 (Int.toNat a1) default).2.2.2.2.2.2.2.1, ((List.getD a0 (Int.toNat a1) default).2.2.2.2.2.2.2.2.1, ((List.getD a0 (Int.toNat a1) default).2.2.2.2.2.2.2.2.2.1, ((List.getD a0 (Int.toNat a1) default).2.2.2.2.2.2.2.2.2.2.1, ((List.getD a0 (Int.toNat a1) default).2.2.2.2.2.2.2.2.2.2.2.1, ((List.getD a0 (Int.toNat a1) default).2.2.2.2.2.2.2.2.2.2.2.2.1, ((List.getD a0 (Int.toNat a1) default).2.2.2.2.2.2.2.2.2.2.2.2.2.1, (List.getD a0 (Int.toNat a1) default).2.2.2.2.2.2.2.2.2.2.2.2.2.2))))))))))))))).bind fun r6 => K (.p4 a0 a1 a2 (!r6) (default : Int) (default : Int) (default : Int) (default : ByteArray) (default : Int) (default : List (tU4)) (default : Int) (default : Bool) (default : Int) (default : Bool) (default : Int) (default : List (ByteArray)) (default : Int) (default : List (ByteArray)) (default : Int) ([] : List (Tr (tU1))))) (none)))
  | .p4 y1 y2 y3 y4 y5 y6 y7 y8 y9 y10 y11 y12 y13 y14 y15 y16 y17 y18 y19 y20 => cond y4 (some ((Tr.node ((default : Int), ((default : Int), ((default : Int), ((default : ByteArray), ((default : Int), ((default : List (tU4)), ((default : Int), ((default : Bool), ((default : Int), ((default : Bool), ((default : Int), ((default : List (ByteArray)), ((default : Int), ((default : List (ByteArray)), (default : (Int) × (Unit)))))))))))))))) ([] : List (Tr (tU1)))), (-(1 : Int)))) (cond (inB y2 (List.length y1)) (K (.p19 y1 (IntKind.wrap .i64 (y2 + (1 : Int))) y3 (0 : Int) y5 y6 y7 y8 y9 y10 y11 y12 y13 y14 y15 y16 y17 y18 y19 (List.getD y1 (Int.toNat y2) default).1 (List.getD y1 (Int.toNat y2) default).2.1 (List.getD y1 (Int.toNat y2) default).2.2.1 (List.getD y1 (Int.toNat y2) default).2.2.2.1 (List.getD y1 (Int.toNat y2) default).2.2.2.2.1 (List.getD y1 (Int.toNat y2) default).2.2.2.2.2.1 (List.getD y1 (Int.toNat y2) default).2.2.2.2.2.2.1 (List.getD y1 (Int.toNat y2) default).2.2.2.2.2.2.2.1 (List.getD y1 (Int.toNat y2) default).2.2.2.2.2.2.2.2.1 (List.getD y1 (Int.toNat y2) default).2.2.2.2.2.2.2.2.2.1 (List.getD y1 (Int.toNat y2) default).2.2.2.2.2.2.2.2.2.2.1 (List.getD y1 (Int.toNat y2) default).2.2.2.2.2.2.2.2.2.2.2.1 (List.getD y1 (Int.toNat y2) default).2.2.2.2.2.2.2.2.2.2.2.2.1 (List.getD y1 (Int.toNat y2) default).2.2.2.2.2.2.2.2.2.2.2.2.2.1 (List.getD y1 (Int.toNat y2) default).2.2.2.2.2.2.2.2.2.2.2.2.2.2.1 y20 ([] : List (Tr (tU1))))) (none))
  | .p19 y1 y2 y3 y4 y5 y6 y7 y8 y9 y10 y11 y12 y13 y14 y15 y16 y17 y18 y19 y20 y21 y22 y23 y24 y25 y26 y27 y28 y29 y30 y31 y32 y33 y34 y35 y36 => cond (decide (y4 < y34)) ((self (y1, y2, (IntKind.wrap .i64 (y3 + (1 : Int))), ())).bind fun r39 => cond (decide (r39.2 < (0 : Int))) (K (.p31 y1 y3 y4 r39.2 true y5 y6 y7 y8 y9 y10 y11 y12 y13 y14 y15 y16 y17 y18 y19 y20 y21 y22 y23 y24 y25 y26 y27 y28 y29 y30 y31 y32 y33 y34 (Tr.val default r39.1).1 (Tr.val default r39.1).2.1 (Tr.val default r39.1).2.2.1 (Tr.val default r39.1).2.2.2.1 (Tr.val default r39.1).2.2.2.2.1 (Tr.val default r39.1).2.2.2.2.2.1 (Tr.val default r39.1).2.2.2.2.2.2.1 (Tr.val default r39.1).2.2.2.2.2.2.2.1 (Tr.val default r39.1).2.2.2.2.2.2.2.2.1 (Tr.val default r39.1).2.2.2.2.2.2.2.2.2.1 (Tr.val default r39.1).2.2.2.2.2.2.2.2.2.2.1 (Tr.val default r39.1).2.2.2.2.2.2.2.2.2.2.2.1 (Tr.val default r39.1).2.2.2.2.2.2.2.2.2.2.2.2.1 (Tr.val default r39.1).2.2.2.2.2.2.2.2.2.2.2.2.2.1 (Tr.val default r39.1).2.2.2.2.2.2.2.2.2.2.2.2.2.2.1 y35 y36 (Tr.kids r39.1))) (cond (decide (y20 = (4 : Int))) (K (.p31 y1 y3 y4 r39.2 (!(decide ((Tr.val default r39.1).1 = (3 : Int)))) y5 y6 y7 y8 y9 y10 y11 y12 y13 y14 y15 y16 y17 y18 y19 y20 y21 y22 y23 y24 y25 y26 y27 y28 y29 y30 y31 y32 y33 y34 (Tr.val default r39.1).1 (Tr.val default r39.1).2.1 (Tr.val default r39.1).2.2.1 (Tr.val default r39.1).2.2.2.1 (Tr.val default r39.1).2.2.2.2.1 (Tr.val default r39.1).2.2.2.2.2.1 (Tr.val default r39.1).2.2.2.2.2.2.1 (Tr.val default r39.1).2.2.2.2.2.2.2.1 (Tr.val default r39.1).2.2.2.2.2.2.2.2.1 (Tr.val default r39.1).2.2.2.2.2.2.2.2.2.1 (Tr.val default r39.1).2.2.2.2.2.2.2.2.2.2.1 (Tr.val default r39.1).2.2.2.2.2.2.2.2.2.2.2.1 (Tr.val default r39.1).2.2.2.2.2.2.2.2.2.2.2.2.1 (Tr.val default r39.1).2.2.2.2.2.2.2.2.2.2.2.2.2.1 (Tr.val default r39.1).2.2.2.2.2.2.2.2.2.2.2.2.2.2.1 y35 y36 (Tr.kids r39.1))) (K (.p31 y1 y3 y4 r39.2 false y5 y6 y7 y8 y9 y10 y11 y12 y13 y14 y15 y16 y17 y18 y19 y20 y21 y22 y23 y24 y25 y26 y27 y28 y29 y30 y31 y32 y33 y34 (Tr.val default r39.1).1 (Tr.val default r39.1).2.1 (Tr.val default r39.1).2.2.1 (Tr.val default r39.1).2.2.2.1 (Tr.val default r39.1).2.2.2.2.1 (Tr.val default r39.1).2.2.2.2.2.1 (Tr.val default r39.1).2.2.2.2.2.2.1 (Tr.val default r39.1).2.2.2.2.2.2.2.1 (Tr.val default r39.1).2.2.2.2.2.2.2.2.1 (Tr.val default r39.1).2.2.2.2.2.2.2.2.2.1 (Tr.val default r39.1).2.2.2.2.2.2.2.2.2.2.1 (Tr.val default r39.1).2.2.2.2.2.2.2.2.2.2.2.1 (Tr.val default r39.1).2.2.2.2.2.2.2.2.2.2.2.2.1 (Tr.val default r39.1).2.2.2.2.2.2.2.2.2.2.2.2.2.1 (Tr.val default r39.1).2.2.2.2.2.2.2.2.2.2.2.2.2.2.1 y35 y36 (Tr.kids r39.1))))) (some ((Tr.node (y20, (y21, (y22, (y23, (y24, (y25, (y26, (y27, (y28, (y29, (y30, (y31, (y32, (y33, (y34, ()))))))))))))))) y36), y2))
  | .p31 y1 y2 y3 y4 y5 y6 y7 y8 y9 y10 y11 y12 y13 y14 y15 y16 y17 y18 y19 y20 y21 y22 y23 y24 y25 y26 y27 y28 y29 y30 y31 y32 y33 y34 y35 y36 y37 y38 y39 y40 y41 y42 y43 y44 y45 y46 y47 y48 y49 y50 y51 y52 y53 => cond y5 (some ((Tr.node ((default : Int), ((default : Int), ((default : Int), ((default : ByteArray), ((default : Int), ((default : List (tU4)), ((default : Int), ((default : Bool), ((default : Int), ((default : Bool), ((default : Int), ((default : List (ByteArray)), ((default : Int), ((default : List (ByteArray)), (default : (Int) × (Unit)))))))))))))))) ([] : List (Tr (tU1)))), (-(1 : Int)))) (cond (room ((List.length y52) + (List.length [(Tr.node (y36, (y37, (y38, (y39, (y40, (y41, (y42, (y43, (y44, (y45, (y46, (y47, (y48, (y49, (y50, ()))))))))))))))) y53)]))) (K (.p19 y1 y4 y2 (IntKind.wrap .i64 (y3 + (1 : Int))) y6 y7 y8 y9 y10 y11 y12 y13 y14 y15 y16 y17 y18 y19 y20 y21 y22 y23 y24 y25 y26 y27 y28 y29 y30 y31 y32 y33 y34 y35 y51 (y52 ++ [(Tr.node (y36, (y37, (y38, (y39, (y40, (y41, (y42, (y43, (y44, (y45, (y46, (y47, (y48, (y49, (y50, ()))))))))))))))) y53)]))) (none))
def spec_l15Take (n : Nat) (a0 : List (tU1)) (a1 : Int) (a2 : Int) : Option (Tup [(.tr cU0), (.int .i64)]) := goRec (fun n K => spec_l15Take.step n (fun x => K (.p0 x.1 x.2.1 x.2.2.1)) K) n (.p0 a0 a1 a2)
def spec_l15Take.spec : Ctr := ⟨30, [.v (.sl false cU0), .v (.int .i64), .v (.int .i64)], [(.tr cU0), (.int .i64)], [], none, fun n x => spec_l15Take n x.1 x.2.1 x.2.2.1⟩
theorem spec_l15Take.seg_eq (n : Nat) (φ : Ty.Els [.v (.sl false cU0), .v (.int .i64), .v (.int .i64)] → Option (Tup [(.tr cU0), (.int .i64)])) (goto : Nat → St → Option (Tup [(.tr cU0), (.int .i64)])) (y : spec_l15Take.Pt) : seg ⟨tyN, gl, spec_l15Take.md, calOf (spec_l15Take.spec.at φ :: spec_l15Take.T) n⟩ spec_l15Take.F.np spec_l15Take.F.ks goto (spec_l15Take.F.fin ⟨tyN, gl, spec_l15Take.md, calOf spec_l15Take.T 0⟩ [(.tr cU0), (.int .i64)] none) spec_l15Take.F.c (spec_l15Take.lb y) (spec_l15Take.st y) = spec_l15Take.step n φ (fun z => goto (spec_l15Take.lb z) (spec_l15Take.st z)) y := by
  cases y <;> kernel_rfl
theorem spec_l15Take.text : Text Go.Proofs.Try.prog spec_l15Take.F spec_l15Take.spec := textOf Go.Proofs.Try.f30
theorem spec_l15Take.ok : CtrOK Go.Proofs.Try.prog gl spec_l15Take.spec :=
  ctr_rec (T := spec_l15Take.T) (F := spec_l15Take.F) (lb := spec_l15Take.lb) (st := spec_l15Take.st) (ent := fun x => .p0 x.1 x.2.1 x.2.2.1) (stp := spec_l15Take.step) (md := spec_l15Take.md) tabsN spec_l15Take.text spec_l15Take.seg_eq (fun _ => ⟨rfl, rfl⟩) (fun _ _ => rfl) (consC spec_l15Node.ok (nilC))

/-! loop.example/g00039/spec.l15Tree -/
def spec_l15Tree.T : List Ctr := [spec_l15Take.spec]
def spec_l15Tree.md : List (Nat × List Md) := []
noncomputable def spec_l15Tree.F : Fun := ⟨(Go.Proofs.Try.f14.body).getD .skip, [.v (.sl false cU0)], [(.cell 2 43, (.tr cU0)), (.tmp 3, .bool)], [], 0, []⟩
inductive spec_l15Tree.Pt where
  | p0 (a0 : List (tU1))
def spec_l15Tree.lb : spec_l15Tree.Pt → Nat
  | .p0 _ => 0
def spec_l15Tree.st : spec_l15Tree.Pt → St
  | .p0 a0 => enter [.v (.sl false cU0) a0] 0
def spec_l15Tree.step (n : Nat) (K : spec_l15Tree.Pt → Option (Tup [(.tr cU0), .bool])) : spec_l15Tree.Pt → Option (Tup [(.tr cU0), .bool])
  | .p0 a0 => cond (decide ((60 : Int) < ((List.length a0) : Int))) (some ((Tr.node ((default : Int), ((default : Int), ((default : Int), ((default : ByteArray), ((default : Int), ((default : List (tU4)), ((default : Int), ((default : Bool), ((default : Int), ((default : Bool), ((default : Int), ((default : List (ByteArray)), ((default : Int), ((default : List (ByteArray)), (default : (Int) × (Unit)))))))))))))))) ([] : List (Tr (tU1)))), false)) ((spec_l15Take n a0 (0 : Int) (1 : Int)).bind fun r4 => some ((Tr.node ((Tr.val default r4.1).1, ((Tr.val default r4.1).2.1, ((Tr.val default r4.1).2.2.1, ((Tr.val default r4.1).2.2.2.1, ((Tr.val default r4.1).2.2.2.2.1, ((Tr.val default r4.1).2.2.2.2.2.1, ((Tr.val default r4.1).2.2.2.2.2.2.1, ((Tr.val default r4.1).2.2.2.2.2.2.2.1, ((Tr.val default r4.1).2.2.2.2.2.2.2.2.1, ((Tr.val default r4.1).2.2.2.2.2.2.2.2.2.1, ((Tr.val default r4.1).2.2.2.2.2.2.2.2.2.2.1, ((Tr.val default r4.1).2.2.2.2.2.2.2.2.2.2.2.1, ((Tr.val default r4.1).2.2.2.2.2.2.2.2.2.2.2.2.1, ((Tr.val default r4.1).2.2.2.2.2.2.2.2.2.2.2.2.2.1, (Tr.val default r4.1).2.2.2.2.2.2.2.2.2.2.2.2.2.2)))))))))))))) (Tr.kids r4.1)), (decide (r4.2 = ((List.length a0) : Int)))))
def spec_l15Tree (n : Nat) (a0 : List (tU1)) : Option (Tup [(.tr cU0), .bool]) := goRec spec_l15Tree.step n (.p0 a0)
def spec_l15Tree.spec : Ctr := ⟨14, [.v (.sl false cU0)], [(.tr cU0), .bool], [], none, fun n x => spec_l15Tree n x.1⟩
theorem spec_l15Tree.seg_eq : SegEq tyN gl spec_l15Tree.F spec_l15Tree.md spec_l15Tree.T spec_l15Tree.spec spec_l15Tree.lb spec_l15Tree.st spec_l15Tree.step := by
  intro n goto y; cases y <;> kernel_rfl
theorem spec_l15Tree.text : Text Go.Proofs.Try.prog spec_l15Tree.F spec_l15Tree.spec := textOf Go.Proofs.Try.f14
theorem spec_l15Tree.ok : CtrOK Go.Proofs.Try.prog gl spec_l15Tree.spec :=
  ctr_okS tabsN spec_l15Tree.text spec_l15Tree.seg_eq (fun n x => ⟨.p0 x.1, rfl, rfl, rfl⟩) (consC spec_l15Take.ok (nilC))

/-! loop.example/g00039/spec.l17Moments -/
def spec_l17Moments.T : List Ctr := []
def spec_l17Moments.md : List (Nat × List Md) := []
noncomputable def spec_l17Moments.F : Fun := ⟨(Go.Proofs.Try.f31.body).getD .skip, [.v cU0, .v (.int .i64), .v (.int .i64)], [(.tmp 6, (.int .i64)), (.tmp 7, (.int .i64))], [], 0, []⟩
inductive spec_l17Moments.Pt where
  | p0 (a0 : tU1) (a1 : Int) (a2 : Int)
def spec_l17Moments.lb : spec_l17Moments.Pt → Nat
  | .p0 _ _ _ => 0
def spec_l17Moments.st : spec_l17Moments.Pt → St
  | .p0 a0 a1 a2 => enter [.v cU0 a0, .v (.int .i64) a1, .v (.int .i64) a2] 0
def spec_l17Moments.step (n : Nat) (K : spec_l17Moments.Pt → Option (Tup [(.int .i64), (.int .i64)])) : spec_l17Moments.Pt → Option (Tup [(.int .i64), (.int .i64)])
  | .p0 a0 a1 a2 => cond a0.2.2.2.2.2.2.2.1 (some ((IntKind.wrap .i64 (a0.2.2.2.2.2.2.2.2.1 - a0.2.2.2.2.2.2.1)), (IntKind.wrap .i64 (a0.2.2.2.2.2.2.2.2.1 - a0.2.2.2.2.2.2.1)))) (some ((IntKind.wrap .i64 (a1 - a0.2.2.2.2.2.2.1)), (IntKind.wrap .i64 (a2 - a0.2.2.2.2.2.2.1))))
def spec_l17Moments (n : Nat) (a0 : tU1) (a1 : Int) (a2 : Int) : Option (Tup [(.int .i64), (.int .i64)]) := goRec spec_l17Moments.step n (.p0 a0 a1 a2)
def spec_l17Moments.spec : Ctr := ⟨31, [.v cU0, .v (.int .i64), .v (.int .i64)], [(.int .i64), (.int .i64)], [], none, fun n x => spec_l17Moments n x.1 x.2.1 x.2.2.1⟩
theorem spec_l17Moments.seg_eq : SegEq tyN gl spec_l17Moments.F spec_l17Moments.md spec_l17Moments.T spec_l17Moments.spec spec_l17Moments.lb spec_l17Moments.st spec_l17Moments.step := by
  intro n goto y; cases y <;> kernel_rfl
theorem spec_l17Moments.text : Text Go.Proofs.Try.prog spec_l17Moments.F spec_l17Moments.spec := textOf Go.Proofs.Try.f31
theorem spec_l17Moments.ok : CtrOK Go.Proofs.Try.prog gl spec_l17Moments.spec :=
  ctr_okS tabsN spec_l17Moments.text spec_l17Moments.seg_eq (fun n x => ⟨.p0 x.1 x.2.1 x.2.2.1, rfl, rfl, rfl⟩) (nilC)

/-! loop.example/g00039/spec.l17Needs -/
def spec_l17Needs.T : List Ctr := [spec_l17Moments.spec]
def spec_l17Needs.md : List (Nat × List Md) := [(16, [.g (.sl false cU5), .v, .v, .v, .v])]
noncomputable def spec_l17Needs.F : Fun := ⟨(Go.Proofs.Try.f16.body).getD .skip, [.g (.sl false cU5), .v (.tr cU0), .v (.int .i64), .v (.int .i64), .v (.int .i64)], [(.tmp 10, (.sl false cU5))], [], 0, [(14, ⟨[0, 6, 13], [(0, cU5)], [(6, 15, (.tr cU0)), (13, 0, cU3)], false⟩), (20, ⟨[0, 6, 13], [(0, cU5)], [(6, 15, (.tr cU0)), (13, 0, cU3)], false⟩), (26, ⟨[0, 6, 13], [(0, cU5)], [(6, 15, (.tr cU0)), (13, 0, cU3)], false⟩), (34, ⟨[0], [(0, cU5)], [], false⟩), (62, ⟨[0, 2, 3, 111, 112, 113], [(0, cU5), (111, (.tr cU0))], [], false⟩)]⟩
inductive spec_l17Needs.Pt where
  | p0 (a0 : List (tU6)) (a1 : Tr (tU1)) (a2 : Int) (a3 : Int) (a4 : Int)
  | p14 (y1 : List (tU6)) (y2 : Int) (y3 : Int) (y4 : Int) (y5 : ByteArray) (y6 : Int) (y7 : List (tU4)) (y8 : Int) (y9 : Bool) (y10 : Int) (y11 : Bool) (y12 : Int) (y13 : List (ByteArray)) (y14 : Int) (y15 : List (ByteArray)) (y16 : Int) (y17 : List (Tr (tU1))) (y18 : Int) (y19 : Int) (y20 : List (tU4))
  | p62 (y1 : Int) (y2 : Int) (y3 : List (Tr (tU1))) (y4 : Int) (y5 : Int) (y6 : List (tU6))
  | p20 (y1 : List (tU6)) (y2 : Int) (y3 : Int) (y4 : Int) (y5 : ByteArray) (y6 : Int) (y7 : List (tU4)) (y8 : Int) (y9 : Bool) (y10 : Int) (y11 : Bool) (y12 : Int) (y13 : List (ByteArray)) (y14 : Int) (y15 : List (ByteArray)) (y16 : Int) (y17 : List (Tr (tU1))) (y18 : Int) (y19 : Int) (y20 : List (tU4))
  | p26 (y1 : List (tU6)) (y2 : Int) (y3 : Int) (y4 : Int) (y5 : ByteArray) (y6 : Int) (y7 : List (tU4)) (y8 : Int) (y9 : Bool) (y10 : Int) (y11 : Bool) (y12 : Int) (y13 : List (ByteArray)) (y14 : Int) (y15 : List (ByteArray)) (y16 : Int) (y17 : List (Tr (tU1))) (y18 : Int) (y19 : Int) (y20 : List (tU4))
  | p34 (y1 : List (tU6))
def spec_l17Needs.lb : spec_l17Needs.Pt → Nat
  | .p0 _ _ _ _ _ => 0
  | .p14 _ _ _ _ _ _ _ _ _ _ _ _ _ _ _ _ _ _ _ _ => 14
  | .p62 _ _ _ _ _ _ => 62
  | .p20 _ _ _ _ _ _ _ _ _ _ _ _ _ _ _ _ _ _ _ _ => 20
  | .p26 _ _ _ _ _ _ _ _ _ _ _ _ _ _ _ _ _ _ _ _ => 26
  | .p34 _ => 34
def spec_l17Needs.st : spec_l17Needs.Pt → St
  | .p0 a0 a1 a2 a3 a4 => enter [.g (.sl false cU5) a0, .v (.tr cU0) a1, .v (.int .i64) a2, .v (.int .i64) a3, .v (.int .i64) a4] 0
  | .p14 y1 y2 y3 y4 y5 y6 y7 y8 y9 y10 y11 y12 y13 y14 y15 y16 y17 y18 y19 y20 => ⟨[(0, .hs 0 [] none 0), (6, .po 1 0), (13, .po 2 0)], [(0, .arr false cU5 y1 0), (1, .obj [.im (.int .i64) y2, .im (.int .i64) y3, .im (.int .i64) y4, .im .str y5, .im (.int .i64) y6, .im (.bs cU3) y7, .im (.int .i64) y8, .im .bool y9, .im (.int .i64) y10, .im .bool y11, .im (.int .i64) y12, .im (.bs .str) y13, .im (.int .i64) y14, .im (.bs .str) y15, .im (.int .i64) y16, .im (.sl false (.tr cU0)) y17]), (2, .obj [.hs 3 [] none 0, .im (.int .i64) y18, .im (.int .i64) y19]), (3, .arr true cU3 y20 0)], 4⟩
  | .p62 y1 y2 y3 y4 y5 y6 => ⟨[(0, .hs 0 [] none 0), (2, .im (.int .i64) y1), (3, .im (.int .i64) y2), (111, .im (.sl false (.tr cU0)) y3), (112, .im (.int .i64) y4), (113, .im (.int .i64) y5)], [(0, .arr false cU5 y6 0)], 1⟩
  | .p20 y1 y2 y3 y4 y5 y6 y7 y8 y9 y10 y11 y12 y13 y14 y15 y16 y17 y18 y19 y20 => ⟨[(0, .hs 0 [] none 0), (6, .po 1 0), (13, .po 2 0)], [(0, .arr false cU5 y1 0), (1, .obj [.im (.int .i64) y2, .im (.int .i64) y3, .im (.int .i64) y4, .im .str y5, .im (.int .i64) y6, .im (.bs cU3) y7, .im (.int .i64) y8, .im .bool y9, .im (.int .i64) y10, .im .bool y11, .im (.int .i64) y12, .im (.bs .str) y13, .im (.int .i64) y14, .im (.bs .str) y15, .im (.int .i64) y16, .im (.sl false (.tr cU0)) y17]), (2, .obj [.hs 3 [] none 0, .im (.int .i64) y18, .im (.int .i64) y19]), (3, .arr true cU3 y20 0)], 4⟩
  | .p26 y1 y2 y3 y4 y5 y6 y7 y8 y9 y10 y11 y12 y13 y14 y15 y16 y17 y18 y19 y20 => ⟨[(0, .hs 0 [] none 0), (6, .po 1 0), (13, .po 2 0)], [(0, .arr false cU5 y1 0), (1, .obj [.im (.int .i64) y2, .im (.int .i64) y3, .im (.int .i64) y4, .im .str y5, .im (.int .i64) y6, .im (.bs cU3) y7, .im (.int .i64) y8, .im .bool y9, .im (.int .i64) y10, .im .bool y11, .im (.int .i64) y12, .im (.bs .str) y13, .im (.int .i64) y14, .im (.bs .str) y15, .im (.int .i64) y16, .im (.sl false (.tr cU0)) y17]), (2, .obj [.hs 3 [] none 0, .im (.int .i64) y18, .im (.int .i64) y19]), (3, .arr true cU3 y20 0)], 4⟩
  | .p34 y1 => ⟨[(0, .hs 0 [] none 0)], [(0, .arr false cU5 y1 0)], 1⟩
def spec_l17Needs.step (n : Nat) (self : Ty.Els [.g (.sl false cU5), .v (.tr cU0), .v (.int .i64), .v (.int .i64), .v (.int .i64)] → Option (Tup [(.sl false cU5)])) (K : spec_l17Needs.Pt → Option (Tup [(.sl false cU5)])) : spec_l17Needs.Pt → Option (Tup [(.sl false cU5)])
  | .p0 a0 a1 a2 a3 a4 => cond (decide ((Tr.val default a1).1 = (3 : Int))) ((spec_l17Moments n ((Tr.val default a1).1, ((Tr.val default a1).2.1, ((Tr.val default a1).2.2.1, ((Tr.val default a1).2.2.2.1, ((Tr.val default a1).2.2.2.2.1, ((Tr.val default a1).2.2.2.2.2.1, ((Tr.val default a1).2.2.2.2.2.2.1, ((Tr.val default a1).2.2.2.2.2.2.2.1, ((Tr.val default a1).2.2.2.2.2.2.2.2.1, ((Tr.val default a1).2.2.2.2.2.2.2.2.2.1, ((Tr.val default a1).2.2.2.2.2.2.2.2.2.2.1, ((Tr.val default a1).2.2.2.2.2.2.2.2.2.2.2.1, ((Tr.val default a1).2.2.2.2.2.2.2.2.2.2.2.2.1, ((Tr.val default a1).2.2.2.2.2.2.2.2.2.2.2.2.2.1, (Tr.val default a1).2.2.2.2.2.2.2.2.2.2.2.2.2.2)))))))))))))) a2 a3).bind fun r8 => cond (decide ((0 : Int) < a4)) (K (.p14 a0 (Tr.val default a1).1 (Tr.val default a1).2.1 (Tr.val default a1).2.2.1 (Tr.val default a1).2.2.2.1 (Tr.val default a1).2.2.2.2.1 (Tr.val default a1).2.2.2.2.2.1 (Tr.val default a1).2.2.2.2.2.2.1 (Tr.val default a1).2.2.2.2.2.2.2.1 (Tr.val default a1).2.2.2.2.2.2.2.2.1 (Tr.val default a1).2.2.2.2.2.2.2.2.2.1 (Tr.val default a1).2.2.2.2.2.2.2.2.2.2.1 (Tr.val default a1).2.2.2.2.2.2.2.2.2.2.2.1 (Tr.val default a1).2.2.2.2.2.2.2.2.2.2.2.2.1 (Tr.val default a1).2.2.2.2.2.2.2.2.2.2.2.2.2.1 (Tr.val default a1).2.2.2.2.2.2.2.2.2.2.2.2.2.2.1 (Tr.kids a1) (IntKind.wrap .i64 ((IntKind.wrap .i64 (r8.1 - a4)) + (1 : Int))) r8.2 ([] : List (tU4)))) (K (.p14 a0 (Tr.val default a1).1 (Tr.val default a1).2.1 (Tr.val default a1).2.2.1 (Tr.val default a1).2.2.2.1 (Tr.val default a1).2.2.2.2.1 (Tr.val default a1).2.2.2.2.2.1 (Tr.val default a1).2.2.2.2.2.2.1 (Tr.val default a1).2.2.2.2.2.2.2.1 (Tr.val default a1).2.2.2.2.2.2.2.2.1 (Tr.val default a1).2.2.2.2.2.2.2.2.2.1 (Tr.val default a1).2.2.2.2.2.2.2.2.2.2.1 (Tr.val default a1).2.2.2.2.2.2.2.2.2.2.2.1 (Tr.val default a1).2.2.2.2.2.2.2.2.2.2.2.2.1 (Tr.val default a1).2.2.2.2.2.2.2.2.2.2.2.2.2.1 (Tr.val default a1).2.2.2.2.2.2.2.2.2.2.2.2.2.2.1 (Tr.kids a1) (IntKind.wrap .i64 (r8.1 - (300 : Int))) r8.2 ([] : List (tU4))))) (cond (decide ((Tr.val default a1).1 = (4 : Int))) (cond (inB (0 : Int) (List.length (Tr.kids a1))) ((self (a0, (Tr.node ((Tr.val default (List.getD (Tr.kids a1) (Int.toNat (0 : Int)) default)).1, ((Tr.val default (List.getD (Tr.kids a1) (Int.toNat (0 : Int)) default)).2.1, ((Tr.val default (List.getD (Tr.kids a1) (Int.toNat (0 : Int)) default)).2.2.1, ((Tr.val default (List.getD (Tr.kids a1) (Int.toNat (0 : Int)) default)).2.2.2.1, ((Tr.val default (List.getD (Tr.kids a1) (Int.toNat (0 : Int)) default)).2.2.2.2.1, ((Tr.val default (List.getD (Tr.kids a1) (Int.toNat (0 : Int)) default)).2.2.2.2.2.1, ((Tr.val default (List.getD (Tr.kids a1) (Int.toNat (0 : Int)) default)).2.2.2.2.2.2.1, ((Tr.val default (List.getD (Tr.kids a1) (Int.toNat (0 : Int)) default)).2.2.2.2.2.2.2.1, ((Tr.val default (List.getD (Tr.kids a1) (Int.toNat (0 : Int)) default)).2.2.2.2.2.2.2.2.1, ((Tr.val default (List.getD (Tr.kids a1) (Int.toNat (0 : Int)) default)).2.2.2.2.2.2.2.2.2.1, ((Tr.val default (List.getD (Tr.kids a1) (Int.toNat (0 : Int)) default)).2.2.2.2.2.2.2.2.2.2.1, ((Tr.val default (List.getD (Tr.kids a1) (Int.toNat (0 : Int)) default)).2.2.2.2.2.2.2.2.2.2.2.1, ((Tr.val default (List.getD (Tr.kids a1) (Int.toNat (0 : Int)) default)).2.2.2.2.2.2.2.2.2.2.2.2.1, ((Tr.val default (List.getD (Tr.kids a1) (Int.toNat (0 : Int)) default)).2.2.2.2.2.2.2.2.2.2.2.2.2.1, (Tr.val default (List.getD (Tr.kids a1) (Int.toNat (0 : Int)) default)).2.2.2.2.2.2.2.2.2.2.2.2.2.2)))))))))))))) (Tr.kids (List.getD (Tr.kids a1) (Int.toNat (0 : Int)) default))), a2, a3, (Tr.val default a1).2.1, ())).bind fun r8 => some r8) (none)) (cond (decide ((Tr.val default a1).1 = (5 : Int))) ((spec_l17Moments n ((Tr.val default a1).1, ((Tr.val default a1).2.1, ((Tr.val default a1).2.2.1, ((Tr.val default a1).2.2.2.1, ((Tr.val default a1).2.2.2.2.1, ((Tr.val default a1).2.2.2.2.2.1, ((Tr.val default a1).2.2.2.2.2.2.1, ((Tr.val default a1).2.2.2.2.2.2.2.1, ((Tr.val default a1).2.2.2.2.2.2.2.2.1, ((Tr.val default a1).2.2.2.2.2.2.2.2.2.1, ((Tr.val default a1).2.2.2.2.2.2.2.2.2.2.1, ((Tr.val default a1).2.2.2.2.2.2.2.2.2.2.2.1, ((Tr.val default a1).2.2.2.2.2.2.2.2.2.2.2.2.1, ((Tr.val default a1).2.2.2.2.2.2.2.2.2.2.2.2.2.1, (Tr.val default a1).2.2.2.2.2.2.2.2.2.2.2.2.2.2)))))))))))))) a2 a3).bind fun r8 => cond (inB (0 : Int) (List.length (Tr.kids a1))) ((self (a0, (Tr.node ((Tr.val default (List.getD (Tr.kids a1) (Int.toNat (0 : Int)) default)).1, ((Tr.val default (List.getD (Tr.kids a1) (Int.toNat (0 : Int)) default)).2.1, ((Tr.val default (List.getD (Tr.kids a1) (Int.toNat (0 : Int)) default)).2.2.1, ((Tr.val default (List.getD (Tr.kids a1) (Int.toNat (0 : Int)) default)).2.2.2.1, ((Tr.val default (List.getD (Tr.kids a1) (Int.toNat (0 : Int)) default)).2.2.2.2.1, ((Tr.val default (List.getD (Tr.kids a1) (Int.toNat (0 : Int)) default)).2.2.2.2.2.1, ((Tr.val default (List.getD (Tr.kids a1) (Int.toNat (0 : Int)) default)).2.2.2.2.2.2.1, ((Tr.val default (List.getD (Tr.kids a1) (Int.toNat (0 : Int)) default)).2.2.2.2.2.2.2.1, ((Tr.val default (List.getD (Tr.kids a1) (Int.toNat (0 : Int)) default)).2.2.2.2.2.2.2.2.1, ((Tr.val default (List.getD (Tr.kids a1) (Int.toNat (0 : Int)) default)).2.2.2.2.2.2.2.2.2.1, ((Tr.val default (List.getD (Tr.kids a1) (Int.toNat (0 : Int)) default)).2.2.2.2.2.2.2.2.2.2.1, ((Tr.val default (List.getD (Tr.kids a1) (Int.toNat (0 : Int)) default)).2.2.2.2.2.2.2.2.2.2.2.1, ((Tr.val default (List.getD (Tr.kids a1) (Int.toNat (0 : Int)) default)).2.2.2.2.2.2.2.2.2.2.2.2.1, ((Tr.val default (List.getD (Tr.kids a1) (Int.toNat (0 : Int)) default)).2.2.2.2.2.2.2.2.2.2.2.2.2.1, (Tr.val default (List.getD (Tr.kids a1) (Int.toNat (0 : Int)) default)).2.2.2.2.2.2.2.2.2.2.2.2.2.2)))))))))))))) (Tr.kids (List.getD (Tr.kids a1) (Int.toNat (0 : Int)) default))), (IntKind.wrap .i64 ((IntKind.wrap .i64 (r8.1 - (Tr.val default a1).2.1)) + (1 : Int))), r8.2, (0 : Int), ())).bind fun r9 => some r9) (none)) (K (.p62 a2 a3 (Tr.kids a1) ((List.length (Tr.kids a1)) : Int) (0 : Int) a0))))
  | .p14 y1 y2 y3 y4 y5 y6 y7 y8 y9 y10 y11 y12 y13 y14 y15 y16 y17 y18 y19 y20 => cond (decide (y18 < (0 : Int))) (K (.p20 y1 y2 y3 y4 y5 y6 y7 y8 y9 y10 y11 y12 y13 y14 y15 y16 y17 (0 : Int) y19 y20)) (K (.p20 y1 y2 y3 y4 y5 y6 y7 y8 y9 y10 y11 y12 y13 y14 y15 y16 y17 y18 y19 y20))
  | .p62 y1 y2 y3 y4 y5 y6 => cond (decide (y5 < y4)) (cond (inB y5 (List.length y3)) ((self (y6, (Tr.node ((Tr.val default (List.getD y3 (Int.toNat y5) default)).1, ((Tr.val default (List.getD y3 (Int.toNat y5) default)).2.1, ((Tr.val default (List.getD y3 (Int.toNat y5) default)).2.2.1, ((Tr.val default (List.getD y3 (Int.toNat y5) default)).2.2.2.1, ((Tr.val default (List.getD y3 (Int.toNat y5) default)).2.2.2.2.1, ((Tr.val default (List.getD y3 (Int.toNat y5) default)).2.2.2.2.2.1, ((Tr.val default (List.getD y3 (Int.toNat y5) default)).2.2.2.2.2.2.1, ((Tr.val default (List.getD y3 (Int.toNat y5) default)).2.2.2.2.2.2.2.1, ((Tr.val default (List.getD y3 (Int.toNat y5) default)).2.2.2.2.2.2.2.2.1, ((Tr.val default (List.getD y3 (Int.toNat y5) default)).2.2.2.2.2.2.2.2.2.1, ((Tr.val default (List.getD y3 (Int.toNat y5) default)).2.2.2.2.2.2.2.2.2.2.1, ((Tr.val default (List.getD y3 (Int.toNat y5) default)).2.2.2.2.2.2.2.2.2.2.2.1, ((Tr.val default (List.getD y3 (Int.toNat y5) default)).2.2.2.2.2.2.2.2.2.2.2.2.1, ((Tr.val default (List.getD y3 (Int.toNat y5) default)).2.2.2.2.2.2.2.2.2.2.2.2.2.1, (Tr.val default (List.getD y3 (Int.toNat y5) default)).2.2.2.2.2.2.2.2.2.2.2.2.2.2)))))))))))))) (Tr.kids (List.getD y3 (Int.toNat y5) default))), y1, y2, (0 : Int), ())).bind fun r9 => K (.p62 y1 y2 y3 y4 (IntKind.wrap .i64 (y5 + (1 : Int))) r9)) (none)) (some y6)
  | .p20 y1 y2 y3 y4 y5 y6 y7 y8 y9 y10 y11 y12 y13 y14 y15 y16 y17 y18 y19 y20 => cond (!(seq y5 (⟨#[]⟩ : ByteArray))) (cond (room ((List.length y20) + (List.length [((⟨#[95, 110, 97, 109, 101]⟩ : ByteArray), ((1 : Int), (y5, ())))]))) (K (.p26 y1 y2 y3 y4 y5 y6 y7 y8 y9 y10 y11 y12 y13 y14 y15 y16 y17 y18 y19 (y20 ++ [((⟨#[95, 110, 97, 109, 101]⟩ : ByteArray), ((1 : Int), (y5, ())))]))) (none)) (K (.p26 y1 y2 y3 y4 y5 y6 y7 y8 y9 y10 y11 y12 y13 y14 y15 y16 y17 y18 y19 y20))
  | .p26 y1 y2 y3 y4 y5 y6 y7 y8 y9 y10 y11 y12 y13 y14 y15 y16 y17 y18 y19 y20 => cond (room ((List.length y20) + (List.length y7))) (cond (decide ((0 : Int) ≤ y19)) (cond (room ((List.length y1) + (List.length [((y20 ++ y7), (y18, (y19, ())))]))) (K (.p34 (y1 ++ [((y20 ++ y7), (y18, (y19, ())))]))) (none)) (K (.p34 y1))) (none)
  | .p34 y1 => some y1
def spec_l17Needs (n : Nat) (a0 : List (tU6)) (a1 : Tr (tU1)) (a2 : Int) (a3 : Int) (a4 : Int) : Option (Tup [(.sl false cU5)]) := goRec (fun n K => spec_l17Needs.step n (fun x => K (.p0 x.1 x.2.1 x.2.2.1 x.2.2.2.1 x.2.2.2.2.1)) K) n (.p0 a0 a1 a2 a3 a4)
def spec_l17Needs.spec : Ctr := ⟨16, [.g (.sl false cU5), .v (.tr cU0), .v (.int .i64), .v (.int .i64), .v (.int .i64)], [(.sl false cU5)], [], none, fun n x => spec_l17Needs n x.1 x.2.1 x.2.2.1 x.2.2.2.1 x.2.2.2.2.1⟩
theorem spec_l17Needs.seg_eq (n : Nat) (φ : Ty.Els [.g (.sl false cU5), .v (.tr cU0), .v (.int .i64), .v (.int .i64), .v (.int .i64)] → Option (Tup [(.sl false cU5)])) (goto : Nat → St → Option (Tup [(.sl false cU5)])) (y : spec_l17Needs.Pt) : seg ⟨tyN, gl, spec_l17Needs.md, calOf (spec_l17Needs.spec.at φ :: spec_l17Needs.T) n⟩ spec_l17Needs.F.np spec_l17Needs.F.ks goto (spec_l17Needs.F.fin ⟨tyN, gl, spec_l17Needs.md, calOf spec_l17Needs.T 0⟩ [(.sl false cU5)] none) spec_l17Needs.F.c (spec_l17Needs.lb y) (spec_l17Needs.st y) = spec_l17Needs.step n φ (fun z => goto (spec_l17Needs.lb z) (spec_l17Needs.st z)) y := by
  cases y <;> kernel_rfl
theorem spec_l17Needs.text : Text Go.Proofs.Try.prog spec_l17Needs.F spec_l17Needs.spec := textOf Go.Proofs.Try.f16
theorem spec_l17Needs.ok : CtrOK Go.Proofs.Try.prog gl spec_l17Needs.spec :=
  ctr_rec (T := spec_l17Needs.T) (F := spec_l17Needs.F) (lb := spec_l17Needs.lb) (st := spec_l17Needs.st) (ent := fun x => .p0 x.1 x.2.1 x.2.2.1 x.2.2.2.1 x.2.2.2.2.1) (stp := spec_l17Needs.step) (md := spec_l17Needs.md) tabsN spec_l17Needs.text spec_l17Needs.seg_eq (fun _ => ⟨rfl, rfl⟩) (fun _ _ => rfl) (consC spec_l17Moments.ok (nilC))

/-! loop.example/g00039/spec.NeedsOf -/
def spec_NeedsOf.T : List Ctr := [spec_l3Time.spec, spec_l15Tree.spec, spec_l17Needs.spec]
def spec_NeedsOf.md : List (Nat × List Md) := [(16, [.g (.sl false cU5), .v, .v, .v, .v])]
noncomputable def spec_NeedsOf.F : Fun := ⟨(Go.Proofs.Try.f5.body).getD .skip, [.v (.sl false cU0), .v (.int .i64), .v (.int .i64)], [(.tmp 6, (.sl false cU5))], [], 0, [(6, ⟨[1, 2, 7, 30], [], [(7, 15, (.tr cU0))], false⟩)]⟩
inductive spec_NeedsOf.Pt where
  | p0 (a0 : List (tU1)) (a1 : Int) (a2 : Int)
  | p6 (y1 : Int) (y2 : Int) (y3 : Bool) (y4 : Int) (y5 : Int) (y6 : Int) (y7 : ByteArray) (y8 : Int) (y9 : List (tU4)) (y10 : Int) (y11 : Bool) (y12 : Int) (y13 : Bool) (y14 : Int) (y15 : List (ByteArray)) (y16 : Int) (y17 : List (ByteArray)) (y18 : Int) (y19 : List (Tr (tU1)))
def spec_NeedsOf.lb : spec_NeedsOf.Pt → Nat
  | .p0 _ _ _ => 0
  | .p6 _ _ _ _ _ _ _ _ _ _ _ _ _ _ _ _ _ _ _ => 6
def spec_NeedsOf.st : spec_NeedsOf.Pt → St
  | .p0 a0 a1 a2 => enter [.v (.sl false cU0) a0, .v (.int .i64) a1, .v (.int .i64) a2] 0
  | .p6 y1 y2 y3 y4 y5 y6 y7 y8 y9 y10 y11 y12 y13 y14 y15 y16 y17 y18 y19 => ⟨[(1, .im (.int .i64) y1), (2, .im (.int .i64) y2), (7, .po 0 0), (30, .im .bool y3)], [(0, .obj [.im (.int .i64) y4, .im (.int .i64) y5, .im (.int .i64) y6, .im .str y7, .im (.int .i64) y8, .im (.bs cU3) y9, .im (.int .i64) y10, .im .bool y11, .im (.int .i64) y12, .im .bool y13, .im (.int .i64) y14, .im (.bs .str) y15, .im (.int .i64) y16, .im (.bs .str) y17, .im (.int .i64) y18, .hs 1 [] none 0]), (1, .arr false (.tr cU0) y19 0)], 2⟩
def spec_NeedsOf.step (n : Nat) (K : spec_NeedsOf.Pt → Option (Tup [(.sl false cU5)])) : spec_NeedsOf.Pt → Option (Tup [(.sl false cU5)])
  | .p0 a0 a1 a2 => (spec_l15Tree n a0).bind fun r6 => cond (!r6.2) (K (.p6 a1 a2 true (Tr.val default r6.1).1 (Tr.val default r6.1).2.1 (Tr.val default r6.1).2.2.1 (Tr.val default r6.1).2.2.2.1 (Tr.val default r6.1).2.2.2.2.1 (Tr.val default r6.1).2.2.2.2.2.1 (Tr.val default r6.1).2.2.2.2.2.2.1 (Tr.val default r6.1).2.2.2.2.2.2.2.1 (Tr.val default r6.1).2.2.2.2.2.2.2.2.1 (Tr.val default r6.1).2.2.2.2.2.2.2.2.2.1 (Tr.val default r6.1).2.2.2.2.2.2.2.2.2.2.1 (Tr.val default r6.1).2.2.2.2.2.2.2.2.2.2.2.1 (Tr.val default r6.1).2.2.2.2.2.2.2.2.2.2.2.2.1 (Tr.val default r6.1).2.2.2.2.2.2.2.2.2.2.2.2.2.1 (Tr.val default r6.1).2.2.2.2.2.2.2.2.2.2.2.2.2.2.1 (Tr.kids r6.1))) ((spec_l3Time n a1).bind fun r7 => cond (!r7) (K (.p6 a1 a2 true (Tr.val default r6.1).1 (Tr.val default r6.1).2.1 (Tr.val default r6.1).2.2.1 (Tr.val default r6.1).2.2.2.1 (Tr.val default r6.1).2.2.2.2.1 (Tr.val default r6.1).2.2.2.2.2.1 (Tr.val default r6.1).2.2.2.2.2.2.1 (Tr.val default r6.1).2.2.2.2.2.2.2.1 (Tr.val default r6.1).2.2.2.2.2.2.2.2.1 (Tr.val default r6.1).2.2.2.2.2.2.2.2.2.1 (Tr.val default r6.1).2.2.2.2.2.2.2.2.2.2.1 (Tr.val default r6.1).2.2.2.2.2.2.2.2.2.2.2.1 (Tr.val default r6.1).2.2.2.2.2.2.2.2.2.2.2.2.1 (Tr.val default r6.1).2.2.2.2.2.2.2.2.2.2.2.2.2.1 (Tr.val default r6.1).2.2.2.2.2.2.2.2.2.2.2.2.2.2.1 (Tr.kids r6.1))) ((spec_l3Time n a2).bind fun r8 => cond (!r8) (K (.p6 a1 a2 true (Tr.val default r6.1).1 (Tr.val default r6.1).2.1 (Tr.val default r6.1).2.2.1 (Tr.val default r6.1).2.2.2.1 (Tr.val default r6.1).2.2.2.2.1 (Tr.val default r6.1).2.2.2.2.2.1 (Tr.val default r6.1).2.2.2.2.2.2.1 (Tr.val default r6.1).2.2.2.2.2.2.2.1 (Tr.val default r6.1).2.2.2.2.2.2.2.2.1 (Tr.val default r6.1).2.2.2.2.2.2.2.2.2.1 (Tr.val default r6.1).2.2.2.2.2.2.2.2.2.2.1 (Tr.val default r6.1).2.2.2.2.2.2.2.2.2.2.2.1 (Tr.val default r6.1).2.2.2.2.2.2.2.2.2.2.2.2.1 (Tr.val default r6.1).2.2.2.2.2.2.2.2.2.2.2.2.2.1 (Tr.val default r6.1).2.2.2.2.2.2.2.2.2.2.2.2.2.2.1 (Tr.kids r6.1))) (K (.p6 a1 a2 (decide (a2 < a1)) (Tr.val default r6.1).1 (Tr.val default r6.1).2.1 (Tr.val default r6.1).2.2.1 (Tr.val default r6.1).2.2.2.1 (Tr.val default r6.1).2.2.2.2.1 (Tr.val default r6.1).2.2.2.2.2.1 (Tr.val default r6.1).2.2.2.2.2.2.1 (Tr.val default r6.1).2.2.2.2.2.2.2.1 (Tr.val default r6.1).2.2.2.2.2.2.2.2.1 (Tr.val default r6.1).2.2.2.2.2.2.2.2.2.1 (Tr.val default r6.1).2.2.2.2.2.2.2.2.2.2.1 (Tr.val default r6.1).2.2.2.2.2.2.2.2.2.2.2.1 (Tr.val default r6.1).2.2.2.2.2.2.2.2.2.2.2.2.1 (Tr.val default r6.1).2.2.2.2.2.2.2.2.2.2.2.2.2.1 (Tr.val default r6.1).2.2.2.2.2.2.2.2.2.2.2.2.2.2.1 (Tr.kids r6.1)))))
  | .p6 y1 y2 y3 y4 y5 y6 y7 y8 y9 y10 y11 y12 y13 y14 y15 y16 y17 y18 y19 => cond y3 (some ([] : List (tU6))) ((spec_l17Needs n ([] : List (tU6)) (Tr.node (y4, (y5, (y6, (y7, (y8, (y9, (y10, (y11, (y12, (y13, (y14, (y15, (y16, (y17, (y18, ()))))))))))))))) y19) y1 y2 (0 : Int)).bind fun r22 => some r22)
def spec_NeedsOf (n : Nat) (a0 : List (tU1)) (a1 : Int) (a2 : Int) : Option (Tup [(.sl false cU5)]) := goRec spec_NeedsOf.step n (.p0 a0 a1 a2)
def spec_NeedsOf.spec : Ctr := ⟨5, [.v (.sl false cU0), .v (.int .i64), .v (.int .i64)], [(.sl false cU5)], [], none, fun n x => spec_NeedsOf n x.1 x.2.1 x.2.2.1⟩
theorem spec_NeedsOf.seg_eq : SegEq tyN gl spec_NeedsOf.F spec_NeedsOf.md spec_NeedsOf.T spec_NeedsOf.spec spec_NeedsOf.lb spec_NeedsOf.st spec_NeedsOf.step := by
  intro n goto y; cases y <;> kernel_rfl
theorem spec_NeedsOf.text : Text Go.Proofs.Try.prog spec_NeedsOf.F spec_NeedsOf.spec := textOf Go.Proofs.Try.f5
theorem spec_NeedsOf.ok : CtrOK Go.Proofs.Try.prog gl spec_NeedsOf.spec :=
  ctr_okS tabsN spec_NeedsOf.text spec_NeedsOf.seg_eq (fun n x => ⟨.p0 x.1 x.2.1 x.2.2.1, rfl, rfl, rfl⟩) (consC spec_l3Time.ok (consC spec_l15Tree.ok (consC spec_l17Needs.ok (nilC))))

/-! loop.example/g00039/impl.printed -/
def impl_printed.T : List Ctr := []
def impl_printed.md : List (Nat × List Md) := []
noncomputable def impl_printed.F : Fun := ⟨(Go.Proofs.Try.f42.body).getD .skip, [.v .str, .v (.int .i64)], [(.tmp 4, .bool)], [], 0, [(15, ⟨[0, 11, 12], [], [], false⟩)]⟩
inductive impl_printed.Pt where
  | p0 (a0 : ByteArray) (a1 : Int)
  | p15 (y1 : ByteArray) (y2 : Int) (y3 : Int)
def impl_printed.lb : impl_printed.Pt → Nat
  | .p0 _ _ => 0
  | .p15 _ _ _ => 15
def impl_printed.st : impl_printed.Pt → St
  | .p0 a0 a1 => enter [.v .str a0, .v (.int .i64) a1] 0
  | .p15 y1 y2 y3 => ⟨[(0, .im .str y1), (11, .im (.int .i64) y2), (12, .im (.int .i64) y3)], [], 0⟩
def impl_printed.step (n : Nat) (K : impl_printed.Pt → Option (Tup [.bool])) : impl_printed.Pt → Option (Tup [.bool])
  | .p0 a0 a1 => cond (decide (a1 < ((ByteArray.size a0) : Int))) (some false) (K (.p15 a0 ((ByteArray.size a0) : Int) (0 : Int)))
  | .p15 y1 y2 y3 => cond (decide (y3 < y2)) (cond (inB y3 (ByteArray.size y1)) (cond (decide ((bt y1 y3) < (32 : Int))) (some false) (cond (inB y3 (ByteArray.size y1)) (cond (decide ((126 : Int) < (bt y1 y3))) (some false) (K (.p15 y1 y2 (IntKind.wrap .i64 (y3 + (1 : Int)))))) (none))) (none)) (some true)
def impl_printed (n : Nat) (a0 : ByteArray) (a1 : Int) : Option (Tup [.bool]) := goRec impl_printed.step n (.p0 a0 a1)
def impl_printed.spec : Ctr := ⟨42, [.v .str, .v (.int .i64)], [.bool], [], none, fun n x => impl_printed n x.1 x.2.1⟩
theorem impl_printed.seg_eq : SegEq tyN gl impl_printed.F impl_printed.md impl_printed.T impl_printed.spec impl_printed.lb impl_printed.st impl_printed.step := by
  intro n goto y; cases y <;> kernel_rfl
theorem impl_printed.text : Text Go.Proofs.Try.prog impl_printed.F impl_printed.spec := textOf Go.Proofs.Try.f42
theorem impl_printed.ok : CtrOK Go.Proofs.Try.prog gl impl_printed.spec :=
  ctr_okS tabsN impl_printed.text impl_printed.seg_eq (fun n x => ⟨.p0 x.1 x.2.1, rfl, rfl, rfl⟩) (nilC)

/-! loop.example/g00039/impl.digitByte -/
def impl_digitByte.T : List Ctr := []
def impl_digitByte.md : List (Nat × List Md) := []
noncomputable def impl_digitByte.F : Fun := ⟨(Go.Proofs.Try.f64.body).getD .skip, [.v (.int .u8)], [(.tmp 2, .bool)], [], 0, []⟩
inductive impl_digitByte.Pt where
  | p0 (a0 : Int)
def impl_digitByte.lb : impl_digitByte.Pt → Nat
  | .p0 _ => 0
def impl_digitByte.st : impl_digitByte.Pt → St
  | .p0 a0 => enter [.v (.int .u8) a0] 0
def impl_digitByte.step (n : Nat) (K : impl_digitByte.Pt → Option (Tup [.bool])) : impl_digitByte.Pt → Option (Tup [.bool])
  | .p0 a0 => cond (decide ((48 : Int) ≤ a0)) (some (decide (a0 ≤ (57 : Int)))) (some false)
def impl_digitByte (n : Nat) (a0 : Int) : Option (Tup [.bool]) := goRec impl_digitByte.step n (.p0 a0)
def impl_digitByte.spec : Ctr := ⟨64, [.v (.int .u8)], [.bool], [], none, fun n x => impl_digitByte n x.1⟩
theorem impl_digitByte.seg_eq : SegEq tyN gl impl_digitByte.F impl_digitByte.md impl_digitByte.T impl_digitByte.spec impl_digitByte.lb impl_digitByte.st impl_digitByte.step := by
  intro n goto y; cases y <;> kernel_rfl
theorem impl_digitByte.text : Text Go.Proofs.Try.prog impl_digitByte.F impl_digitByte.spec := textOf Go.Proofs.Try.f64
theorem impl_digitByte.ok : CtrOK Go.Proofs.Try.prog gl impl_digitByte.spec :=
  ctr_okS tabsN impl_digitByte.text impl_digitByte.seg_eq (fun n x => ⟨.p0 x.1, rfl, rfl, rfl⟩) (nilC)

/-! loop.example/g00039/impl.letterByte -/
def impl_letterByte.T : List Ctr := []
def impl_letterByte.md : List (Nat × List Md) := []
noncomputable def impl_letterByte.F : Fun := ⟨(Go.Proofs.Try.f80.body).getD .skip, [.v (.int .u8)], [(.tmp 2, .bool)], [], 0, []⟩
inductive impl_letterByte.Pt where
  | p0 (a0 : Int)
def impl_letterByte.lb : impl_letterByte.Pt → Nat
  | .p0 _ => 0
def impl_letterByte.st : impl_letterByte.Pt → St
  | .p0 a0 => enter [.v (.int .u8) a0] 0
def impl_letterByte.step (n : Nat) (K : impl_letterByte.Pt → Option (Tup [.bool])) : impl_letterByte.Pt → Option (Tup [.bool])
  | .p0 a0 => cond (decide ((97 : Int) ≤ a0)) (cond (decide (a0 ≤ (122 : Int))) (some true) (cond (decide ((65 : Int) ≤ a0)) (some (decide (a0 ≤ (90 : Int)))) (some false))) (cond (decide ((65 : Int) ≤ a0)) (some (decide (a0 ≤ (90 : Int)))) (some false))
def impl_letterByte (n : Nat) (a0 : Int) : Option (Tup [.bool]) := goRec impl_letterByte.step n (.p0 a0)
def impl_letterByte.spec : Ctr := ⟨80, [.v (.int .u8)], [.bool], [], none, fun n x => impl_letterByte n x.1⟩
theorem impl_letterByte.seg_eq : SegEq tyN gl impl_letterByte.F impl_letterByte.md impl_letterByte.T impl_letterByte.spec impl_letterByte.lb impl_letterByte.st impl_letterByte.step := by
  intro n goto y; cases y <;> kernel_rfl
theorem impl_letterByte.text : Text Go.Proofs.Try.prog impl_letterByte.F impl_letterByte.spec := textOf Go.Proofs.Try.f80
theorem impl_letterByte.ok : CtrOK Go.Proofs.Try.prog gl impl_letterByte.spec :=
  ctr_okS tabsN impl_letterByte.text impl_letterByte.seg_eq (fun n x => ⟨.p0 x.1, rfl, rfl, rfl⟩) (nilC)

/-! loop.example/g00039/impl.wordByte -/
def impl_wordByte.T : List Ctr := [impl_digitByte.spec, impl_letterByte.spec]
def impl_wordByte.md : List (Nat × List Md) := []
noncomputable def impl_wordByte.F : Fun := ⟨(Go.Proofs.Try.f65.body).getD .skip, [.v (.int .u8)], [(.tmp 2, .bool)], [], 0, []⟩
inductive impl_wordByte.Pt where
  | p0 (a0 : Int)
def impl_wordByte.lb : impl_wordByte.Pt → Nat
  | .p0 _ => 0
def impl_wordByte.st : impl_wordByte.Pt → St
  | .p0 a0 => enter [.v (.int .u8) a0] 0
def impl_wordByte.step (n : Nat) (K : impl_wordByte.Pt → Option (Tup [.bool])) : impl_wordByte.Pt → Option (Tup [.bool])
  | .p0 a0 => (impl_letterByte n a0).bind fun r4 => cond r4 (some true) ((impl_digitByte n a0).bind fun r5 => cond r5 (some true) (some (decide (a0 = (95 : Int)))))
def impl_wordByte (n : Nat) (a0 : Int) : Option (Tup [.bool]) := goRec impl_wordByte.step n (.p0 a0)
def impl_wordByte.spec : Ctr := ⟨65, [.v (.int .u8)], [.bool], [], none, fun n x => impl_wordByte n x.1⟩
theorem impl_wordByte.seg_eq : SegEq tyN gl impl_wordByte.F impl_wordByte.md impl_wordByte.T impl_wordByte.spec impl_wordByte.lb impl_wordByte.st impl_wordByte.step := by
  intro n goto y; cases y <;> kernel_rfl
theorem impl_wordByte.text : Text Go.Proofs.Try.prog impl_wordByte.F impl_wordByte.spec := textOf Go.Proofs.Try.f65
theorem impl_wordByte.ok : CtrOK Go.Proofs.Try.prog gl impl_wordByte.spec :=
  ctr_okS tabsN impl_wordByte.text impl_wordByte.seg_eq (fun n x => ⟨.p0 x.1, rfl, rfl, rfl⟩) (consC impl_digitByte.ok (consC impl_letterByte.ok (nilC)))

/-! loop.example/g00039/impl.isName -/
def impl_isName.T : List Ctr := [impl_digitByte.spec, impl_wordByte.spec]
def impl_isName.md : List (Nat × List Md) := []
noncomputable def impl_isName.F : Fun := ⟨(Go.Proofs.Try.f43.body).getD .skip, [.v .str], [(.tmp 2, .bool)], [], 0, [(4, ⟨[0, 15], [], [], false⟩), (15, ⟨[0, 17, 18], [], [], false⟩)]⟩
inductive impl_isName.Pt where
  | p0 (a0 : ByteArray)
  | p4 (y1 : ByteArray) (y2 : Bool)
  | p15 (y1 : ByteArray) (y2 : Int) (y3 : Int)
def impl_isName.lb : impl_isName.Pt → Nat
  | .p0 _ => 0
  | .p4 _ _ => 4
  | .p15 _ _ _ => 15
def impl_isName.st : impl_isName.Pt → St
  | .p0 a0 => enter [.v .str a0] 0
  | .p4 y1 y2 => ⟨[(0, .im .str y1), (15, .im .bool y2)], [], 0⟩
  | .p15 y1 y2 y3 => ⟨[(0, .im .str y1), (17, .im (.int .i64) y2), (18, .im (.int .i64) y3)], [], 0⟩
def impl_isName.step (n : Nat) (K : impl_isName.Pt → Option (Tup [.bool])) : impl_isName.Pt → Option (Tup [.bool])
  | .p0 a0 => cond (seq a0 (⟨#[]⟩ : ByteArray)) (K (.p4 a0 true)) (cond (decide ((40 : Int) < ((ByteArray.size a0) : Int))) (K (.p4 a0 true)) (cond (inB (0 : Int) (ByteArray.size a0)) ((impl_digitByte n (bt a0 (0 : Int))).bind fun r4 => K (.p4 a0 r4)) (none)))
  | .p4 y1 y2 => cond y2 (some false) (K (.p15 y1 ((ByteArray.size y1) : Int) (0 : Int)))
  | .p15 y1 y2 y3 => cond (decide (y3 < y2)) (cond (inB y3 (ByteArray.size y1)) ((impl_wordByte n (bt y1 y3)).bind fun r6 => cond (!r6) (some false) (K (.p15 y1 y2 (IntKind.wrap .i64 (y3 + (1 : Int)))))) (none)) (some true)
def impl_isName (n : Nat) (a0 : ByteArray) : Option (Tup [.bool]) := goRec impl_isName.step n (.p0 a0)
def impl_isName.spec : Ctr := ⟨43, [.v .str], [.bool], [], none, fun n x => impl_isName n x.1⟩
theorem impl_isName.seg_eq : SegEq tyN gl impl_isName.F impl_isName.md impl_isName.T impl_isName.spec impl_isName.lb impl_isName.st impl_isName.step := by
  intro n goto y; cases y <;> kernel_rfl
theorem impl_isName.text : Text Go.Proofs.Try.prog impl_isName.F impl_isName.spec := textOf Go.Proofs.Try.f43
theorem impl_isName.ok : CtrOK Go.Proofs.Try.prog gl impl_isName.spec :=
  ctr_okS tabsN impl_isName.text impl_isName.seg_eq (fun n x => ⟨.p0 x.1, rfl, rfl, rfl⟩) (consC impl_digitByte.ok (consC impl_wordByte.ok (nilC)))

/-! loop.example/g00039/impl.Functions -/
def impl_Functions.T : List Ctr := []
def impl_Functions.md : List (Nat × List Md) := []
noncomputable def impl_Functions.F : Fun := ⟨(Go.Proofs.Try.f73.body).getD .skip, [], [(.tmp 0, (.sl false .str))], [], 0, []⟩
inductive impl_Functions.Pt where
  | p0
def impl_Functions.lb : impl_Functions.Pt → Nat
  | .p0 => 0
def impl_Functions.st : impl_Functions.Pt → St
  | .p0 => enter [] 0
def impl_Functions.step (n : Nat) (K : impl_Functions.Pt → Option (Tup [(.sl false .str)])) : impl_Functions.Pt → Option (Tup [(.sl false .str)])
  | .p0 => some [(⟨#[97, 98, 115]⟩ : ByteArray), (⟨#[97, 98, 115, 101, 110, 116]⟩ : ByteArray), (⟨#[97, 118, 103, 95, 111, 118, 101, 114]⟩ : ByteArray), (⟨#[99, 104, 97, 110, 103, 101, 115]⟩ : ByteArray), (⟨#[99, 108, 97, 109, 112]⟩ : ByteArray), (⟨#[99, 111, 117, 110, 116, 95, 111, 118, 101, 114]⟩ : ByteArray), (⟨#[100, 101, 108, 116, 97]⟩ : ByteArray), (⟨#[104, 105, 115, 116, 95, 113, 117, 97, 110, 116, 105, 108, 101]⟩ : ByteArray), (⟨#[108, 97, 98, 101, 108, 95, 106, 111, 105, 110]⟩ : ByteArray), (⟨#[108, 97, 98, 101, 108, 95, 115, 101, 116]⟩ : ByteArray), (⟨#[108, 97, 115, 116, 95, 111, 118, 101, 114]⟩ : ByteArray), (⟨#[109, 97, 120, 95, 111, 118, 101, 114]⟩ : ByteArray), (⟨#[109, 105, 110, 95, 111, 118, 101, 114]⟩ : ByteArray), (⟨#[112, 114, 101, 100, 105, 99, 116]⟩ : ByteArray), (⟨#[113, 117, 97, 110, 116, 105, 108, 101, 95, 111, 118, 101, 114]⟩ : ByteArray), (⟨#[114, 97, 116, 101]⟩ : ByteArray), (⟨#[114, 101, 115, 101, 116, 115]⟩ : ByteArray), (⟨#[114, 105, 115, 101]⟩ : ByteArray), (⟨#[115, 99, 97, 108, 97, 114]⟩ : ByteArray), (⟨#[115, 117, 109, 95, 111, 118, 101, 114]⟩ : ByteArray), (⟨#[116, 105, 109, 101]⟩ : ByteArray), (⟨#[116, 105, 109, 101, 115, 116, 97, 109, 112]⟩ : ByteArray), (⟨#[118, 101, 99, 116, 111, 114]⟩ : ByteArray)]
def impl_Functions (n : Nat) : Option (Tup [(.sl false .str)]) := goRec impl_Functions.step n (.p0)
def impl_Functions.spec : Ctr := ⟨73, [], [(.sl false .str)], [], none, fun n x => impl_Functions n⟩
theorem impl_Functions.seg_eq : SegEq tyN gl impl_Functions.F impl_Functions.md impl_Functions.T impl_Functions.spec impl_Functions.lb impl_Functions.st impl_Functions.step := by
  intro n goto y; cases y <;> kernel_rfl
theorem impl_Functions.text : Text Go.Proofs.Try.prog impl_Functions.F impl_Functions.spec := textOf Go.Proofs.Try.f73
theorem impl_Functions.ok : CtrOK Go.Proofs.Try.prog gl impl_Functions.spec :=
  ctr_okS tabsN impl_Functions.text impl_Functions.seg_eq (fun n x => ⟨.p0, rfl, rfl, rfl⟩) (nilC)

/-! slices.Index[[]string,string] -/
def slices_Index_string.T : List Ctr := []
def slices_Index_string.md : List (Nat × List Md) := []
noncomputable def slices_Index_string.F : Fun := ⟨(Go.Proofs.Try.f81.body).getD .skip, [.v (.sl false .str), .v .str], [(.tmp 4, (.int .i64))], [], 0, [(7, ⟨[0, 1, 7, 8], [], [], false⟩)]⟩
inductive slices_Index_string.Pt where
  | p0 (a0 : List (ByteArray)) (a1 : ByteArray)
  | p7 (y1 : List (ByteArray)) (y2 : ByteArray) (y3 : Int) (y4 : Int)
def slices_Index_string.lb : slices_Index_string.Pt → Nat
  | .p0 _ _ => 0
  | .p7 _ _ _ _ => 7
def slices_Index_string.st : slices_Index_string.Pt → St
  | .p0 a0 a1 => enter [.v (.sl false .str) a0, .v .str a1] 0
  | .p7 y1 y2 y3 y4 => ⟨[(0, .im (.sl false .str) y1), (1, .im .str y2), (7, .im (.int .i64) y3), (8, .im (.int .i64) y4)], [], 0⟩
def slices_Index_string.step (n : Nat) (K : slices_Index_string.Pt → Option (Tup [(.int .i64)])) : slices_Index_string.Pt → Option (Tup [(.int .i64)])
  | .p0 a0 a1 => K (.p7 a0 a1 ((List.length a0) : Int) (0 : Int))
  | .p7 y1 y2 y3 y4 => cond (decide (y4 < y3)) (cond (inB y4 (List.length y1)) (cond (seq y2 (List.getD y1 (Int.toNat y4) default)) (some y4) (K (.p7 y1 y2 y3 (IntKind.wrap .i64 (y4 + (1 : Int)))))) (none)) (some (-(1 : Int)))
def slices_Index_string (n : Nat) (a0 : List (ByteArray)) (a1 : ByteArray) : Option (Tup [(.int .i64)]) := goRec slices_Index_string.step n (.p0 a0 a1)
def slices_Index_string.spec : Ctr := ⟨81, [.v (.sl false .str), .v .str], [(.int .i64)], [], none, fun n x => slices_Index_string n x.1 x.2.1⟩
theorem slices_Index_string.seg_eq : SegEq ty gl slices_Index_string.F slices_Index_string.md slices_Index_string.T slices_Index_string.spec slices_Index_string.lb slices_Index_string.st slices_Index_string.step := by
  intro n goto y; cases y <;> kernel_rfl
theorem slices_Index_string.text : Text Go.Proofs.Try.prog slices_Index_string.F slices_Index_string.spec := textOf Go.Proofs.Try.f81
theorem slices_Index_string.ok : CtrOK Go.Proofs.Try.prog gl slices_Index_string.spec :=
  ctr_okS tabs slices_Index_string.text slices_Index_string.seg_eq (fun n x => ⟨.p0 x.1 x.2.1, rfl, rfl, rfl⟩) (nilC)

/-! slices.Contains[[]string,string] -/
def slices_Contains_string.T : List Ctr := [slices_Index_string.spec]
def slices_Contains_string.md : List (Nat × List Md) := []
noncomputable def slices_Contains_string.F : Fun := ⟨(Go.Proofs.Try.f66.body).getD .skip, [.v (.sl false .str), .v .str], [(.tmp 4, .bool)], [], 0, []⟩
inductive slices_Contains_string.Pt where
  | p0 (a0 : List (ByteArray)) (a1 : ByteArray)
def slices_Contains_string.lb : slices_Contains_string.Pt → Nat
  | .p0 _ _ => 0
def slices_Contains_string.st : slices_Contains_string.Pt → St
  | .p0 a0 a1 => enter [.v (.sl false .str) a0, .v .str a1] 0
def slices_Contains_string.step (n : Nat) (K : slices_Contains_string.Pt → Option (Tup [.bool])) : slices_Contains_string.Pt → Option (Tup [.bool])
  | .p0 a0 a1 => (slices_Index_string n a0 a1).bind fun (r5 : Int) => some (decide ((0 : Int) ≤ r5))
def slices_Contains_string (n : Nat) (a0 : List (ByteArray)) (a1 : ByteArray) : Option (Tup [.bool]) := goRec slices_Contains_string.step n (.p0 a0 a1)
def slices_Contains_string.spec : Ctr := ⟨66, [.v (.sl false .str), .v .str], [.bool], [], none, fun n x => slices_Contains_string n x.1 x.2.1⟩
theorem slices_Contains_string.seg_eq : SegEq ty gl slices_Contains_string.F slices_Contains_string.md slices_Contains_string.T slices_Contains_string.spec slices_Contains_string.lb slices_Contains_string.st slices_Contains_string.step := by
  intro n goto y; cases y <;> kernel_rfl
theorem slices_Contains_string.text : Text Go.Proofs.Try.prog slices_Contains_string.F slices_Contains_string.spec := textOf Go.Proofs.Try.f66
theorem slices_Contains_string.ok : CtrOK Go.Proofs.Try.prog gl slices_Contains_string.spec :=
  ctr_okS tabs slices_Contains_string.text slices_Contains_string.seg_eq (fun n x => ⟨.p0 x.1 x.2.1, rfl, rfl, rfl⟩) (consC slices_Index_string.ok (nilC))

/-! loop.example/g00039/impl.isFunction -/
def impl_isFunction.T : List Ctr := [impl_Functions.spec, slices_Contains_string.spec]
def impl_isFunction.md : List (Nat × List Md) := []
noncomputable def impl_isFunction.F : Fun := ⟨(Go.Proofs.Try.f50.body).getD .skip, [.v .str], [(.tmp 2, .bool)], [], 0, []⟩
inductive impl_isFunction.Pt where
  | p0 (a0 : ByteArray)
def impl_isFunction.lb : impl_isFunction.Pt → Nat
  | .p0 _ => 0
def impl_isFunction.st : impl_isFunction.Pt → St
  | .p0 a0 => enter [.v .str a0] 0
def impl_isFunction.step (n : Nat) (K : impl_isFunction.Pt → Option (Tup [.bool])) : impl_isFunction.Pt → Option (Tup [.bool])
  | .p0 a0 => (impl_Functions n).bind fun r4 => (slices_Contains_string n r4 a0).bind fun r5 => some r5
def impl_isFunction (n : Nat) (a0 : ByteArray) : Option (Tup [.bool]) := goRec impl_isFunction.step n (.p0 a0)
def impl_isFunction.spec : Ctr := ⟨50, [.v .str], [.bool], [], none, fun n x => impl_isFunction n x.1⟩
theorem impl_isFunction.seg_eq : SegEq tyN gl impl_isFunction.F impl_isFunction.md impl_isFunction.T impl_isFunction.spec impl_isFunction.lb impl_isFunction.st impl_isFunction.step := by
  intro n goto y; cases y <;> kernel_rfl
theorem impl_isFunction.text : Text Go.Proofs.Try.prog impl_isFunction.F impl_isFunction.spec := textOf Go.Proofs.Try.f50
theorem impl_isFunction.ok : CtrOK Go.Proofs.Try.prog gl impl_isFunction.spec :=
  ctr_okS tabsN impl_isFunction.text impl_isFunction.seg_eq (fun n x => ⟨.p0 x.1, rfl, rfl, rfl⟩) (consC impl_Functions.ok (consC slices_Contains_string.ok (nilC)))

/-! loop.example/g00039/impl.isWord -/
def impl_isWord.T : List Ctr := [slices_Contains_string.spec, impl_isFunction.spec]
def impl_isWord.md : List (Nat × List Md) := []
noncomputable def impl_isWord.F : Fun := ⟨(Go.Proofs.Try.f44.body).getD .skip, [.v .str], [(.tmp 2, .bool)], [], 0, []⟩
inductive impl_isWord.Pt where
  | p0 (a0 : ByteArray)
def impl_isWord.lb : impl_isWord.Pt → Nat
  | .p0 _ => 0
def impl_isWord.st : impl_isWord.Pt → St
  | .p0 a0 => enter [.v .str a0] 0
def impl_isWord.step (n : Nat) (K : impl_isWord.Pt → Option (Tup [.bool])) : impl_isWord.Pt → Option (Tup [.bool])
  | .p0 a0 => (impl_isFunction n a0).bind fun r4 => cond r4 (some true) ((slices_Contains_string n [(⟨#[97, 110, 100]⟩ : ByteArray), (⟨#[97, 118, 103]⟩ : ByteArray), (⟨#[98, 111, 111, 108]⟩ : ByteArray), (⟨#[98, 111, 116, 116, 111, 109, 107]⟩ : ByteArray), (⟨#[98, 121]⟩ : ByteArray), (⟨#[99, 111, 117, 110, 116]⟩ : ByteArray), (⟨#[103, 114, 111, 117, 112, 95, 108, 101, 102, 116]⟩ : ByteArray), (⟨#[103, 114, 111, 117, 112, 95, 114, 105, 103, 104, 116]⟩ : ByteArray), (⟨#[105, 103, 110, 111, 114, 105, 110, 103]⟩ : ByteArray), (⟨#[109, 97, 120]⟩ : ByteArray), (⟨#[109, 105, 110]⟩ : ByteArray), (⟨#[111, 102, 102, 115, 101, 116]⟩ : ByteArray), (⟨#[111, 110]⟩ : ByteArray), (⟨#[111, 114]⟩ : ByteArray), (⟨#[113, 117, 97, 110, 116, 105, 108, 101]⟩ : ByteArray), (⟨#[115, 117, 109]⟩ : ByteArray), (⟨#[116, 111, 112, 107]⟩ : ByteArray), (⟨#[117, 110, 108, 101, 115, 115]⟩ : ByteArray), (⟨#[119, 105, 116, 104, 111, 117, 116]⟩ : ByteArray)] a0).bind fun r5 => some r5)
def impl_isWord (n : Nat) (a0 : ByteArray) : Option (Tup [.bool]) := goRec impl_isWord.step n (.p0 a0)
def impl_isWord.spec : Ctr := ⟨44, [.v .str], [.bool], [], none, fun n x => impl_isWord n x.1⟩
theorem impl_isWord.seg_eq : SegEq tyN gl impl_isWord.F impl_isWord.md impl_isWord.T impl_isWord.spec impl_isWord.lb impl_isWord.st impl_isWord.step := by
  intro n goto y; cases y <;> kernel_rfl
theorem impl_isWord.text : Text Go.Proofs.Try.prog impl_isWord.F impl_isWord.spec := textOf Go.Proofs.Try.f44
theorem impl_isWord.ok : CtrOK Go.Proofs.Try.prog gl impl_isWord.spec :=
  ctr_okS tabsN impl_isWord.text impl_isWord.seg_eq (fun n x => ⟨.p0 x.1, rfl, rfl, rfl⟩) (consC slices_Contains_string.ok (consC impl_isFunction.ok (nilC)))

/-! strings.IndexByte -/
def strings_IndexByte (n : Nat) (a0 : ByteArray) (a1 : Int) : Option Int := hold n (some (Lib.indexByte a0.data.toList a1.toNat.toUInt8))
def strings_IndexByte.spec : Ctr := ⟨90, [.v .str, .v (.int .u8)], [.int .i64], [], none, fun n x => strings_IndexByte n x.1 x.2.1⟩
section
open Go.Proofs
def layIndexByte_ren : Go.Shelf.Ren := ⟨fun | 137 => 90 | 217 => 91 | 266 => 92 | n => n, fun | 9 => 9 | 5 => 5 | 3 => 3 | n => n, fun | n => n⟩
theorem layIndexByte : Go.Proofs.Lays.n137 Try.prog layIndexByte_ren where
  mixed := by kernel_rfl
  f137 := Try.func90.trans (congrArg some (by kernel_rfl))
  f217 := Try.func91.trans (congrArg some (by kernel_rfl))
  f266 := Try.func92.trans (congrArg some (by kernel_rfl))
  t3 := Try.underlying3
  a3 := Try.isAgg3
  z3 := Try.sizeOf3
  v3 := Try.zeroValue3
  t5 := Try.underlying5
  a5 := Try.isAgg5
  z5 := Try.sizeOf5
  v5 := Try.zeroValue5
  t9 := Try.underlying9
  a9 := Try.isAgg9
  z9 := Try.sizeOf9
  v9 := Try.zeroValue9

end
theorem strings_IndexByte.ok : CtrOK Go.Proofs.Try.prog gl strings_IndexByte.spec := by
  refine fun n => ⟨⟨Go.Proofs.Try.f90, by kernel_rfl, by kernel_rfl, by decide +kernel⟩, ?_⟩
  intro inst
  rintro ⟨a0, a1, ⟨⟩⟩ y hy
  obtain rfl := Option.some.inj (hold_some hy)
  intro w vs S L harg _ hL hSL hG
  change ArgsRep w [Arg.v .str a0, Arg.v (.int .u8) a1] vs S L at harg
  unfold ArgsRep at harg
  obtain ⟨v0, vr, S1, S2, L1, L2, rfl, rfl, rfl, h1, harg⟩ := harg
  unfold ArgsRep at harg
  obtain ⟨v1, vr, S3, S4, L3, L4, rfl, rfl, rfl, h2, harg⟩ := harg
  unfold ArgsRep at harg
  obtain ⟨rfl, rfl, rfl⟩ := harg
  unfold ArgRep at h1 h2
  obtain ⟨_, ⟨cs, rfl, rfl, rfl⟩, rfl⟩ := h1
  obtain ⟨_, ⟨cs, rfl, rfl, rfl⟩, rfl⟩ := h2
  refine (Go.Proofs.Any.strings_IndexByte layIndexByte a0 a1 w).mono ?_
  rintro e w' ⟨rfl, rfl⟩
  refine ⟨[.int .i64 (Lib.indexByte a0.data.toList a1.toNat.toUInt8)], [], [], rfl, ⟨_, [], [], [], rfl, rfl, rfl, ⟨rfl, rfl⟩, rfl, rfl⟩, ?_, by simp, by simp, rfl, rfl, rfl, Nat.le_refl _, fun _ _ _ => rfl⟩
  change OutsRep _ w' [Arg.v .str a0, Arg.v (.int .u8) a1] _ _ _
  simp only [OutsRep, OutRep]
  exact ⟨_, _, [], [], [], [], rfl, rfl, rfl, ⟨rfl, rfl⟩, _, _, [], [], [], [], rfl, rfl, rfl, ⟨rfl, rfl⟩, rfl, rfl⟩


/-! loop.example/g00039/impl.alternatives$1 -/
abbrev PC : U := .pair (.int .u8) (.pair .bool (.pair .bool .unit))
def impl_alternatives_1 (n : Nat) (a0 : PC.El) (a1 : List (List PC.El)) : Option (List (List PC.El)) :=
  hold n (cond (decide (a1 ≠ [] ∧ a1.length ≤ 1000000 ∧ (a1.getD (a1.length - 1) []).length ≤ 1000000)) (some (a1.set (a1.length - 1) (a1.getD (a1.length - 1) [] ++ [a0]))) none)
def impl_alternatives_1.spec : Ctr := ⟨89, [.v PC, .p (.sl false (.sl false PC))], [], [.sl false (.sl false PC)], none, fun n x => impl_alternatives_1 n x.1 x.2.1⟩
section
open Go.RowKit Go.Proofs
set_option maxHeartbeats 8000000 in
set_option maxRecDepth 100000 in
theorem put_calls (ht : TyOK Try.prog 106 (.sl false PC)) (c : Int) (x y : Bool) (b g q cap : Nat) (cur : Array Value) (v : Value) (l : List PC.El) (T1 T2 : TypeId) (fz : Nat × Nat) (F2 : List Nat) (W : World)
    (hb : W.heap[b]? = some (.cells #[.slice (some ⟨g, 0, none⟩) (q + 1) cap] T1 (0, 0))) (hg : W.heap[g]? = some (.cells cur T2 fz)) (hfz : ∀ j, j < cur.size → ¬ (fz.1 ≤ j ∧ j < fz.2))
    (hn2 : q ≤ 1000000) (hv : cur[q]? = some v) (hs : SlRep W true false 3 (Rep W true PC) l v F2) (hF2 : F2.Nodup) (hbF : b ∉ F2) (hgF : g ∉ F2) (hbg : b ≠ g) (hl : l.length ≤ 1000000) :
    Calls Try.prog 89 #[.agg #[.int .u8 c, .bool x, .bool y], .pointer (some ⟨b, 0, none⟩)] W fun e w' => e = .returned (.tuple #[]) ∧ ∃ v1 F3,
      SlRep w' true false 3 (Rep w' true PC) (l ++ [(c, x, y, ())]) v1 F3 ∧ F3.Nodup ∧ w'.heap[g]? = some (.cells (cur.setIfInBounds q v1) T2 fz) ∧ w'.os = W.os ∧ w'.tape = W.tape ∧ w'.output = W.output ∧ W.heap.size ≤ w'.heap.size ∧
      (∀ k, k < W.heap.size → k ≠ g → k ∉ F2 → w'.heap[k]? = W.heap[k]?) ∧ (∀ k ∈ F3, k < w'.heap.size ∧ (k < W.heap.size → k ∈ F2)) := by
  have e1 : wrap64 (((q + 1 : Nat) : Int) - 1) = (q : Int) := by unfold wrap64; omega
  have e2 : wrap64 (q : Int) = (q : Int) := by unfold wrap64; omega
  have hlt := lt_of_heap hb
  have hltg := lt_of_heap hg
  have hqs : q < cur.size := by
    rcases Nat.lt_or_ge q cur.size with h | h
    · exact h
    · rw [Array.getElem?_eq_none h] at hv; cases hv
  go_enter Try.func89, Try.ntmps89
  go_wp2
  have hbx : (W.alloc (.cells #[.int .u8 c, .bool x, .bool y] 105)).drew.heap[W.heap.size]? = some (.cells #[.int .u8 c, .bool x, .bool y] 105 (0, 0)) := alloc_new W _
  have hold : ∀ k, k < W.heap.size → (W.alloc (.cells #[.int .u8 c, .bool x, .bool y] 105)).drew.heap[k]? = W.heap[k]? := fun k hk => alloc_old W _ hk
  have hb1 := (hold b hlt).trans hb
  have hg1 := (hold g hltg).trans hg
  have hsz1 : (W.alloc (.cells #[.int .u8 c, .bool x, .bool y] 105)).drew.heap.size = W.heap.size + 1 := alloc_sz _ _
  have hFlt : ∀ k ∈ F2, k < W.heap.size := fun k hk => Rep.block_lt (u := .sl false PC) (cs := [v]) ⟨v, rfl, .inl hs⟩ k hk
  have hs1 : SlRep (W.alloc (.cells #[.int .u8 c, .bool x, .bool y] 105)).drew true false 3 (Rep (W.alloc (.cells #[.int .u8 c, .bool x, .bool y] 105)).drew true PC) l v F2 := SlRep.frame (u := PC) (fun k hk => hold k (hFlt k hk)) hs
  have hos1 : (W.alloc (.cells #[.int .u8 c, .bool x, .bool y] 105)).drew.os = W.os ∧ (W.alloc (.cells #[.int .u8 c, .bool x, .bool y] 105)).drew.tape = W.tape ∧ (W.alloc (.cells #[.int .u8 c, .bool x, .bool y] 105)).drew.output = W.output := ⟨rfl, rfl, rfl⟩
  refine start_ (n := 15) (S := fun w' => w'.cell? ⟨b, 0, none⟩ = some (.slice (some ⟨g, 0, none⟩) (q + 1) cap) ∧ w'.cell? ⟨g, q, none⟩ = some v ∧ w'.cell? ⟨W.heap.size, 0, none⟩ = some (.int .u8 c) ∧ w'.cell? ⟨W.heap.size, 1, none⟩ = some (.bool x) ∧ w'.cell? ⟨W.heap.size, 2, none⟩ = some (.bool y)) (ds := [14]) #[false, false, false, false, false, false, false, false, false, false, false, false, false, false, false] (by kernel_rfl) rfl rfl ⟨(cell_row hb1).trans rfl, (cell_row hg1).trans hv, (cell_row hbx).trans rfl, (cell_row hbx).trans rfl, (cell_row hbx).trans rfl⟩ (fun hHeld => ?_)
  generalize (W.alloc (.cells #[.int .u8 c, .bool x, .bool y] 105)).drew = W1 at hold hsz1 hbx hb1 hg1 hs1 hos1 hHeld ⊢
  refine take_ (i := 0) (N := some 3) (v := ?_) (a' := ?_) #[true, false, false, false, false, false, false, false, false, false, false, false, false, false, false] rfl rfl (by kernel_rfl) (fun _ _ _ h => h) (Or.inl ⟨by rfl, ?_⟩) hHeld ?_ ?_
  rotate_left
  · rintro w' ⟨s0, s1, s2, s3, s4⟩
    go_simp
    try with_reducible rfl
  rotate_left
  · simp only [Act.put, List.setIfInBounds_toArray, List.set_cons_zero, List.set_cons_succ, i64_w, i32_w]
    rfl
  refine take_ (i := 1) (N := some 4) (v := ?_) (a' := ?_) #[true, true, false, false, false, false, false, false, false, false, false, false, false, false, false] rfl rfl (by kernel_rfl) (fun _ _ _ h => h) (Or.inl ⟨by rfl, ?_⟩) hHeld ?_ ?_
  rotate_left
  · rintro w' ⟨s0, s1, s2, s3, s4⟩
    go_simp
    try with_reducible rfl
  rotate_left
  · simp only [Act.put, List.setIfInBounds_toArray, List.set_cons_zero, List.set_cons_succ, i64_w, i32_w]
    rfl
  refine pure_ (i := 2) (N := some 5) (v := ?_) (a' := ?_) #[true, true, true, false, false, false, false, false, false, false, false, false, false, false, false] rfl rfl (by kernel_rfl) (fun _ _ _ h => h) (Or.inl ⟨by rfl, ?_⟩) ?_ ?_
  rotate_left
  · intro w'
    go_simp
    try with_reducible rfl
  rotate_left
  · simp only [Act.put, List.setIfInBounds_toArray, List.set_cons_zero, List.set_cons_succ, i64_w, i32_w]
    rfl
  refine pure_ (i := 3) (N := some 6) (v := ?_) (a' := ?_) #[true, true, true, true, false, false, false, false, false, false, false, false, false, false, false] rfl rfl (by kernel_rfl) (fun _ _ _ h => h) (Or.inl ⟨by rfl, ?_⟩) ?_ ?_
  rotate_left
  · intro w'
    go_simp
    try with_reducible rfl
  rotate_left
  · simp only [Act.put, List.setIfInBounds_toArray, List.set_cons_zero, List.set_cons_succ, i64_w, i32_w]
    rfl
  refine take_ (i := 4) (N := some 7) (v := ?_) (a' := ?_) #[true, true, true, true, true, false, false, false, false, false, false, false, false, false, false] rfl rfl (by kernel_rfl) (fun _ _ _ h => h) (Or.inl ⟨by rfl, ?_⟩) hHeld ?_ ?_
  rotate_left
  · rintro w' ⟨s0, s1, s2, s3, s4⟩
    go_simp
    try with_reducible rfl
  rotate_left
  · simp only [Act.put, List.setIfInBounds_toArray, List.set_cons_zero, List.set_cons_succ, i64_w, i32_w]
    rfl
  refine take_ (i := 5) (N := some 8) (v := ?_) (a' := ?_) #[true, true, true, true, true, true, false, false, false, false, false, false, false, false, false] rfl rfl (by kernel_rfl) (fun _ _ _ h => h) (Or.inl ⟨by rfl, ?_⟩) hHeld ?_ ?_
  rotate_left
  · rintro w' ⟨s0, s1, s2, s3, s4⟩
    go_simp
    try with_reducible rfl
  rotate_left
  · simp only [Act.put, List.setIfInBounds_toArray, List.set_cons_zero, List.set_cons_succ, i64_w, i32_w]
    rfl
  refine pure_ (i := 6) (N := some 9) (v := ?_) (a' := ?_) #[true, true, true, true, true, true, true, false, false, false, false, false, false, false, false] rfl rfl (by kernel_rfl) (fun _ _ _ h => h) (Or.inl ⟨by rfl, ?_⟩) ?_ ?_
  rotate_left
  · intro w'
    go_simp
    try with_reducible rfl
  rotate_left
  · simp only [Act.put, List.setIfInBounds_toArray, List.set_cons_zero, List.set_cons_succ, i64_w, i32_w]
    rfl
  refine pure_ (i := 7) (N := some 10) (v := ?_) (a' := ?_) #[true, true, true, true, true, true, true, true, false, false, false, false, false, false, false] rfl rfl (by kernel_rfl) (fun _ _ _ h => h) (Or.inl ⟨by rfl, ?_⟩) ?_ ?_
  rotate_left
  · intro w'
    go_simp
    try with_reducible rfl
  rotate_left
  · simp only [Act.put, List.setIfInBounds_toArray, List.set_cons_zero, List.set_cons_succ, i64_w, i32_w]
    rfl
  refine pure_ (i := 8) (N := some 11) (v := ?_) (a' := ?_) #[true, true, true, true, true, true, true, true, true, false, false, false, false, false, false] rfl rfl (by kernel_rfl) (fun _ _ _ h => h) (Or.inl ⟨by rfl, ?_⟩) ?_ ?_
  rotate_left
  · intro w'
    go_simp
    rw [if_pos (by omega)]
  rotate_left
  · simp only [Act.put, List.setIfInBounds_toArray, List.set_cons_zero, List.set_cons_succ, i64_w, i32_w]
    rfl
  refine take_ (i := 9) (N := some 12) (v := ?_) (a' := ?_) #[true, true, true, true, true, true, true, true, true, true, false, false, false, false, false] rfl rfl (by kernel_rfl) (fun _ _ _ h => h) (Or.inl ⟨by rfl, ?_⟩) hHeld ?_ ?_
  rotate_left
  · rintro w' ⟨s0, s1, s2, s3, s4⟩
    go_simp
    try with_reducible rfl
  rotate_left
  · simp only [Act.put, List.setIfInBounds_toArray, List.set_cons_zero, List.set_cons_succ, i64_w, i32_w]
    rfl
  refine take_ (i := 10) (N := some 13) (v := ?_) (a' := ?_) #[true, true, true, true, true, true, true, true, true, true, true, false, false, false, false] rfl rfl (by kernel_rfl) (fun _ _ _ h => h) (Or.inl ⟨by rfl, ?_⟩) hHeld ?_ ?_
  rotate_left
  · rintro w' ⟨s0, s1, s2, s3, s4⟩
    go_simp
    try with_reducible rfl
  rotate_left
  · simp only [Act.put, List.setIfInBounds_toArray, List.set_cons_zero, List.set_cons_succ, i64_w, i32_w]
    rfl
  clear hHeld
  have hW2 : ∀ k, k < W1.heap.size → (W1.alloc (.cells #[.int .u8 c, .bool x, .bool y] 105)).heap[k]? = W1.heap[k]? := fun k hk => alloc_old W1 _ hk
  have hnew : (W1.alloc (.cells #[.int .u8 c, .bool x, .bool y] 105)).heap[W1.heap.size]? = some (.cells #[.int .u8 c, .bool x, .bool y] 105 (0, 0)) := alloc_new W1 _
  have hb2 := (hW2 b (lt_of_heap hb1)).trans hb1
  have hg2 := (hW2 g (lt_of_heap hg1)).trans hg1
  have hbx2 := (hW2 _ (lt_of_heap hbx)).trans hbx
  refine one_ (i := 11) (N := some 14) #[true, true, true, true, true, true, true, true, true, true, true, true, false, false, false] rfl rfl (by kernel_rfl) (by decide) (fun K hK => ?_)
  refine event_step (w1 := W1.alloc (.cells #[.int .u8 c, .bool x, .bool y] 105)) (v := .slice (some ⟨W1.heap.size, 0, none⟩) 1 1) (by rfl) (by first | (go_simp; done) | (go_simp; rfl)) ?_
  refine hK.out _ _ ⟨(cell_row hb2).trans rfl, (cell_row hg2).trans hv, (cell_row hbx2).trans rfl, (cell_row hbx2).trans rfl, (cell_row hbx2).trans rfl⟩ (fun hHeld => ?_)
  clear hK K hHeld
  refine norm_ (a' := ?_) ?_ ?_
  rotate_left
  · show Act.put _ (some 14) _ = _
    simp only [Act.put, List.setIfInBounds_toArray, List.set_cons_zero, List.set_cons_succ, i64_w, i32_w]
    rfl
  have hs2 : SlRep (W1.alloc (.cells #[.int .u8 c, .bool x, .bool y] 105)) true false 3 (Rep (W1.alloc (.cells #[.int .u8 c, .bool x, .bool y] 105)) true PC) l v F2 := SlRep.frame (u := PC) (fun k hk => hW2 k (by have := hFlt k hk; omega)) hs1
  obtain ⟨v1, w2, F3, hrun, hs3, hF3, ho1, ho2, ho3, hsz2, hfr, hF3b⟩ := append_run (P := Try.prog) (ty := 106) (t := 106) (e := false) (u := PC) (l := l) (m := [(c, x, y, ())]) (dd := ⟨W1.heap.size, 0, none⟩) (cs := [.int .u8 c, .bool x, .bool y]) ht rfl hs2 hF2
    ⟨[.int .u8 c, .bool x, .bool y], [], [], [], rfl, rfl, ⟨[.int .u8 c], [.bool x, .bool y], [], [], rfl, rfl, ⟨rfl, rfl⟩, [.bool x], [.bool y], [], [], rfl, rfl, ⟨rfl, rfl⟩, [.bool y], [], [], [], rfl, rfl, ⟨rfl, rfl⟩, rfl, rfl⟩, rfl, rfl⟩
    (cells_at (p := []) (q := []) rfl hnew rfl rfl) (by simp) (by simp; omega) 1
  have hsz3 : (W1.alloc (.cells #[.int .u8 c, .bool x, .bool y] 105)).heap.size = W1.heap.size + 1 := alloc_sz _ _
  refine one_ (i := 12) (N := some 15) #[true, true, true, true, true, true, true, true, true, true, true, true, true, false, false] rfl rfl (by kernel_rfl) (by decide) (fun K hK => ?_)
  refine event_step (w1 := w2) (v := v1) (by rfl) ?_ ?_
  · exact append_op (x := .tmp 12) (y := .tmp 14) (t := 106) rfl hrun
  have hb3 := (hfr b (by omega) hbF).trans hb2
  have hg3 := (hfr g (by omega) hgF).trans hg2
  have hbx3 := (hfr W.heap.size (by omega) (fun h => by have := hFlt _ h; omega)).trans hbx2
  refine hK.out _ _ ⟨(cell_row hb3).trans rfl, (cell_row hg3).trans hv, (cell_row hbx3).trans rfl, (cell_row hbx3).trans rfl, (cell_row hbx3).trans rfl⟩ (fun hHeld => ?_)
  clear hK K hHeld
  refine norm_ (a' := ?_) ?_ ?_
  rotate_left
  · show Act.put _ (some 15) _ = _
    simp only [Act.put, List.setIfInBounds_toArray, List.set_cons_zero, List.set_cons_succ, i64_w, i32_w]
    rfl
  refine pure_ (i := 13) (N := some 16) (v := ?_) (a' := ?_) #[true, true, true, true, true, true, true, true, true, true, true, true, true, true, false] rfl rfl (by kernel_rfl) (fun _ _ _ h => h) (Or.inl ⟨by rfl, ?_⟩) ?_ ?_
  rotate_left
  · intro w'
    go_simp
    rw [if_pos (by omega)]
  rotate_left
  · simp only [Act.put, List.setIfInBounds_toArray, List.set_cons_zero, List.set_cons_succ, i64_w, i32_w]
    rfl
  have hcq : w2.cell? ⟨g, q, none⟩ = some v := (cell_row hg3).trans hv
  have hfq : w2.frozen? ⟨g, q, none⟩ = false := frozen_row hg3 (hfz q hqs)
  obtain ⟨A1, n1, c1, e1'⟩ : ∃ A n c, v1 = Value.slice A n c := by
    rcases hs3 with ⟨h0, _⟩ | ⟨_, _, _, _, _, _, _, _, _, h0, _⟩ <;> exact ⟨_, _, _, h0⟩
  subst e1'
  refine last_ (i := 14) (N := none) #[true, true, true, true, true, true, true, true, true, true, true, true, true, true, true] rfl rfl (by kernel_rfl) (by decide) (fun K hK => ?_)
  refine skip_step (w1 := w2.setCell ⟨g, q, none⟩ (.slice A1 n1 c1)) (by rfl) rfl ?_ ?_
  · go_simp
  refine hK.out _ _ ?_
  clear hK K
  refine done_ (by kernel_rfl) ?_
  rw [setCell_put hg3]
  have hgF3 : g ∉ F3 := fun h => hgF ((hF3b g h).2 (by omega))
  have hoth : ∀ k, k ≠ g → (putB w2 g (.cells (cur.setIfInBounds q (.slice A1 n1 c1)) T2 fz)).heap[k]? = w2.heap[k]? := fun k hk => putB_other hk
  go_end0
  refine ⟨rfl, _, F3, SlRep.frame (u := PC) (fun k hk => hoth k (fun e => hgF3 (e ▸ hk))) hs3, hF3, putB_same (lt_of_heap hg3), ho1.trans hos1.1, ho2.trans hos1.2.1, ho3.trans hos1.2.2, by rw [putB_sz]; omega, ?_, ?_⟩
  · intro k hk hkg hkF
    rw [hoth k hkg, hfr k (by omega) hkF, hW2 k (by omega), hold k hk]
  · intro k hk
    have := hF3b k hk
    rw [putB_sz]
    exact ⟨this.1, fun h => this.2 (by omega)⟩
theorem impl_alternatives_1.ok : CtrOK Try.prog gl impl_alternatives_1.spec := by
  have ht : TyOK Try.prog 106 (.sl false PC) := tabs.ty _ _ (by kernel_rfl)
  intro n
  refine ⟨⟨Try.f89, by kernel_rfl, by kernel_rfl, by decide +kernel⟩, ?_⟩
  intro inst
  rintro ⟨x, out, ⟨⟩⟩ y hy
  obtain ⟨hc, hy⟩ := cond_none (hold_some hy)
  simp only [decide_eq_true_eq] at hc
  obtain ⟨hne, hlen, hlast⟩ := hc
  have hy : out.set (out.length - 1) (out.getD (out.length - 1) [] ++ [x]) = y := Option.some.inj hy
  subst hy
  intro w vs S L harg _ hL hSL hG
  change ArgsRep w [Arg.v PC x, Arg.p (.sl false (.sl false PC)) out] vs S L at harg
  unfold ArgsRep at harg
  obtain ⟨v0, vr, S1, S2, L1, L2, rfl, rfl, rfl, h1, harg⟩ := harg
  unfold ArgsRep at harg
  obtain ⟨v1, vr, S3, S4, L3, L4, rfl, rfl, rfl, h2, harg⟩ := harg
  unfold ArgsRep at harg
  obtain ⟨rfl, rfl, rfl⟩ := harg
  unfold ArgRep at h1 h2
  obtain ⟨_, ⟨cs, rfl, c1, d1, G1, H1, rfl, rfl, ⟨rfl, rfl⟩, c2, d2, G2, H2, rfl, rfl, ⟨rfl, rfl⟩, c3, d3, G3, H3, rfl, rfl, ⟨rfl, rfl⟩, rfl, rfl⟩, rfl⟩ := h1
  obtain ⟨_, rfl, b, c, T1, G, rfl, hw, ⟨v, hcv, hs⟩, rfl⟩ := h2
  have hs := hs.resolve_right bare_no
  rcases hs with ⟨_, h0, _⟩ | ⟨ad, cap, cc, T2, fz, p, m, q, G0, rfl, hsp, _, hcap, hh, hcc, hp, hr, rfl, how⟩
  · exact absurd h0 hne
  obtain ⟨hoff, hfz, hcsz, hcm⟩ := how rfl
  have hp0 : p = [] := List.eq_nil_of_length_eq_zero (by omega)
  subst hp0
  have hlp : 0 < out.length := List.length_pos_iff.2 hne
  obtain ⟨m1, m2, m3, F1, F2, F3, rfl, rfl, hm1, ⟨v2, rfl, hs2⟩, hr1, hr3, _⟩ := RepL.at (n := 1) (fun _ _ _ h => Rep.length h) ([] : List PC.El) (out.length - 1) hr (by omega)
  have hs2 := hs2.resolve_right bare_no
  simp only [List.nil_append, List.append_nil] at hL hcc ⊢
  have hblk : ad = ⟨ad.block, 0, none⟩ := by
    obtain ⟨a1, a2, a3⟩ := ad
    simp only at hoff hsp
    rw [hoff, hsp]
  generalize ad.block = g at *
  subst hblk
  have hcarr : c = #[.slice (some ⟨g, 0, none⟩) (out.length - 1 + 1) cap] := by
    apply Array.toList_inj.1
    rw [hcv]
    simp; omega
  subst hcarr
  simp only [List.nodup_cons, List.nodup_append, List.mem_cons, List.mem_append, not_or] at hL
  obtain ⟨⟨hbg, ⟨hb1, hb2⟩, hb3⟩, ⟨⟨hg1, hg2⟩, hg3⟩, ⟨n1, n2, n12⟩, n3, n123⟩ := hL
  have hq1 : out.length - 1 < cc.size := by
    have := congrArg List.length hcc
    simp at this; omega
  have hcv2 : cc[out.length - 1]? = some v2 := by
    rw [← Array.getElem?_toList, hcc]
    simp [List.append_assoc, hm1, List.getElem?_append_right]
  have hput := put_calls ht x.1 x.2.1 x.2.2.1 b g (out.length - 1) cap cc v2 _ T1 T2 fz F2 w hw hh hfz (by omega) hcv2 hs2 n2 hb2 hg2 hbg hlast
  refine Calls.mono hput ?_
  rintro e w' ⟨rfl, v3, F4, hs3, hF4, hg', ho1, ho2, ho3, hsz, hfr, hF4b⟩
  have hblt : b < w.heap.size := lt_of_heap hw
  have hglt : g < w.heap.size := lt_of_heap hh
  have hlt1 : ∀ k ∈ F1, k < w.heap.size := fun k hk => RepL.block_lt (u := .sl false PC) (fun h => Rep.block_lt h) hr1 k hk
  have hlt3 : ∀ k ∈ F3, k < w.heap.size := fun k hk => RepL.block_lt (u := .sl false PC) (fun h => Rep.block_lt h) hr3 k hk
  have hfr1 : ∀ k ∈ F1, w'.heap[k]? = w.heap[k]? := fun k hk => hfr k (hlt1 k hk) (fun e => hg1 (e ▸ hk)) (fun h => n12 k hk k h rfl)
  have hfr3 : ∀ k ∈ F3, w'.heap[k]? = w.heap[k]? := fun k hk => hfr k (hlt3 k hk) (fun e => hg3 (e ▸ hk)) (fun h => n123 k (.inr h) k hk rfl)
  have hb' : w'.heap[b]? = w.heap[b]? := hfr b hblt hbg hb2
  have k1 := RepL.imp (R := Rep w true (.sl false PC)) (S := Rep w' true (.sl false PC)) (fun x c G hG h => Rep.frame (fun k hk => hfr1 k (hG k hk)) h) hr1
  have k3 := RepL.imp (R := Rep w true (.sl false PC)) (S := Rep w' true (.sl false PC)) (fun x c G hG h => Rep.frame (fun k hk => hfr3 k (hG k hk)) h) hr3
  have k2 : RepL (Rep w' true (.sl false PC)) [out.getD (out.length - 1) [] ++ [x]] [v3] F4 := ⟨[v3], [], F4, [], by simp, by simp, ⟨v3, rfl, .inl hs3⟩, rfl, rfl⟩
  have kk := RepL.append (RepL.append k1 k2) k3
  have hset : out.take (out.length - 1) ++ [out.getD (out.length - 1) [] ++ [x]] ++ out.drop (out.length - 1 + 1) = out.set (out.length - 1) (out.getD (out.length - 1) [] ++ [x]) := by
    rw [List.set_eq_take_append_cons_drop, if_pos (by omega)]; simp
  rw [hset] at kk
  have hF41 : ∀ k ∈ F4, k ∉ F1 ∧ k ∉ F3 ∧ k ≠ g ∧ k ≠ b := by
    intro k hk
    have h5 := hF4b k hk
    refine ⟨fun h => ?_, fun h => ?_, fun h => ?_, fun h => ?_⟩
    · exact n12 k h k (h5.2 (hlt1 k h)) rfl
    · exact n123 k (.inr (h5.2 (hlt3 k h))) k h rfl
    · subst h; exact hg2 (h5.2 hglt)
    · subst h; exact hb2 (h5.2 hblt)
  refine ⟨[], [], b :: g :: (F1 ++ F4 ++ F3), rfl, ⟨rfl, rfl⟩, ?_, ?_, ?_, ho1, ho2, ho3, hsz, ?_⟩
  · change OutsRep _ w' [Arg.v PC x, Arg.p (.sl false (.sl false PC)) out] _ _ _
    simp only [OutsRep, OutRep]
    refine ⟨_, _, [], _, [], _, rfl, rfl, rfl, ⟨rfl, rfl⟩, _, _, _, [], _, [], rfl, (List.append_nil _).symm, (List.append_nil _).symm, ⟨_, b, _, T1, g :: (F1 ++ F4 ++ F3), rfl, rfl, hb'.trans hw, ⟨_, rfl, .inl (.inr ⟨⟨g, 0, none⟩, cap, _, T2, fz, [], m1 ++ [v3] ++ m3, q, F1 ++ F4 ++ F3, ?_, rfl, by simp, ?_, hg', ?_, rfl, kk, rfl, fun _ => ⟨rfl, ?_, ?_, hcm⟩⟩)⟩, rfl⟩, rfl, rfl⟩
    · simp; omega
    · simp; omega
    · rw [Array.toList_setIfInBounds, hcc]
      simp only [List.append_assoc]
      rw [List.set_append_right _ _ (by omega), hm1]
      simp
    · intro j hj
      rw [Array.size_setIfInBounds] at hj
      exact hfz j hj
    · rw [Array.size_setIfInBounds]; exact hcsz
  · simp only [List.nil_append, List.nodup_cons, List.nodup_append, List.mem_cons, List.mem_append, not_or]
    refine ⟨⟨hbg, ⟨hb1, fun h => (hF41 b h).2.2.2 rfl⟩, hb3⟩, ⟨⟨hg1, fun h => (hF41 g h).2.2.1 rfl⟩, hg3⟩, ⟨n1, hF4, fun i hi j hj e => (hF41 j hj).1 (e ▸ hi)⟩, n3, fun i hi j hj e => ?_⟩
    rcases hi with hi | hi
    · exact n123 i (.inl hi) j hj e
    · exact (hF41 i hi).2.1 (e ▸ hj)
  · intro k hk
    simp only [List.nil_append, List.mem_cons, List.mem_append] at hk ⊢
    rcases hk with rfl | rfl | (hk | hk) | hk
    · exact ⟨by omega, fun _ => .inl rfl⟩
    · exact ⟨by omega, fun _ => .inr (.inl rfl)⟩
    · exact ⟨by have := hlt1 k hk; omega, fun _ => .inr (.inr (.inl (.inl hk)))⟩
    · exact ⟨(hF4b k hk).1, fun h => .inr (.inr (.inl (.inr ((hF4b k hk).2 h))))⟩
    · exact ⟨by have := hlt3 k hk; omega, fun _ => .inr (.inr (.inr hk))⟩
  · intro k hk hkL
    simp only [List.mem_cons, List.mem_append, not_or] at hkL
    exact hfr k hk hkL.2.1 hkL.2.2.1.2
end


/-! loop.example/g00039/impl.alternatives -/
def impl_alternatives.T : List Ctr := [impl_printed.spec, strings_IndexByte.spec, impl_alternatives_1.spec]
def impl_alternatives.md : List (Nat × List Md) := [(89, [.v, .p (.sl false (.sl false (.pair (.int .u8) (.pair .bool (.pair .bool .unit)))))]), (1000089, [.p (.sl false (.sl false (.pair (.int .u8) (.pair .bool (.pair .bool .unit)))))])]
noncomputable def impl_alternatives.F : Fun := ⟨(Go.Proofs.Try.f87.body).getD .skip, [.v .str], [(.tmp 2, (.sl false (.sl false (.pair (.int .u8) (.pair .bool (.pair .bool .unit)))))), (.tmp 3, .bool)], [], 0, [(19, ⟨[0, 4, 5, 6], [], [(4, 0, (.sl false (.pair (.int .u8) (.pair .bool (.pair .bool .unit)))))], false⟩), (51, ⟨[0, 4, 5, 6, 56], [], [(4, 0, (.sl false (.pair (.int .u8) (.pair .bool (.pair .bool .unit)))))], false⟩)]⟩
inductive impl_alternatives.Pt where
  | p0 (a0 : ByteArray)
  | p19 (y1 : ByteArray) (y2 : Int) (y3 : List (List ((Int) × ((Bool) × ((Bool) × (Unit))))))
  | p51 (y1 : ByteArray) (y2 : Int) (y3 : Bool) (y4 : List (List ((Int) × ((Bool) × ((Bool) × (Unit))))))
def impl_alternatives.lb : impl_alternatives.Pt → Nat
  | .p0 _ => 0
  | .p19 _ _ _ => 19
  | .p51 _ _ _ _ => 51
def impl_alternatives.st : impl_alternatives.Pt → St
  | .p0 a0 => enter [.v .str a0] 0
  | .p19 y1 y2 y3 => ⟨[(0, .im .str y1), (4, .po 0 0), (5, .fn 89 [.po 0 0]), (6, .im (.int .i64) y2)], [(0, .obj [.hs 1 [] none 0]), (1, .arr false (.sl false (.pair (.int .u8) (.pair .bool (.pair .bool .unit)))) y3 0)], 2⟩
  | .p51 y1 y2 y3 y4 => ⟨[(0, .im .str y1), (4, .po 0 0), (5, .fn 89 [.po 0 0]), (6, .im (.int .i64) y2), (56, .im .bool y3)], [(0, .obj [.hs 1 [] none 0]), (1, .arr false (.sl false (.pair (.int .u8) (.pair .bool (.pair .bool .unit)))) y4 0)], 2⟩
def impl_alternatives.step (n : Nat) (K : impl_alternatives.Pt → Option (Tup [(.sl false (.sl false (.pair (.int .u8) (.pair .bool (.pair .bool .unit))))), .bool])) : impl_alternatives.Pt → Option (Tup [(.sl false (.sl false (.pair (.int .u8) (.pair .bool (.pair .bool .unit))))), .bool])
  | .p0 a0 => (impl_printed n a0 (100 : Int)).bind fun r4 => cond (!r4) (some (([] : List (List ((Int) × ((Bool) × ((Bool) × (Unit)))))), false)) (K (.p19 a0 (0 : Int) [([] : List ((Int) × ((Bool) × ((Bool) × (Unit)))))]))
  | .p19 y1 y2 y3 => cond (decide (y2 < ((ByteArray.size y1) : Int))) (cond (inB y2 (ByteArray.size y1)) (cond (decide ((bt y1 y2) = (124 : Int))) (cond (room ((List.length y3) + (List.length [([] : List ((Int) × ((Bool) × ((Bool) × (Unit)))))]))) (K (.p19 y1 (IntKind.wrap .i64 (y2 + (1 : Int))) (y3 ++ [([] : List ((Int) × ((Bool) × ((Bool) × (Unit)))))]))) (none)) (cond (decide ((bt y1 y2) = (42 : Int))) ((impl_alternatives_1 n ((default : Int), ((default : Bool), (true, ()))) y3).bind fun r6 => K (.p19 y1 (IntKind.wrap .i64 (y2 + (1 : Int))) r6)) (cond (decide ((bt y1 y2) = (63 : Int))) ((impl_alternatives_1 n ((default : Int), (true, (default : (Bool) × (Unit)))) y3).bind fun r6 => K (.p19 y1 (IntKind.wrap .i64 (y2 + (1 : Int))) r6)) (cond (decide ((bt y1 y2) = (92 : Int))) (cond (decide ((IntKind.wrap .i64 (y2 + (1 : Int))) = ((ByteArray.size y1) : Int))) (K (.p51 y1 (IntKind.wrap .i64 (y2 + (1 : Int))) true y3)) (cond (inB (IntKind.wrap .i64 (y2 + (1 : Int))) (ByteArray.size y1)) ((strings_IndexByte n (⟨#[42, 63, 124, 92]⟩ : ByteArray) (bt y1 (IntKind.wrap .i64 (y2 + (1 : Int))))).bind fun (r6 : Int) => K (.p51 y1 (IntKind.wrap .i64 (y2 + (1 : Int))) (decide (r6 < (0 : Int))) y3)) (none))) ((impl_alternatives_1 n ((bt y1 y2), (default : (Bool) × ((Bool) × (Unit)))) y3).bind fun r6 => K (.p19 y1 (IntKind.wrap .i64 (y2 + (1 : Int))) r6)))))) (none)) (some (y3, true))
  | .p51 y1 y2 y3 y4 => cond y3 (some (([] : List (List ((Int) × ((Bool) × ((Bool) × (Unit)))))), false)) (cond (inB y2 (ByteArray.size y1)) ((impl_alternatives_1 n ((bt y1 y2), (default : (Bool) × ((Bool) × (Unit)))) y4).bind fun r7 => K (.p19 y1 (IntKind.wrap .i64 (y2 + (1 : Int))) r7)) (none))
def impl_alternatives (n : Nat) (a0 : ByteArray) : Option (Tup [(.sl false (.sl false (.pair (.int .u8) (.pair .bool (.pair .bool .unit))))), .bool]) := goRec impl_alternatives.step n (.p0 a0)
def impl_alternatives.spec : Ctr := ⟨87, [.v .str], [(.sl false (.sl false (.pair (.int .u8) (.pair .bool (.pair .bool .unit))))), .bool], [], none, fun n x => impl_alternatives n x.1⟩
theorem impl_alternatives.seg_eq : SegEq tyN gl impl_alternatives.F impl_alternatives.md impl_alternatives.T impl_alternatives.spec impl_alternatives.lb impl_alternatives.st impl_alternatives.step := by
  intro n goto y; cases y <;> kernel_rfl
theorem impl_alternatives.text : Text Go.Proofs.Try.prog impl_alternatives.F impl_alternatives.spec := textOf Go.Proofs.Try.f87
theorem impl_alternatives.ok : CtrOK Go.Proofs.Try.prog gl impl_alternatives.spec :=
  ctr_okS tabsN impl_alternatives.text impl_alternatives.seg_eq (fun n x => ⟨.p0 x.1, rfl, rfl, rfl⟩) (consC impl_printed.ok (consC strings_IndexByte.ok (consC impl_alternatives_1.ok (nilC))))

/-! loop.example/g00039/impl.GoodPattern -/
def impl_GoodPattern.T : List Ctr := [impl_alternatives.spec]
def impl_GoodPattern.md : List (Nat × List Md) := []
noncomputable def impl_GoodPattern.F : Fun := ⟨(Go.Proofs.Try.f83.body).getD .skip, [.v .str], [(.tmp 2, .bool)], [], 0, []⟩
inductive impl_GoodPattern.Pt where
  | p0 (a0 : ByteArray)
def impl_GoodPattern.lb : impl_GoodPattern.Pt → Nat
  | .p0 _ => 0
def impl_GoodPattern.st : impl_GoodPattern.Pt → St
  | .p0 a0 => enter [.v .str a0] 0
def impl_GoodPattern.step (n : Nat) (K : impl_GoodPattern.Pt → Option (Tup [.bool])) : impl_GoodPattern.Pt → Option (Tup [.bool])
  | .p0 a0 => (impl_alternatives n a0).bind fun r4 => some r4.2
def impl_GoodPattern (n : Nat) (a0 : ByteArray) : Option (Tup [.bool]) := goRec impl_GoodPattern.step n (.p0 a0)
def impl_GoodPattern.spec : Ctr := ⟨83, [.v .str], [.bool], [], none, fun n x => impl_GoodPattern n x.1⟩
theorem impl_GoodPattern.seg_eq : SegEq tyN gl impl_GoodPattern.F impl_GoodPattern.md impl_GoodPattern.T impl_GoodPattern.spec impl_GoodPattern.lb impl_GoodPattern.st impl_GoodPattern.step := by
  intro n goto y; cases y <;> kernel_rfl
theorem impl_GoodPattern.text : Text Go.Proofs.Try.prog impl_GoodPattern.F impl_GoodPattern.spec := textOf Go.Proofs.Try.f83
theorem impl_GoodPattern.ok : CtrOK Go.Proofs.Try.prog gl impl_GoodPattern.spec :=
  ctr_okS tabsN impl_GoodPattern.text impl_GoodPattern.seg_eq (fun n x => ⟨.p0 x.1, rfl, rfl, rfl⟩) (consC impl_alternatives.ok (nilC))

/-! loop.example/g00039/impl.goodMatcher -/
def impl_goodMatcher.T : List Ctr := [impl_printed.spec, impl_isName.spec, impl_GoodPattern.spec]
def impl_goodMatcher.md : List (Nat × List Md) := []
noncomputable def impl_goodMatcher.F : Fun := ⟨(Go.Proofs.Try.f69.body).getD .skip, [.v cU3], [(.tmp 2, .bool)], [], 0, [(4, ⟨[1, 22], [], [], false⟩)]⟩
inductive impl_goodMatcher.Pt where
  | p0 (a0 : tU4)
  | p4 (y1 : Bool) (y2 : ByteArray) (y3 : Int) (y4 : ByteArray)
def impl_goodMatcher.lb : impl_goodMatcher.Pt → Nat
  | .p0 _ => 0
  | .p4 _ _ _ _ => 4
def impl_goodMatcher.st : impl_goodMatcher.Pt → St
  | .p0 a0 => enter [.v cU3 a0] 0
  | .p4 y1 y2 y3 y4 => ⟨[(1, .po 0 0), (22, .im .bool y1)], [(0, .obj [.im .str y2, .im (.int .i64) y3, .im .str y4])], 1⟩
def impl_goodMatcher.step (n : Nat) (K : impl_goodMatcher.Pt → Option (Tup [.bool])) : impl_goodMatcher.Pt → Option (Tup [.bool])
  | .p0 a0 => (impl_isName n a0.1).bind fun r4 => cond (!r4) (K (.p4 true a0.1 a0.2.1 a0.2.2.1)) (cond (decide (a0.2.1 < (1 : Int))) (K (.p4 true a0.1 a0.2.1 a0.2.2.1)) (cond (decide ((4 : Int) < a0.2.1)) (K (.p4 true a0.1 a0.2.1 a0.2.2.1)) ((impl_printed n a0.2.2.1 (100 : Int)).bind fun r5 => K (.p4 (!r5) a0.1 a0.2.1 a0.2.2.1))))
  | .p4 y1 y2 y3 y4 => cond y1 (some false) (cond (decide (y3 < (3 : Int))) (some true) ((impl_GoodPattern n y4).bind fun r7 => some r7))
def impl_goodMatcher (n : Nat) (a0 : tU4) : Option (Tup [.bool]) := goRec impl_goodMatcher.step n (.p0 a0)
def impl_goodMatcher.spec : Ctr := ⟨69, [.v cU3], [.bool], [], none, fun n x => impl_goodMatcher n x.1⟩
theorem impl_goodMatcher.seg_eq : SegEq tyN gl impl_goodMatcher.F impl_goodMatcher.md impl_goodMatcher.T impl_goodMatcher.spec impl_goodMatcher.lb impl_goodMatcher.st impl_goodMatcher.step := by
  intro n goto y; cases y <;> kernel_rfl
theorem impl_goodMatcher.text : Text Go.Proofs.Try.prog impl_goodMatcher.F impl_goodMatcher.spec := textOf Go.Proofs.Try.f69
theorem impl_goodMatcher.ok : CtrOK Go.Proofs.Try.prog gl impl_goodMatcher.spec :=
  ctr_okS tabsN impl_goodMatcher.text impl_goodMatcher.seg_eq (fun n x => ⟨.p0 x.1, rfl, rfl, rfl⟩) (consC impl_printed.ok (consC impl_isName.ok (consC impl_GoodPattern.ok (nilC))))

/-! loop.example/g00039/impl.GoodMatchers$1 -/
def impl_GoodMatchers_1.T : List Ctr := [impl_goodMatcher.spec]
def impl_GoodMatchers_1.md : List (Nat × List Md) := []
noncomputable def impl_GoodMatchers_1.F : Fun := ⟨(Go.Proofs.Try.f68.body).getD .skip, [.v cU3], [(.tmp 2, .bool)], [], 0, []⟩
inductive impl_GoodMatchers_1.Pt where
  | p0 (a0 : tU4)
def impl_GoodMatchers_1.lb : impl_GoodMatchers_1.Pt → Nat
  | .p0 _ => 0
def impl_GoodMatchers_1.st : impl_GoodMatchers_1.Pt → St
  | .p0 a0 => enter [.v cU3 a0] 0
def impl_GoodMatchers_1.step (n : Nat) (K : impl_GoodMatchers_1.Pt → Option (Tup [.bool])) : impl_GoodMatchers_1.Pt → Option (Tup [.bool])
  | .p0 a0 => (impl_goodMatcher n a0).bind fun r4 => some (!r4)
def impl_GoodMatchers_1 (n : Nat) (a0 : tU4) : Option (Tup [.bool]) := goRec impl_GoodMatchers_1.step n (.p0 a0)
def impl_GoodMatchers_1.spec : Ctr := ⟨68, [.v cU3], [.bool], [], none, fun n x => impl_GoodMatchers_1 n x.1⟩
theorem impl_GoodMatchers_1.seg_eq : SegEq tyN gl impl_GoodMatchers_1.F impl_GoodMatchers_1.md impl_GoodMatchers_1.T impl_GoodMatchers_1.spec impl_GoodMatchers_1.lb impl_GoodMatchers_1.st impl_GoodMatchers_1.step := by
  intro n goto y; cases y <;> kernel_rfl
theorem impl_GoodMatchers_1.text : Text Go.Proofs.Try.prog impl_GoodMatchers_1.F impl_GoodMatchers_1.spec := textOf Go.Proofs.Try.f68
theorem impl_GoodMatchers_1.ok : CtrOK Go.Proofs.Try.prog gl impl_GoodMatchers_1.spec :=
  ctr_okS tabsN impl_GoodMatchers_1.text impl_GoodMatchers_1.seg_eq (fun n x => ⟨.p0 x.1, rfl, rfl, rfl⟩) (consC impl_goodMatcher.ok (nilC))

/-! slices.IndexFunc[[]loop.example/g00039/impl.Matcher,loop.example/g00039/impl.Matcher] -/
def slices_IndexFunc_Matcher_impl_GoodMatchers_1.T : List Ctr := [impl_GoodMatchers_1.spec]
def slices_IndexFunc_Matcher_impl_GoodMatchers_1.md : List (Nat × List Md) := []
noncomputable def slices_IndexFunc_Matcher_impl_GoodMatchers_1.F : Fun := ⟨(Go.Proofs.Try.f82.body).getD .skip, [.v (.sl false cU3), .fn 68 []], [(.tmp 4, (.int .i64))], [], 0, [(7, ⟨[0, 1, 7, 8], [], [], false⟩)]⟩
inductive slices_IndexFunc_Matcher_impl_GoodMatchers_1.Pt where
  | p0 (a0 : List (tU4))
  | p7 (y1 : List (tU4)) (y2 : Int) (y3 : Int)
def slices_IndexFunc_Matcher_impl_GoodMatchers_1.lb : slices_IndexFunc_Matcher_impl_GoodMatchers_1.Pt → Nat
  | .p0 _ => 0
  | .p7 _ _ _ => 7
def slices_IndexFunc_Matcher_impl_GoodMatchers_1.st : slices_IndexFunc_Matcher_impl_GoodMatchers_1.Pt → St
  | .p0 a0 => enter [.v (.sl false cU3) a0, .fn 68 []] 0
  | .p7 y1 y2 y3 => ⟨[(0, .im (.sl false cU3) y1), (1, .fn 68 []), (7, .im (.int .i64) y2), (8, .im (.int .i64) y3)], [], 0⟩
def slices_IndexFunc_Matcher_impl_GoodMatchers_1.step (n : Nat) (K : slices_IndexFunc_Matcher_impl_GoodMatchers_1.Pt → Option (Tup [(.int .i64)])) : slices_IndexFunc_Matcher_impl_GoodMatchers_1.Pt → Option (Tup [(.int .i64)])
  | .p0 a0 => K (.p7 a0 ((List.length a0) : Int) (0 : Int))
  | .p7 y1 y2 y3 => cond (decide (y3 < y2)) (cond (inB y3 (List.length y1)) ((impl_GoodMatchers_1 n (List.getD y1 (Int.toNat y3) default)).bind fun r6 => cond r6 (some y3) (K (.p7 y1 y2 (IntKind.wrap .i64 (y3 + (1 : Int)))))) (none)) (some (-(1 : Int)))
def slices_IndexFunc_Matcher_impl_GoodMatchers_1 (n : Nat) (a0 : List (tU4)) : Option (Tup [(.int .i64)]) := goRec slices_IndexFunc_Matcher_impl_GoodMatchers_1.step n (.p0 a0)
def slices_IndexFunc_Matcher_impl_GoodMatchers_1.spec : Ctr := ⟨82, [.v (.sl false cU3), .fn 68 []], [(.int .i64)], [], none, fun n x => slices_IndexFunc_Matcher_impl_GoodMatchers_1 n x.1⟩
theorem slices_IndexFunc_Matcher_impl_GoodMatchers_1.seg_eq : SegEq tyN gl slices_IndexFunc_Matcher_impl_GoodMatchers_1.F slices_IndexFunc_Matcher_impl_GoodMatchers_1.md slices_IndexFunc_Matcher_impl_GoodMatchers_1.T slices_IndexFunc_Matcher_impl_GoodMatchers_1.spec slices_IndexFunc_Matcher_impl_GoodMatchers_1.lb slices_IndexFunc_Matcher_impl_GoodMatchers_1.st slices_IndexFunc_Matcher_impl_GoodMatchers_1.step := by
  intro n goto y; cases y <;> kernel_rfl
theorem slices_IndexFunc_Matcher_impl_GoodMatchers_1.text : Text Go.Proofs.Try.prog slices_IndexFunc_Matcher_impl_GoodMatchers_1.F slices_IndexFunc_Matcher_impl_GoodMatchers_1.spec := textOf Go.Proofs.Try.f82
theorem slices_IndexFunc_Matcher_impl_GoodMatchers_1.ok : CtrOK Go.Proofs.Try.prog gl slices_IndexFunc_Matcher_impl_GoodMatchers_1.spec :=
  ctr_okS tabsN slices_IndexFunc_Matcher_impl_GoodMatchers_1.text slices_IndexFunc_Matcher_impl_GoodMatchers_1.seg_eq (fun n x => ⟨.p0 x.1, rfl, rfl, rfl⟩) (consC impl_GoodMatchers_1.ok (nilC))

/-! slices.ContainsFunc[[]loop.example/g00039/impl.Matcher,loop.example/g00039/impl.Matcher] -/
def slices_ContainsFunc_Matcher_impl_GoodMatchers_1.T : List Ctr := [slices_IndexFunc_Matcher_impl_GoodMatchers_1.spec]
def slices_ContainsFunc_Matcher_impl_GoodMatchers_1.md : List (Nat × List Md) := [(82, [.v, .fn])]
noncomputable def slices_ContainsFunc_Matcher_impl_GoodMatchers_1.F : Fun := ⟨(Go.Proofs.Try.f67.body).getD .skip, [.v (.sl false cU3), .fn 68 []], [(.tmp 4, .bool)], [], 0, []⟩
inductive slices_ContainsFunc_Matcher_impl_GoodMatchers_1.Pt where
  | p0 (a0 : List (tU4))
def slices_ContainsFunc_Matcher_impl_GoodMatchers_1.lb : slices_ContainsFunc_Matcher_impl_GoodMatchers_1.Pt → Nat
  | .p0 _ => 0
def slices_ContainsFunc_Matcher_impl_GoodMatchers_1.st : slices_ContainsFunc_Matcher_impl_GoodMatchers_1.Pt → St
  | .p0 a0 => enter [.v (.sl false cU3) a0, .fn 68 []] 0
def slices_ContainsFunc_Matcher_impl_GoodMatchers_1.step (n : Nat) (K : slices_ContainsFunc_Matcher_impl_GoodMatchers_1.Pt → Option (Tup [.bool])) : slices_ContainsFunc_Matcher_impl_GoodMatchers_1.Pt → Option (Tup [.bool])
  | .p0 a0 => (slices_IndexFunc_Matcher_impl_GoodMatchers_1 n a0).bind fun (r4 : Int) => some (decide ((0 : Int) ≤ r4))
def slices_ContainsFunc_Matcher_impl_GoodMatchers_1 (n : Nat) (a0 : List (tU4)) : Option (Tup [.bool]) := goRec slices_ContainsFunc_Matcher_impl_GoodMatchers_1.step n (.p0 a0)
def slices_ContainsFunc_Matcher_impl_GoodMatchers_1.spec : Ctr := ⟨67, [.v (.sl false cU3), .fn 68 []], [.bool], [], none, fun n x => slices_ContainsFunc_Matcher_impl_GoodMatchers_1 n x.1⟩
theorem slices_ContainsFunc_Matcher_impl_GoodMatchers_1.seg_eq : SegEq tyN gl slices_ContainsFunc_Matcher_impl_GoodMatchers_1.F slices_ContainsFunc_Matcher_impl_GoodMatchers_1.md slices_ContainsFunc_Matcher_impl_GoodMatchers_1.T slices_ContainsFunc_Matcher_impl_GoodMatchers_1.spec slices_ContainsFunc_Matcher_impl_GoodMatchers_1.lb slices_ContainsFunc_Matcher_impl_GoodMatchers_1.st slices_ContainsFunc_Matcher_impl_GoodMatchers_1.step := by
  intro n goto y; cases y <;> kernel_rfl
theorem slices_ContainsFunc_Matcher_impl_GoodMatchers_1.text : Text Go.Proofs.Try.prog slices_ContainsFunc_Matcher_impl_GoodMatchers_1.F slices_ContainsFunc_Matcher_impl_GoodMatchers_1.spec := textOf Go.Proofs.Try.f67
theorem slices_ContainsFunc_Matcher_impl_GoodMatchers_1.ok : CtrOK Go.Proofs.Try.prog gl slices_ContainsFunc_Matcher_impl_GoodMatchers_1.spec :=
  ctr_okS tabsN slices_ContainsFunc_Matcher_impl_GoodMatchers_1.text slices_ContainsFunc_Matcher_impl_GoodMatchers_1.seg_eq (fun n x => ⟨.p0 x.1, rfl, rfl, rfl⟩) (consC slices_IndexFunc_Matcher_impl_GoodMatchers_1.ok (nilC))

/-! loop.example/g00039/impl.GoodMatchers -/
def impl_GoodMatchers.T : List Ctr := [impl_GoodMatchers_1.spec, slices_ContainsFunc_Matcher_impl_GoodMatchers_1.spec]
def impl_GoodMatchers.md : List (Nat × List Md) := [(67, [.v, .fn])]
noncomputable def impl_GoodMatchers.F : Fun := ⟨(Go.Proofs.Try.f45.body).getD .skip, [.v (.sl false cU3)], [(.tmp 2, .bool)], [], 0, []⟩
inductive impl_GoodMatchers.Pt where
  | p0 (a0 : List (tU4))
def impl_GoodMatchers.lb : impl_GoodMatchers.Pt → Nat
  | .p0 _ => 0
def impl_GoodMatchers.st : impl_GoodMatchers.Pt → St
  | .p0 a0 => enter [.v (.sl false cU3) a0] 0
def impl_GoodMatchers.step (n : Nat) (K : impl_GoodMatchers.Pt → Option (Tup [.bool])) : impl_GoodMatchers.Pt → Option (Tup [.bool])
  | .p0 a0 => cond (decide (((List.length a0) : Int) ≤ (10 : Int))) ((slices_ContainsFunc_Matcher_impl_GoodMatchers_1 n a0).bind fun r4 => some (!r4)) (some false)
def impl_GoodMatchers (n : Nat) (a0 : List (tU4)) : Option (Tup [.bool]) := goRec impl_GoodMatchers.step n (.p0 a0)
def impl_GoodMatchers.spec : Ctr := ⟨45, [.v (.sl false cU3)], [.bool], [], none, fun n x => impl_GoodMatchers n x.1⟩
theorem impl_GoodMatchers.seg_eq : SegEq tyN gl impl_GoodMatchers.F impl_GoodMatchers.md impl_GoodMatchers.T impl_GoodMatchers.spec impl_GoodMatchers.lb impl_GoodMatchers.st impl_GoodMatchers.step := by
  intro n goto y; cases y <;> kernel_rfl
theorem impl_GoodMatchers.text : Text Go.Proofs.Try.prog impl_GoodMatchers.F impl_GoodMatchers.spec := textOf Go.Proofs.Try.f45
theorem impl_GoodMatchers.ok : CtrOK Go.Proofs.Try.prog gl impl_GoodMatchers.spec :=
  ctr_okS tabsN impl_GoodMatchers.text impl_GoodMatchers.seg_eq (fun n x => ⟨.p0 x.1, rfl, rfl, rfl⟩) (consC impl_GoodMatchers_1.ok (consC slices_ContainsFunc_Matcher_impl_GoodMatchers_1.ok (nilC)))

/-! loop.example/g00039/impl.isTime -/
def impl_isTime.T : List Ctr := []
def impl_isTime.md : List (Nat × List Md) := []
noncomputable def impl_isTime.F : Fun := ⟨(Go.Proofs.Try.f19.body).getD .skip, [.v (.int .i64)], [(.tmp 2, .bool)], [], 0, []⟩
inductive impl_isTime.Pt where
  | p0 (a0 : Int)
def impl_isTime.lb : impl_isTime.Pt → Nat
  | .p0 _ => 0
def impl_isTime.st : impl_isTime.Pt → St
  | .p0 a0 => enter [.v (.int .i64) a0] 0
def impl_isTime.step (n : Nat) (K : impl_isTime.Pt → Option (Tup [.bool])) : impl_isTime.Pt → Option (Tup [.bool])
  | .p0 a0 => cond (decide ((0 : Int) ≤ a0)) (some (decide (a0 ≤ (1000000000000 : Int)))) (some false)
def impl_isTime (n : Nat) (a0 : Int) : Option (Tup [.bool]) := goRec impl_isTime.step n (.p0 a0)
def impl_isTime.spec : Ctr := ⟨19, [.v (.int .i64)], [.bool], [], none, fun n x => impl_isTime n x.1⟩
theorem impl_isTime.seg_eq : SegEq tyN gl impl_isTime.F impl_isTime.md impl_isTime.T impl_isTime.spec impl_isTime.lb impl_isTime.st impl_isTime.step := by
  intro n goto y; cases y <;> kernel_rfl
theorem impl_isTime.text : Text Go.Proofs.Try.prog impl_isTime.F impl_isTime.spec := textOf Go.Proofs.Try.f19
theorem impl_isTime.ok : CtrOK Go.Proofs.Try.prog gl impl_isTime.spec :=
  ctr_okS tabsN impl_isTime.text impl_isTime.seg_eq (fun n x => ⟨.p0 x.1, rfl, rfl, rfl⟩) (nilC)

/-! loop.example/g00039/impl.goodMoment -/
def impl_goodMoment.T : List Ctr := [impl_isTime.spec]
def impl_goodMoment.md : List (Nat × List Md) := []
noncomputable def impl_goodMoment.F : Fun := ⟨(Go.Proofs.Try.f46.body).getD .skip, [.v cU0], [(.tmp 2, .bool)], [], 0, []⟩
inductive impl_goodMoment.Pt where
  | p0 (a0 : tU1)
def impl_goodMoment.lb : impl_goodMoment.Pt → Nat
  | .p0 _ => 0
def impl_goodMoment.st : impl_goodMoment.Pt → St
  | .p0 a0 => enter [.v cU0 a0] 0
def impl_goodMoment.step (n : Nat) (K : impl_goodMoment.Pt → Option (Tup [.bool])) : impl_goodMoment.Pt → Option (Tup [.bool])
  | .p0 a0 => (impl_isTime n a0.2.2.2.2.2.2.1).bind fun r4 => cond r4 (cond a0.2.2.2.2.2.2.2.1 ((impl_isTime n a0.2.2.2.2.2.2.2.2.1).bind fun r5 => cond r5 (some true) (cond (!a0.2.2.2.2.2.2.2.1) (some (decide (a0.2.2.2.2.2.2.2.2.1 = (0 : Int)))) (some false))) (cond (!a0.2.2.2.2.2.2.2.1) (some (decide (a0.2.2.2.2.2.2.2.2.1 = (0 : Int)))) (some false))) (some false)
def impl_goodMoment (n : Nat) (a0 : tU1) : Option (Tup [.bool]) := goRec impl_goodMoment.step n (.p0 a0)
def impl_goodMoment.spec : Ctr := ⟨46, [.v cU0], [.bool], [], none, fun n x => impl_goodMoment n x.1⟩
theorem impl_goodMoment.seg_eq : SegEq tyN gl impl_goodMoment.F impl_goodMoment.md impl_goodMoment.T impl_goodMoment.spec impl_goodMoment.lb impl_goodMoment.st impl_goodMoment.step := by
  intro n goto y; cases y <;> kernel_rfl
theorem impl_goodMoment.text : Text Go.Proofs.Try.prog impl_goodMoment.F impl_goodMoment.spec := textOf Go.Proofs.Try.f46
theorem impl_goodMoment.ok : CtrOK Go.Proofs.Try.prog gl impl_goodMoment.spec :=
  ctr_okS tabsN impl_goodMoment.text impl_goodMoment.seg_eq (fun n x => ⟨.p0 x.1, rfl, rfl, rfl⟩) (consC impl_isTime.ok (nilC))

/-! loop.example/g00039/impl.compares -/
def impl_compares.T : List Ctr := []
def impl_compares.md : List (Nat × List Md) := []
noncomputable def impl_compares.F : Fun := ⟨(Go.Proofs.Try.f47.body).getD .skip, [.v (.int .i64)], [(.tmp 2, .bool)], [], 0, []⟩
inductive impl_compares.Pt where
  | p0 (a0 : Int)
def impl_compares.lb : impl_compares.Pt → Nat
  | .p0 _ => 0
def impl_compares.st : impl_compares.Pt → St
  | .p0 a0 => enter [.v (.int .i64) a0] 0
def impl_compares.step (n : Nat) (K : impl_compares.Pt → Option (Tup [.bool])) : impl_compares.Pt → Option (Tup [.bool])
  | .p0 a0 => cond (decide ((6 : Int) ≤ a0)) (some (decide (a0 ≤ (11 : Int)))) (some false)
def impl_compares (n : Nat) (a0 : Int) : Option (Tup [.bool]) := goRec impl_compares.step n (.p0 a0)
def impl_compares.spec : Ctr := ⟨47, [.v (.int .i64)], [.bool], [], none, fun n x => impl_compares n x.1⟩
theorem impl_compares.seg_eq : SegEq tyN gl impl_compares.F impl_compares.md impl_compares.T impl_compares.spec impl_compares.lb impl_compares.st impl_compares.step := by
  intro n goto y; cases y <;> kernel_rfl
theorem impl_compares.text : Text Go.Proofs.Try.prog impl_compares.F impl_compares.spec := textOf Go.Proofs.Try.f47
theorem impl_compares.ok : CtrOK Go.Proofs.Try.prog gl impl_compares.spec :=
  ctr_okS tabsN impl_compares.text impl_compares.seg_eq (fun n x => ⟨.p0 x.1, rfl, rfl, rfl⟩) (nilC)

/-! loop.example/g00039/impl.rising[string] -/
def impl_rising_string.T : List Ctr := []
def impl_rising_string.md : List (Nat × List Md) := []
noncomputable def impl_rising_string.F : Fun := ⟨(Go.Proofs.Try.f70.body).getD .skip, [.v (.sl false .str)], [(.tmp 2, .bool)], [], 0, [(7, ⟨[0, 3], [], [], false⟩)]⟩
inductive impl_rising_string.Pt where
  | p0 (a0 : List (ByteArray))
  | p7 (y1 : List (ByteArray)) (y2 : Int)
def impl_rising_string.lb : impl_rising_string.Pt → Nat
  | .p0 _ => 0
  | .p7 _ _ => 7
def impl_rising_string.st : impl_rising_string.Pt → St
  | .p0 a0 => enter [.v (.sl false .str) a0] 0
  | .p7 y1 y2 => ⟨[(0, .im (.sl false .str) y1), (3, .im (.int .i64) y2)], [], 0⟩
def impl_rising_string.step (n : Nat) (K : impl_rising_string.Pt → Option (Tup [.bool])) : impl_rising_string.Pt → Option (Tup [.bool])
  | .p0 a0 => K (.p7 a0 (1 : Int))
  | .p7 y1 y2 => cond (decide (y2 < ((List.length y1) : Int))) (cond (inB (IntKind.wrap .i64 (y2 - (1 : Int))) (List.length y1)) (cond (inB y2 (List.length y1)) (cond (!(slt (List.getD y1 (Int.toNat (IntKind.wrap .i64 (y2 - (1 : Int)))) default) (List.getD y1 (Int.toNat y2) default))) (some false) (K (.p7 y1 (IntKind.wrap .i64 (y2 + (1 : Int)))))) (none)) (none)) (some true)
def impl_rising_string (n : Nat) (a0 : List (ByteArray)) : Option (Tup [.bool]) := goRec impl_rising_string.step n (.p0 a0)
def impl_rising_string.spec : Ctr := ⟨70, [.v (.sl false .str)], [.bool], [], none, fun n x => impl_rising_string n x.1⟩
theorem impl_rising_string.seg_eq : SegEq tyN gl impl_rising_string.F impl_rising_string.md impl_rising_string.T impl_rising_string.spec impl_rising_string.lb impl_rising_string.st impl_rising_string.step := by
  intro n goto y; cases y <;> kernel_rfl
theorem impl_rising_string.text : Text Go.Proofs.Try.prog impl_rising_string.F impl_rising_string.spec := textOf Go.Proofs.Try.f70
theorem impl_rising_string.ok : CtrOK Go.Proofs.Try.prog gl impl_rising_string.spec :=
  ctr_okS tabsN impl_rising_string.text impl_rising_string.seg_eq (fun n x => ⟨.p0 x.1, rfl, rfl, rfl⟩) (nilC)

/-! loop.example/g00039/impl.goodNames$1 -/
def impl_goodNames_1.T : List Ctr := [impl_isName.spec]
def impl_goodNames_1.md : List (Nat × List Md) := []
noncomputable def impl_goodNames_1.F : Fun := ⟨(Go.Proofs.Try.f72.body).getD .skip, [.v .str], [(.tmp 2, .bool)], [], 0, []⟩
inductive impl_goodNames_1.Pt where
  | p0 (a0 : ByteArray)
def impl_goodNames_1.lb : impl_goodNames_1.Pt → Nat
  | .p0 _ => 0
def impl_goodNames_1.st : impl_goodNames_1.Pt → St
  | .p0 a0 => enter [.v .str a0] 0
def impl_goodNames_1.step (n : Nat) (K : impl_goodNames_1.Pt → Option (Tup [.bool])) : impl_goodNames_1.Pt → Option (Tup [.bool])
  | .p0 a0 => (impl_isName n a0).bind fun r4 => some (!r4)
def impl_goodNames_1 (n : Nat) (a0 : ByteArray) : Option (Tup [.bool]) := goRec impl_goodNames_1.step n (.p0 a0)
def impl_goodNames_1.spec : Ctr := ⟨72, [.v .str], [.bool], [], none, fun n x => impl_goodNames_1 n x.1⟩
theorem impl_goodNames_1.seg_eq : SegEq tyN gl impl_goodNames_1.F impl_goodNames_1.md impl_goodNames_1.T impl_goodNames_1.spec impl_goodNames_1.lb impl_goodNames_1.st impl_goodNames_1.step := by
  intro n goto y; cases y <;> kernel_rfl
theorem impl_goodNames_1.text : Text Go.Proofs.Try.prog impl_goodNames_1.F impl_goodNames_1.spec := textOf Go.Proofs.Try.f72
theorem impl_goodNames_1.ok : CtrOK Go.Proofs.Try.prog gl impl_goodNames_1.spec :=
  ctr_okS tabsN impl_goodNames_1.text impl_goodNames_1.seg_eq (fun n x => ⟨.p0 x.1, rfl, rfl, rfl⟩) (consC impl_isName.ok (nilC))

/-! slices.IndexFunc[[]string,string] -/
def slices_IndexFunc_string_impl_goodNames_1.T : List Ctr := [impl_goodNames_1.spec]
def slices_IndexFunc_string_impl_goodNames_1.md : List (Nat × List Md) := []
noncomputable def slices_IndexFunc_string_impl_goodNames_1.F : Fun := ⟨(Go.Proofs.Try.f84.body).getD .skip, [.v (.sl false .str), .fn 72 []], [(.tmp 4, (.int .i64))], [], 0, [(7, ⟨[0, 1, 7, 8], [], [], false⟩)]⟩
inductive slices_IndexFunc_string_impl_goodNames_1.Pt where
  | p0 (a0 : List (ByteArray))
  | p7 (y1 : List (ByteArray)) (y2 : Int) (y3 : Int)
def slices_IndexFunc_string_impl_goodNames_1.lb : slices_IndexFunc_string_impl_goodNames_1.Pt → Nat
  | .p0 _ => 0
  | .p7 _ _ _ => 7
def slices_IndexFunc_string_impl_goodNames_1.st : slices_IndexFunc_string_impl_goodNames_1.Pt → St
  | .p0 a0 => enter [.v (.sl false .str) a0, .fn 72 []] 0
  | .p7 y1 y2 y3 => ⟨[(0, .im (.sl false .str) y1), (1, .fn 72 []), (7, .im (.int .i64) y2), (8, .im (.int .i64) y3)], [], 0⟩
def slices_IndexFunc_string_impl_goodNames_1.step (n : Nat) (K : slices_IndexFunc_string_impl_goodNames_1.Pt → Option (Tup [(.int .i64)])) : slices_IndexFunc_string_impl_goodNames_1.Pt → Option (Tup [(.int .i64)])
  | .p0 a0 => K (.p7 a0 ((List.length a0) : Int) (0 : Int))
  | .p7 y1 y2 y3 => cond (decide (y3 < y2)) (cond (inB y3 (List.length y1)) ((impl_goodNames_1 n (List.getD y1 (Int.toNat y3) default)).bind fun r6 => cond r6 (some y3) (K (.p7 y1 y2 (IntKind.wrap .i64 (y3 + (1 : Int)))))) (none)) (some (-(1 : Int)))
def slices_IndexFunc_string_impl_goodNames_1 (n : Nat) (a0 : List (ByteArray)) : Option (Tup [(.int .i64)]) := goRec slices_IndexFunc_string_impl_goodNames_1.step n (.p0 a0)
def slices_IndexFunc_string_impl_goodNames_1.spec : Ctr := ⟨84, [.v (.sl false .str), .fn 72 []], [(.int .i64)], [], none, fun n x => slices_IndexFunc_string_impl_goodNames_1 n x.1⟩
theorem slices_IndexFunc_string_impl_goodNames_1.seg_eq : SegEq ty gl slices_IndexFunc_string_impl_goodNames_1.F slices_IndexFunc_string_impl_goodNames_1.md slices_IndexFunc_string_impl_goodNames_1.T slices_IndexFunc_string_impl_goodNames_1.spec slices_IndexFunc_string_impl_goodNames_1.lb slices_IndexFunc_string_impl_goodNames_1.st slices_IndexFunc_string_impl_goodNames_1.step := by
  intro n goto y; cases y <;> kernel_rfl
theorem slices_IndexFunc_string_impl_goodNames_1.text : Text Go.Proofs.Try.prog slices_IndexFunc_string_impl_goodNames_1.F slices_IndexFunc_string_impl_goodNames_1.spec := textOf Go.Proofs.Try.f84
theorem slices_IndexFunc_string_impl_goodNames_1.ok : CtrOK Go.Proofs.Try.prog gl slices_IndexFunc_string_impl_goodNames_1.spec :=
  ctr_okS tabs slices_IndexFunc_string_impl_goodNames_1.text slices_IndexFunc_string_impl_goodNames_1.seg_eq (fun n x => ⟨.p0 x.1, rfl, rfl, rfl⟩) (consC impl_goodNames_1.ok (nilC))

/-! slices.ContainsFunc[[]string,string] -/
def slices_ContainsFunc_string_impl_goodNames_1.T : List Ctr := [slices_IndexFunc_string_impl_goodNames_1.spec]
def slices_ContainsFunc_string_impl_goodNames_1.md : List (Nat × List Md) := [(84, [.v, .fn])]
noncomputable def slices_ContainsFunc_string_impl_goodNames_1.F : Fun := ⟨(Go.Proofs.Try.f71.body).getD .skip, [.v (.sl false .str), .fn 72 []], [(.tmp 4, .bool)], [], 0, []⟩
inductive slices_ContainsFunc_string_impl_goodNames_1.Pt where
  | p0 (a0 : List (ByteArray))
def slices_ContainsFunc_string_impl_goodNames_1.lb : slices_ContainsFunc_string_impl_goodNames_1.Pt → Nat
  | .p0 _ => 0
def slices_ContainsFunc_string_impl_goodNames_1.st : slices_ContainsFunc_string_impl_goodNames_1.Pt → St
  | .p0 a0 => enter [.v (.sl false .str) a0, .fn 72 []] 0
def slices_ContainsFunc_string_impl_goodNames_1.step (n : Nat) (K : slices_ContainsFunc_string_impl_goodNames_1.Pt → Option (Tup [.bool])) : slices_ContainsFunc_string_impl_goodNames_1.Pt → Option (Tup [.bool])
  | .p0 a0 => (slices_IndexFunc_string_impl_goodNames_1 n a0).bind fun (r4 : Int) => some (decide ((0 : Int) ≤ r4))
def slices_ContainsFunc_string_impl_goodNames_1 (n : Nat) (a0 : List (ByteArray)) : Option (Tup [.bool]) := goRec slices_ContainsFunc_string_impl_goodNames_1.step n (.p0 a0)
def slices_ContainsFunc_string_impl_goodNames_1.spec : Ctr := ⟨71, [.v (.sl false .str), .fn 72 []], [.bool], [], none, fun n x => slices_ContainsFunc_string_impl_goodNames_1 n x.1⟩
theorem slices_ContainsFunc_string_impl_goodNames_1.seg_eq : SegEq ty gl slices_ContainsFunc_string_impl_goodNames_1.F slices_ContainsFunc_string_impl_goodNames_1.md slices_ContainsFunc_string_impl_goodNames_1.T slices_ContainsFunc_string_impl_goodNames_1.spec slices_ContainsFunc_string_impl_goodNames_1.lb slices_ContainsFunc_string_impl_goodNames_1.st slices_ContainsFunc_string_impl_goodNames_1.step := by
  intro n goto y; cases y <;> kernel_rfl
theorem slices_ContainsFunc_string_impl_goodNames_1.text : Text Go.Proofs.Try.prog slices_ContainsFunc_string_impl_goodNames_1.F slices_ContainsFunc_string_impl_goodNames_1.spec := textOf Go.Proofs.Try.f71
theorem slices_ContainsFunc_string_impl_goodNames_1.ok : CtrOK Go.Proofs.Try.prog gl slices_ContainsFunc_string_impl_goodNames_1.spec :=
  ctr_okS tabs slices_ContainsFunc_string_impl_goodNames_1.text slices_ContainsFunc_string_impl_goodNames_1.seg_eq (fun n x => ⟨.p0 x.1, rfl, rfl, rfl⟩) (consC slices_IndexFunc_string_impl_goodNames_1.ok (nilC))

/-! loop.example/g00039/impl.goodNames -/
def impl_goodNames.T : List Ctr := [impl_rising_string.spec, impl_goodNames_1.spec, slices_ContainsFunc_string_impl_goodNames_1.spec]
def impl_goodNames.md : List (Nat × List Md) := [(71, [.v, .fn])]
noncomputable def impl_goodNames.F : Fun := ⟨(Go.Proofs.Try.f49.body).getD .skip, [.v (.sl false .str)], [(.tmp 2, .bool)], [], 0, []⟩
inductive impl_goodNames.Pt where
  | p0 (a0 : List (ByteArray))
def impl_goodNames.lb : impl_goodNames.Pt → Nat
  | .p0 _ => 0
def impl_goodNames.st : impl_goodNames.Pt → St
  | .p0 a0 => enter [.v (.sl false .str) a0] 0
def impl_goodNames.step (n : Nat) (K : impl_goodNames.Pt → Option (Tup [.bool])) : impl_goodNames.Pt → Option (Tup [.bool])
  | .p0 a0 => cond (decide (((List.length a0) : Int) ≤ (10 : Int))) ((impl_rising_string n a0).bind fun r4 => cond r4 ((slices_ContainsFunc_string_impl_goodNames_1 n a0).bind fun r5 => some (!r5)) (some false)) (some false)
def impl_goodNames (n : Nat) (a0 : List (ByteArray)) : Option (Tup [.bool]) := goRec impl_goodNames.step n (.p0 a0)
def impl_goodNames.spec : Ctr := ⟨49, [.v (.sl false .str)], [.bool], [], none, fun n x => impl_goodNames n x.1⟩
theorem impl_goodNames.seg_eq : SegEq tyN gl impl_goodNames.F impl_goodNames.md impl_goodNames.T impl_goodNames.spec impl_goodNames.lb impl_goodNames.st impl_goodNames.step := by
  intro n goto y; cases y <;> kernel_rfl
theorem impl_goodNames.text : Text Go.Proofs.Try.prog impl_goodNames.F impl_goodNames.spec := textOf Go.Proofs.Try.f49
theorem impl_goodNames.ok : CtrOK Go.Proofs.Try.prog gl impl_goodNames.spec :=
  ctr_okS tabsN impl_goodNames.text impl_goodNames.seg_eq (fun n x => ⟨.p0 x.1, rfl, rfl, rfl⟩) (consC impl_rising_string.ok (consC impl_goodNames_1.ok (consC slices_ContainsFunc_string_impl_goodNames_1.ok (nilC))))

/-! loop.example/g00039/impl.goodBy -/
def impl_goodBy.T : List Ctr := [impl_goodNames.spec]
def impl_goodBy.md : List (Nat × List Md) := []
noncomputable def impl_goodBy.F : Fun := ⟨(Go.Proofs.Try.f48.body).getD .skip, [.v cU0], [(.tmp 2, .bool)], [], 0, []⟩
inductive impl_goodBy.Pt where
  | p0 (a0 : tU1)
def impl_goodBy.lb : impl_goodBy.Pt → Nat
  | .p0 _ => 0
def impl_goodBy.st : impl_goodBy.Pt → St
  | .p0 a0 => enter [.v cU0 a0] 0
def impl_goodBy.step (n : Nat) (K : impl_goodBy.Pt → Option (Tup [.bool])) : impl_goodBy.Pt → Option (Tup [.bool])
  | .p0 a0 => cond (decide (a0.2.2.2.2.2.2.2.2.2.2.1 = (0 : Int))) (cond (decide (((List.length a0.2.2.2.2.2.2.2.2.2.2.2.1) : Int) = (0 : Int))) (some true) (cond (decide (a0.2.2.2.2.2.2.2.2.2.2.1 = (1 : Int))) ((impl_goodNames n a0.2.2.2.2.2.2.2.2.2.2.2.1).bind fun r4 => some r4) (cond (decide (a0.2.2.2.2.2.2.2.2.2.2.1 = (2 : Int))) ((impl_goodNames n a0.2.2.2.2.2.2.2.2.2.2.2.1).bind fun r4 => some r4) (some false)))) (cond (decide (a0.2.2.2.2.2.2.2.2.2.2.1 = (1 : Int))) ((impl_goodNames n a0.2.2.2.2.2.2.2.2.2.2.2.1).bind fun r4 => some r4) (cond (decide (a0.2.2.2.2.2.2.2.2.2.2.1 = (2 : Int))) ((impl_goodNames n a0.2.2.2.2.2.2.2.2.2.2.2.1).bind fun r4 => some r4) (some false)))
def impl_goodBy (n : Nat) (a0 : tU1) : Option (Tup [.bool]) := goRec impl_goodBy.step n (.p0 a0)
def impl_goodBy.spec : Ctr := ⟨48, [.v cU0], [.bool], [], none, fun n x => impl_goodBy n x.1⟩
theorem impl_goodBy.seg_eq : SegEq tyN gl impl_goodBy.F impl_goodBy.md impl_goodBy.T impl_goodBy.spec impl_goodBy.lb impl_goodBy.st impl_goodBy.step := by
  intro n goto y; cases y <;> kernel_rfl
theorem impl_goodBy.text : Text Go.Proofs.Try.prog impl_goodBy.F impl_goodBy.spec := textOf Go.Proofs.Try.f48
theorem impl_goodBy.ok : CtrOK Go.Proofs.Try.prog gl impl_goodBy.spec :=
  ctr_okS tabsN impl_goodBy.text impl_goodBy.seg_eq (fun n x => ⟨.p0 x.1, rfl, rfl, rfl⟩) (consC impl_goodNames.ok (nilC))

/-! loop.example/g00039/impl.goodNode$1 -/
def impl_goodNode_1.T : List Ctr := []
def impl_goodNode_1.md : List (Nat × List Md) := []
noncomputable def impl_goodNode_1.F : Fun := ⟨(Go.Proofs.Try.f41.body).getD .skip, [.p cU0], [], [some cU0], 1, []⟩
inductive impl_goodNode_1.Pt where
  | p0 (a0 : tU1)
def impl_goodNode_1.lb : impl_goodNode_1.Pt → Nat
  | .p0 _ => 0
def impl_goodNode_1.st : impl_goodNode_1.Pt → St
  | .p0 a0 => enter [.p cU0 a0] 1
def impl_goodNode_1.step (n : Nat) (K : impl_goodNode_1.Pt → Option (Tup [cU0])) : impl_goodNode_1.Pt → Option (Tup [cU0])
  | .p0 a0 => some (a0.1, (a0.2.1, (a0.2.2.1, (a0.2.2.2.1, (a0.2.2.2.2.1, (a0.2.2.2.2.2.1, ((0 : Int), (false, ((0 : Int), (a0.2.2.2.2.2.2.2.2.2.1, (a0.2.2.2.2.2.2.2.2.2.2.1, (a0.2.2.2.2.2.2.2.2.2.2.2.1, (a0.2.2.2.2.2.2.2.2.2.2.2.2.1, (a0.2.2.2.2.2.2.2.2.2.2.2.2.2.1, a0.2.2.2.2.2.2.2.2.2.2.2.2.2.2))))))))))))))
def impl_goodNode_1 (n : Nat) (a0 : tU1) : Option (Tup [cU0]) := goRec impl_goodNode_1.step n (.p0 a0)
def impl_goodNode_1.spec : Ctr := ⟨41, [.p cU0], [], [cU0], none, fun n x => impl_goodNode_1 n x.1⟩
theorem impl_goodNode_1.seg_eq : SegEq tyN gl impl_goodNode_1.F impl_goodNode_1.md impl_goodNode_1.T impl_goodNode_1.spec impl_goodNode_1.lb impl_goodNode_1.st impl_goodNode_1.step := by
  intro n goto y; cases y <;> kernel_rfl
theorem impl_goodNode_1.text : Text Go.Proofs.Try.prog impl_goodNode_1.F impl_goodNode_1.spec := textOf Go.Proofs.Try.f41
theorem impl_goodNode_1.ok : CtrOK Go.Proofs.Try.prog gl impl_goodNode_1.spec :=
  ctr_okS tabsN impl_goodNode_1.text impl_goodNode_1.seg_eq (fun n x => ⟨.p0 x.1, rfl, rfl, rfl⟩) (nilC)

/-! loop.example/g00039/impl.goodNode -/
def impl_goodNode.T : List Ctr := [impl_printed.spec, impl_isName.spec, impl_isFunction.spec, impl_isWord.spec, impl_GoodMatchers.spec, impl_goodMoment.spec, impl_compares.spec, impl_goodNames.spec, impl_goodBy.spec, impl_goodNode_1.spec]
def impl_goodNode.md : List (Nat × List Md) := [(41, [.p cU0]), (1000041, [.p cU0])]
noncomputable def impl_goodNode.F : Fun := ⟨(Go.Proofs.Try.f35.body).getD .skip, [.v cU0], [(.tmp 2, .bool)], [], 0, [(14, ⟨[3, 5], [], [(3, 5, (.bs cU3)), (3, 11, (.bs .str)), (3, 13, (.bs .str))], false⟩), (110, ⟨[3, 5], [], [(3, 5, (.bs cU3)), (3, 11, (.bs .str)), (3, 13, (.bs .str))], false⟩), (98, ⟨[1, 3, 8], [], [(1, 5, (.bs cU3)), (1, 11, (.bs .str)), (1, 13, (.bs .str)), (3, 5, (.bs cU3)), (3, 11, (.bs .str)), (3, 13, (.bs .str))], false⟩), (104, ⟨[3, 5], [], [(3, 5, (.bs cU3)), (3, 11, (.bs .str)), (3, 13, (.bs .str))], false⟩), (73, ⟨[1, 3, 5], [], [(1, 5, (.bs cU3)), (1, 11, (.bs .str)), (1, 13, (.bs .str)), (3, 5, (.bs cU3)), (3, 11, (.bs .str)), (3, 13, (.bs .str))], false⟩), (78, ⟨[3, 5], [], [(3, 5, (.bs cU3)), (3, 11, (.bs .str)), (3, 13, (.bs .str))], false⟩), (83, ⟨[1, 3, 5, 198], [], [(1, 5, (.bs cU3)), (1, 11, (.bs .str)), (1, 13, (.bs .str)), (3, 5, (.bs cU3)), (3, 11, (.bs .str)), (3, 13, (.bs .str))], false⟩), (61, ⟨[3, 4, 5], [], [(3, 5, (.bs cU3)), (3, 11, (.bs .str)), (3, 13, (.bs .str))], false⟩), (55, ⟨[3, 5], [], [(3, 5, (.bs cU3)), (3, 11, (.bs .str)), (3, 13, (.bs .str))], false⟩), (30, ⟨[1, 3, 4, 5], [], [(1, 5, (.bs cU3)), (1, 11, (.bs .str)), (1, 13, (.bs .str)), (3, 5, (.bs cU3)), (3, 11, (.bs .str)), (3, 13, (.bs .str))], false⟩), (36, ⟨[3, 4, 5, 85, 86, 87], [(85, cU3)], [(3, 5, (.bs cU3)), (3, 11, (.bs .str)), (3, 13, (.bs .str))], false⟩), (24, ⟨[3, 5], [], [(3, 5, (.bs cU3)), (3, 11, (.bs .str)), (3, 13, (.bs .str))], false⟩), (18, ⟨[3, 5], [], [(3, 5, (.bs cU3)), (3, 11, (.bs .str)), (3, 13, (.bs .str))], false⟩)]⟩
inductive impl_goodNode.Pt where
  | p0 (a0 : tU1)
  | p18 (y1 : Bool) (y2 : Int) (y3 : Int) (y4 : Int) (y5 : ByteArray) (y6 : Int) (y7 : List (tU4)) (y8 : Int) (y9 : Bool) (y10 : Int) (y11 : Bool) (y12 : Int) (y13 : List (ByteArray)) (y14 : Int) (y15 : List (ByteArray)) (y16 : Int)
  | p24 (y1 : Bool) (y2 : Int) (y3 : Int) (y4 : Int) (y5 : ByteArray) (y6 : Int) (y7 : List (tU4)) (y8 : Int) (y9 : Bool) (y10 : Int) (y11 : Bool) (y12 : Int) (y13 : List (ByteArray)) (y14 : Int) (y15 : List (ByteArray)) (y16 : Int)
  | p30 (y1 : Bool) (y2 : Int) (y3 : Int) (y4 : Int) (y5 : ByteArray) (y6 : Int) (y7 : List (tU4)) (y8 : Int) (y9 : Bool) (y10 : Int) (y11 : Bool) (y12 : Int) (y13 : List (ByteArray)) (y14 : Int) (y15 : List (ByteArray)) (y16 : Int) (y17 : Int) (y18 : Int) (y19 : Int) (y20 : ByteArray) (y21 : Int) (y22 : List (tU4)) (y23 : Int) (y24 : Bool) (y25 : Int) (y26 : Bool) (y27 : Int) (y28 : List (ByteArray)) (y29 : Int) (y30 : List (ByteArray)) (y31 : Int)
  | p55 (y1 : Bool) (y2 : Int) (y3 : Int) (y4 : Int) (y5 : ByteArray) (y6 : Int) (y7 : List (tU4)) (y8 : Int) (y9 : Bool) (y10 : Int) (y11 : Bool) (y12 : Int) (y13 : List (ByteArray)) (y14 : Int) (y15 : List (ByteArray)) (y16 : Int)
  | p61 (y1 : Bool) (y2 : Int) (y3 : Int) (y4 : Int) (y5 : ByteArray) (y6 : Int) (y7 : List (tU4)) (y8 : Int) (y9 : Bool) (y10 : Int) (y11 : Bool) (y12 : Int) (y13 : List (ByteArray)) (y14 : Int) (y15 : List (ByteArray)) (y16 : Int)
  | p14 (y1 : Bool) (y2 : Int) (y3 : Int) (y4 : Int) (y5 : ByteArray) (y6 : Int) (y7 : List (tU4)) (y8 : Int) (y9 : Bool) (y10 : Int) (y11 : Bool) (y12 : Int) (y13 : List (ByteArray)) (y14 : Int) (y15 : List (ByteArray)) (y16 : Int)
  | p73 (y1 : Bool) (y2 : Int) (y3 : Int) (y4 : Int) (y5 : ByteArray) (y6 : Int) (y7 : List (tU4)) (y8 : Int) (y9 : Bool) (y10 : Int) (y11 : Bool) (y12 : Int) (y13 : List (ByteArray)) (y14 : Int) (y15 : List (ByteArray)) (y16 : Int) (y17 : Int) (y18 : Int) (y19 : Int) (y20 : ByteArray) (y21 : Int) (y22 : List (tU4)) (y23 : Int) (y24 : Bool) (y25 : Int) (y26 : Bool) (y27 : Int) (y28 : List (ByteArray)) (y29 : Int) (y30 : List (ByteArray)) (y31 : Int)
  | p98 (y1 : Int) (y2 : Int) (y3 : Int) (y4 : Int) (y5 : ByteArray) (y6 : Int) (y7 : List (tU4)) (y8 : Int) (y9 : Bool) (y10 : Int) (y11 : Bool) (y12 : Int) (y13 : List (ByteArray)) (y14 : Int) (y15 : List (ByteArray)) (y16 : Int) (y17 : Int) (y18 : Int) (y19 : Int) (y20 : ByteArray) (y21 : Int) (y22 : List (tU4)) (y23 : Int) (y24 : Bool) (y25 : Int) (y26 : Bool) (y27 : Int) (y28 : List (ByteArray)) (y29 : Int) (y30 : List (ByteArray)) (y31 : Int)
  | p110 (y1 : Bool) (y2 : Int) (y3 : Int) (y4 : Int) (y5 : ByteArray) (y6 : Int) (y7 : List (tU4)) (y8 : Int) (y9 : Bool) (y10 : Int) (y11 : Bool) (y12 : Int) (y13 : List (ByteArray)) (y14 : Int) (y15 : List (ByteArray)) (y16 : Int)
  | p36 (y1 : Bool) (y2 : List (tU4)) (y3 : Int) (y4 : Int) (y5 : Int) (y6 : Int) (y7 : Int) (y8 : ByteArray) (y9 : Int) (y10 : List (tU4)) (y11 : Int) (y12 : Bool) (y13 : Int) (y14 : Bool) (y15 : Int) (y16 : List (ByteArray)) (y17 : Int) (y18 : List (ByteArray)) (y19 : Int)
  | p78 (y1 : Bool) (y2 : Int) (y3 : Int) (y4 : Int) (y5 : ByteArray) (y6 : Int) (y7 : List (tU4)) (y8 : Int) (y9 : Bool) (y10 : Int) (y11 : Bool) (y12 : Int) (y13 : List (ByteArray)) (y14 : Int) (y15 : List (ByteArray)) (y16 : Int)
  | p83 (y1 : Bool) (y2 : Bool) (y3 : Int) (y4 : Int) (y5 : Int) (y6 : ByteArray) (y7 : Int) (y8 : List (tU4)) (y9 : Int) (y10 : Bool) (y11 : Int) (y12 : Bool) (y13 : Int) (y14 : List (ByteArray)) (y15 : Int) (y16 : List (ByteArray)) (y17 : Int) (y18 : Int) (y19 : Int) (y20 : Int) (y21 : ByteArray) (y22 : Int) (y23 : List (tU4)) (y24 : Int) (y25 : Bool) (y26 : Int) (y27 : Bool) (y28 : Int) (y29 : List (ByteArray)) (y30 : Int) (y31 : List (ByteArray)) (y32 : Int)
  | p104 (y1 : Bool) (y2 : Int) (y3 : Int) (y4 : Int) (y5 : ByteArray) (y6 : Int) (y7 : List (tU4)) (y8 : Int) (y9 : Bool) (y10 : Int) (y11 : Bool) (y12 : Int) (y13 : List (ByteArray)) (y14 : Int) (y15 : List (ByteArray)) (y16 : Int)
def impl_goodNode.lb : impl_goodNode.Pt → Nat
  | .p0 _ => 0
  | .p18 _ _ _ _ _ _ _ _ _ _ _ _ _ _ _ _ => 18
  | .p24 _ _ _ _ _ _ _ _ _ _ _ _ _ _ _ _ => 24
  | .p30 _ _ _ _ _ _ _ _ _ _ _ _ _ _ _ _ _ _ _ _ _ _ _ _ _ _ _ _ _ _ _ => 30
  | .p55 _ _ _ _ _ _ _ _ _ _ _ _ _ _ _ _ => 55
  | .p61 _ _ _ _ _ _ _ _ _ _ _ _ _ _ _ _ => 61
  | .p14 _ _ _ _ _ _ _ _ _ _ _ _ _ _ _ _ => 14
  | .p73 _ _ _ _ _ _ _ _ _ _ _ _ _ _ _ _ _ _ _ _ _ _ _ _ _ _ _ _ _ _ _ => 73
  | .p98 _ _ _ _ _ _ _ _ _ _ _ _ _ _ _ _ _ _ _ _ _ _ _ _ _ _ _ _ _ _ _ => 98
  | .p110 _ _ _ _ _ _ _ _ _ _ _ _ _ _ _ _ => 110
  | .p36 _ _ _ _ _ _ _ _ _ _ _ _ _ _ _ _ _ _ _ => 36
  | .p78 _ _ _ _ _ _ _ _ _ _ _ _ _ _ _ _ => 78
  | .p83 _ _ _ _ _ _ _ _ _ _ _ _ _ _ _ _ _ _ _ _ _ _ _ _ _ _ _ _ _ _ _ _ => 83
  | .p104 _ _ _ _ _ _ _ _ _ _ _ _ _ _ _ _ => 104
def impl_goodNode.st : impl_goodNode.Pt → St
  | .p0 a0 => enter [.v cU0 a0] 0
  | .p18 y1 y2 y3 y4 y5 y6 y7 y8 y9 y10 y11 y12 y13 y14 y15 y16 => ⟨[(3, .po 0 0), (5, .im .bool y1)], [(0, .obj [.im (.int .i64) y2, .im (.int .i64) y3, .im (.int .i64) y4, .im .str y5, .im (.int .i64) y6, .im (.bs cU3) y7, .im (.int .i64) y8, .im .bool y9, .im (.int .i64) y10, .im .bool y11, .im (.int .i64) y12, .im (.bs .str) y13, .im (.int .i64) y14, .im (.bs .str) y15, .im (.int .i64) y16])], 1⟩
  | .p24 y1 y2 y3 y4 y5 y6 y7 y8 y9 y10 y11 y12 y13 y14 y15 y16 => ⟨[(3, .po 0 0), (5, .im .bool y1)], [(0, .obj [.im (.int .i64) y2, .im (.int .i64) y3, .im (.int .i64) y4, .im .str y5, .im (.int .i64) y6, .im (.bs cU3) y7, .im (.int .i64) y8, .im .bool y9, .im (.int .i64) y10, .im .bool y11, .im (.int .i64) y12, .im (.bs .str) y13, .im (.int .i64) y14, .im (.bs .str) y15, .im (.int .i64) y16])], 1⟩
  | .p30 y1 y2 y3 y4 y5 y6 y7 y8 y9 y10 y11 y12 y13 y14 y15 y16 y17 y18 y19 y20 y21 y22 y23 y24 y25 y26 y27 y28 y29 y30 y31 => ⟨[(1, .po 0 0), (3, .po 1 0), (4, .fn 41 [.po 1 0]), (5, .im .bool y1)], [(0, .obj [.im (.int .i64) y2, .im (.int .i64) y3, .im (.int .i64) y4, .im .str y5, .im (.int .i64) y6, .im (.bs cU3) y7, .im (.int .i64) y8, .im .bool y9, .im (.int .i64) y10, .im .bool y11, .im (.int .i64) y12, .im (.bs .str) y13, .im (.int .i64) y14, .im (.bs .str) y15, .im (.int .i64) y16]), (1, .obj [.im (.int .i64) y17, .im (.int .i64) y18, .im (.int .i64) y19, .im .str y20, .im (.int .i64) y21, .im (.bs cU3) y22, .im (.int .i64) y23, .im .bool y24, .im (.int .i64) y25, .im .bool y26, .im (.int .i64) y27, .im (.bs .str) y28, .im (.int .i64) y29, .im (.bs .str) y30, .im (.int .i64) y31])], 2⟩
  | .p55 y1 y2 y3 y4 y5 y6 y7 y8 y9 y10 y11 y12 y13 y14 y15 y16 => ⟨[(3, .po 0 0), (5, .im .bool y1)], [(0, .obj [.im (.int .i64) y2, .im (.int .i64) y3, .im (.int .i64) y4, .im .str y5, .im (.int .i64) y6, .im (.bs cU3) y7, .im (.int .i64) y8, .im .bool y9, .im (.int .i64) y10, .im .bool y11, .im (.int .i64) y12, .im (.bs .str) y13, .im (.int .i64) y14, .im (.bs .str) y15, .im (.int .i64) y16])], 1⟩
  | .p61 y1 y2 y3 y4 y5 y6 y7 y8 y9 y10 y11 y12 y13 y14 y15 y16 => ⟨[(3, .po 0 0), (4, .fn 41 [.po 0 0]), (5, .im .bool y1)], [(0, .obj [.im (.int .i64) y2, .im (.int .i64) y3, .im (.int .i64) y4, .im .str y5, .im (.int .i64) y6, .im (.bs cU3) y7, .im (.int .i64) y8, .im .bool y9, .im (.int .i64) y10, .im .bool y11, .im (.int .i64) y12, .im (.bs .str) y13, .im (.int .i64) y14, .im (.bs .str) y15, .im (.int .i64) y16])], 1⟩
  | .p14 y1 y2 y3 y4 y5 y6 y7 y8 y9 y10 y11 y12 y13 y14 y15 y16 => ⟨[(3, .po 0 0), (5, .im .bool y1)], [(0, .obj [.im (.int .i64) y2, .im (.int .i64) y3, .im (.int .i64) y4, .im .str y5, .im (.int .i64) y6, .im (.bs cU3) y7, .im (.int .i64) y8, .im .bool y9, .im (.int .i64) y10, .im .bool y11, .im (.int .i64) y12, .im (.bs .str) y13, .im (.int .i64) y14, .im (.bs .str) y15, .im (.int .i64) y16])], 1⟩
  | .p73 y1 y2 y3 y4 y5 y6 y7 y8 y9 y10 y11 y12 y13 y14 y15 y16 y17 y18 y19 y20 y21 y22 y23 y24 y25 y26 y27 y28 y29 y30 y31 => ⟨[(1, .po 0 0), (3, .po 1 0), (5, .im .bool y1)], [(0, .obj [.im (.int .i64) y2, .im (.int .i64) y3, .im (.int .i64) y4, .im .str y5, .im (.int .i64) y6, .im (.bs cU3) y7, .im (.int .i64) y8, .im .bool y9, .im (.int .i64) y10, .im .bool y11, .im (.int .i64) y12, .im (.bs .str) y13, .im (.int .i64) y14, .im (.bs .str) y15, .im (.int .i64) y16]), (1, .obj [.im (.int .i64) y17, .im (.int .i64) y18, .im (.int .i64) y19, .im .str y20, .im (.int .i64) y21, .im (.bs cU3) y22, .im (.int .i64) y23, .im .bool y24, .im (.int .i64) y25, .im .bool y26, .im (.int .i64) y27, .im (.bs .str) y28, .im (.int .i64) y29, .im (.bs .str) y30, .im (.int .i64) y31])], 2⟩
  | .p98 y1 y2 y3 y4 y5 y6 y7 y8 y9 y10 y11 y12 y13 y14 y15 y16 y17 y18 y19 y20 y21 y22 y23 y24 y25 y26 y27 y28 y29 y30 y31 => ⟨[(1, .po 0 0), (3, .po 1 0), (8, .im (.int .i64) y1)], [(0, .obj [.im (.int .i64) y2, .im (.int .i64) y3, .im (.int .i64) y4, .im .str y5, .im (.int .i64) y6, .im (.bs cU3) y7, .im (.int .i64) y8, .im .bool y9, .im (.int .i64) y10, .im .bool y11, .im (.int .i64) y12, .im (.bs .str) y13, .im (.int .i64) y14, .im (.bs .str) y15, .im (.int .i64) y16]), (1, .obj [.im (.int .i64) y17, .im (.int .i64) y18, .im (.int .i64) y19, .im .str y20, .im (.int .i64) y21, .im (.bs cU3) y22, .im (.int .i64) y23, .im .bool y24, .im (.int .i64) y25, .im .bool y26, .im (.int .i64) y27, .im (.bs .str) y28, .im (.int .i64) y29, .im (.bs .str) y30, .im (.int .i64) y31])], 2⟩
  | .p110 y1 y2 y3 y4 y5 y6 y7 y8 y9 y10 y11 y12 y13 y14 y15 y16 => ⟨[(3, .po 0 0), (5, .im .bool y1)], [(0, .obj [.im (.int .i64) y2, .im (.int .i64) y3, .im (.int .i64) y4, .im .str y5, .im (.int .i64) y6, .im (.bs cU3) y7, .im (.int .i64) y8, .im .bool y9, .im (.int .i64) y10, .im .bool y11, .im (.int .i64) y12, .im (.bs .str) y13, .im (.int .i64) y14, .im (.bs .str) y15, .im (.int .i64) y16])], 1⟩
  | .p36 y1 y2 y3 y4 y5 y6 y7 y8 y9 y10 y11 y12 y13 y14 y15 y16 y17 y18 y19 => ⟨[(3, .po 0 0), (4, .fn 41 [.po 0 0]), (5, .im .bool y1), (85, .im (.bs cU3) y2), (86, .im (.int .i64) y3), (87, .im (.int .i64) y4)], [(0, .obj [.im (.int .i64) y5, .im (.int .i64) y6, .im (.int .i64) y7, .im .str y8, .im (.int .i64) y9, .im (.bs cU3) y10, .im (.int .i64) y11, .im .bool y12, .im (.int .i64) y13, .im .bool y14, .im (.int .i64) y15, .im (.bs .str) y16, .im (.int .i64) y17, .im (.bs .str) y18, .im (.int .i64) y19])], 1⟩
  | .p78 y1 y2 y3 y4 y5 y6 y7 y8 y9 y10 y11 y12 y13 y14 y15 y16 => ⟨[(3, .po 0 0), (5, .im .bool y1)], [(0, .obj [.im (.int .i64) y2, .im (.int .i64) y3, .im (.int .i64) y4, .im .str y5, .im (.int .i64) y6, .im (.bs cU3) y7, .im (.int .i64) y8, .im .bool y9, .im (.int .i64) y10, .im .bool y11, .im (.int .i64) y12, .im (.bs .str) y13, .im (.int .i64) y14, .im (.bs .str) y15, .im (.int .i64) y16])], 1⟩
  | .p83 y1 y2 y3 y4 y5 y6 y7 y8 y9 y10 y11 y12 y13 y14 y15 y16 y17 y18 y19 y20 y21 y22 y23 y24 y25 y26 y27 y28 y29 y30 y31 y32 => ⟨[(1, .po 0 0), (3, .po 1 0), (5, .im .bool y1), (198, .im .bool y2)], [(0, .obj [.im (.int .i64) y3, .im (.int .i64) y4, .im (.int .i64) y5, .im .str y6, .im (.int .i64) y7, .im (.bs cU3) y8, .im (.int .i64) y9, .im .bool y10, .im (.int .i64) y11, .im .bool y12, .im (.int .i64) y13, .im (.bs .str) y14, .im (.int .i64) y15, .im (.bs .str) y16, .im (.int .i64) y17]), (1, .obj [.im (.int .i64) y18, .im (.int .i64) y19, .im (.int .i64) y20, .im .str y21, .im (.int .i64) y22, .im (.bs cU3) y23, .im (.int .i64) y24, .im .bool y25, .im (.int .i64) y26, .im .bool y27, .im (.int .i64) y28, .im (.bs .str) y29, .im (.int .i64) y30, .im (.bs .str) y31, .im (.int .i64) y32])], 2⟩
  | .p104 y1 y2 y3 y4 y5 y6 y7 y8 y9 y10 y11 y12 y13 y14 y15 y16 => ⟨[(3, .po 0 0), (5, .im .bool y1)], [(0, .obj [.im (.int .i64) y2, .im (.int .i64) y3, .im (.int .i64) y4, .im .str y5, .im (.int .i64) y6, .im (.bs cU3) y7, .im (.int .i64) y8, .im .bool y9, .im (.int .i64) y10, .im .bool y11, .im (.int .i64) y12, .im (.bs .str) y13, .im (.int .i64) y14, .im (.bs .str) y15, .im (.int .i64) y16])], 1⟩
def impl_goodNode.step (n : Nat) (K : impl_goodNode.Pt → Option (Tup [.bool])) : impl_goodNode.Pt → Option (Tup [.bool])
  | .p0 a0 => cond (decide (a0.1 = (1 : Int))) (cond (decide ((0 : Int) ≤ a0.2.1)) (K (.p18 (decide (a0.2.2.2.2.2.2.2.2.2.2.2.2.2.2.1 = (0 : Int))) (0 : Int) a0.2.1 a0.2.2.1 a0.2.2.2.1 a0.2.2.2.2.1 a0.2.2.2.2.2.1 a0.2.2.2.2.2.2.1 a0.2.2.2.2.2.2.2.1 a0.2.2.2.2.2.2.2.2.1 a0.2.2.2.2.2.2.2.2.2.1 a0.2.2.2.2.2.2.2.2.2.2.1 a0.2.2.2.2.2.2.2.2.2.2.2.1 a0.2.2.2.2.2.2.2.2.2.2.2.2.1 a0.2.2.2.2.2.2.2.2.2.2.2.2.2.1 (0 : Int))) (K (.p18 false (0 : Int) a0.2.1 a0.2.2.1 a0.2.2.2.1 a0.2.2.2.2.1 a0.2.2.2.2.2.1 a0.2.2.2.2.2.2.1 a0.2.2.2.2.2.2.2.1 a0.2.2.2.2.2.2.2.2.1 a0.2.2.2.2.2.2.2.2.2.1 a0.2.2.2.2.2.2.2.2.2.2.1 a0.2.2.2.2.2.2.2.2.2.2.2.1 a0.2.2.2.2.2.2.2.2.2.2.2.2.1 a0.2.2.2.2.2.2.2.2.2.2.2.2.2.1 (0 : Int)))) (cond (decide (a0.1 = (2 : Int))) ((impl_printed n a0.2.2.2.1 (100 : Int)).bind fun r4 => cond r4 (K (.p24 (decide (a0.2.2.2.2.2.2.2.2.2.2.2.2.2.2.1 = (0 : Int))) (0 : Int) a0.2.1 a0.2.2.1 a0.2.2.2.1 a0.2.2.2.2.1 a0.2.2.2.2.2.1 a0.2.2.2.2.2.2.1 a0.2.2.2.2.2.2.2.1 a0.2.2.2.2.2.2.2.2.1 a0.2.2.2.2.2.2.2.2.2.1 a0.2.2.2.2.2.2.2.2.2.2.1 a0.2.2.2.2.2.2.2.2.2.2.2.1 a0.2.2.2.2.2.2.2.2.2.2.2.2.1 a0.2.2.2.2.2.2.2.2.2.2.2.2.2.1 (0 : Int))) (K (.p24 false (0 : Int) a0.2.1 a0.2.2.1 a0.2.2.2.1 a0.2.2.2.2.1 a0.2.2.2.2.2.1 a0.2.2.2.2.2.2.1 a0.2.2.2.2.2.2.2.1 a0.2.2.2.2.2.2.2.2.1 a0.2.2.2.2.2.2.2.2.2.1 a0.2.2.2.2.2.2.2.2.2.2.1 a0.2.2.2.2.2.2.2.2.2.2.2.1 a0.2.2.2.2.2.2.2.2.2.2.2.2.1 a0.2.2.2.2.2.2.2.2.2.2.2.2.2.1 (0 : Int)))) (cond (decide (a0.1 = (3 : Int))) (cond (decide (a0.2.2.2.2.2.2.2.2.2.2.2.2.2.2.1 = (0 : Int))) (cond (seq a0.2.2.2.1 (⟨#[]⟩ : ByteArray)) ((impl_GoodMatchers n a0.2.2.2.2.2.1).bind fun r4 => cond r4 (cond (decide (((List.length a0.2.2.2.2.2.1) : Int) < (10 : Int))) (cond (!(seq a0.2.2.2.1 (⟨#[]⟩ : ByteArray))) ((impl_goodMoment n (a0.1, (a0.2.1, (a0.2.2.1, (a0.2.2.2.1, (a0.2.2.2.2.1, (a0.2.2.2.2.2.1, (a0.2.2.2.2.2.2.1, (a0.2.2.2.2.2.2.2.1, (a0.2.2.2.2.2.2.2.2.1, (a0.2.2.2.2.2.2.2.2.2.1, (a0.2.2.2.2.2.2.2.2.2.2.1, (a0.2.2.2.2.2.2.2.2.2.2.2.1, (a0.2.2.2.2.2.2.2.2.2.2.2.2.1, (a0.2.2.2.2.2.2.2.2.2.2.2.2.2.1, a0.2.2.2.2.2.2.2.2.2.2.2.2.2.2))))))))))))))).bind fun r5 => K (.p30 r5 a0.1 a0.2.1 a0.2.2.1 a0.2.2.2.1 a0.2.2.2.2.1 a0.2.2.2.2.2.1 a0.2.2.2.2.2.2.1 a0.2.2.2.2.2.2.2.1 a0.2.2.2.2.2.2.2.2.1 a0.2.2.2.2.2.2.2.2.2.1 a0.2.2.2.2.2.2.2.2.2.2.1 a0.2.2.2.2.2.2.2.2.2.2.2.1 a0.2.2.2.2.2.2.2.2.2.2.2.2.1 a0.2.2.2.2.2.2.2.2.2.2.2.2.2.1 a0.2.2.2.2.2.2.2.2.2.2.2.2.2.2.1 (0 : Int) a0.2.1 a0.2.2.1 a0.2.2.2.1 a0.2.2.2.2.1 a0.2.2.2.2.2.1 a0.2.2.2.2.2.2.1 a0.2.2.2.2.2.2.2.1 a0.2.2.2.2.2.2.2.2.1 a0.2.2.2.2.2.2.2.2.2.1 a0.2.2.2.2.2.2.2.2.2.2.1 a0.2.2.2.2.2.2.2.2.2.2.2.1 a0.2.2.2.2.2.2.2.2.2.2.2.2.1 a0.2.2.2.2.2.2.2.2.2.2.2.2.2.1 (0 : Int))) (cond (decide ((0 : Int) < ((List.length a0.2.2.2.2.2.1) : Int))) ((impl_goodMoment n (a0.1, (a0.2.1, (a0.2.2.1, (a0.2.2.2.1, (a0.2.2.2.2.1, (a0.2.2.2.2.2.1, (a0.2.2.2.2.2.2.1, (a0.2.2.2.2.2.2.2.1, (a0.2.2.2.2.2.2.2.2.1, (a0.2.2.2.2.2.2.2.2.2.1, (a0.2.2.2.2.2.2.2.2.2.2.1, (a0.2.2.2.2.2.2.2.2.2.2.2.1, (a0.2.2.2.2.2.2.2.2.2.2.2.2.1, (a0.2.2.2.2.2.2.2.2.2.2.2.2.2.1, a0.2.2.2.2.2.2.2.2.2.2.2.2.2.2))))))))))))))).bind fun r5 => K (.p30 r5 a0.1 a0.2.1 a0.2.2.1 a0.2.2.2.1 a0.2.2.2.2.1 a0.2.2.2.2.2.1 a0.2.2.2.2.2.2.1 a0.2.2.2.2.2.2.2.1 a0.2.2.2.2.2.2.2.2.1 a0.2.2.2.2.2.2.2.2.2.1 a0.2.2.2.2.2.2.2.2.2.2.1 a0.2.2.2.2.2.2.2.2.2.2.2.1 a0.2.2.2.2.2.2.2.2.2.2.2.2.1 a0.2.2.2.2.2.2.2.2.2.2.2.2.2.1 a0.2.2.2.2.2.2.2.2.2.2.2.2.2.2.1 (0 : Int) a0.2.1 a0.2.2.1 a0.2.2.2.1 a0.2.2.2.2.1 a0.2.2.2.2.2.1 a0.2.2.2.2.2.2.1 a0.2.2.2.2.2.2.2.1 a0.2.2.2.2.2.2.2.2.1 a0.2.2.2.2.2.2.2.2.2.1 a0.2.2.2.2.2.2.2.2.2.2.1 a0.2.2.2.2.2.2.2.2.2.2.2.1 a0.2.2.2.2.2.2.2.2.2.2.2.2.1 a0.2.2.2.2.2.2.2.2.2.2.2.2.2.1 (0 : Int))) (K (.p30 false a0.1 a0.2.1 a0.2.2.1 a0.2.2.2.1 a0.2.2.2.2.1 a0.2.2.2.2.2.1 a0.2.2.2.2.2.2.1 a0.2.2.2.2.2.2.2.1 a0.2.2.2.2.2.2.2.2.1 a0.2.2.2.2.2.2.2.2.2.1 a0.2.2.2.2.2.2.2.2.2.2.1 a0.2.2.2.2.2.2.2.2.2.2.2.1 a0.2.2.2.2.2.2.2.2.2.2.2.2.1 a0.2.2.2.2.2.2.2.2.2.2.2.2.2.1 a0.2.2.2.2.2.2.2.2.2.2.2.2.2.2.1 (0 : Int) a0.2.1 a0.2.2.1 a0.2.2.2.1 a0.2.2.2.2.1 a0.2.2.2.2.2.1 a0.2.2.2.2.2.2.1 a0.2.2.2.2.2.2.2.1 a0.2.2.2.2.2.2.2.2.1 a0.2.2.2.2.2.2.2.2.2.1 a0.2.2.2.2.2.2.2.2.2.2.1 a0.2.2.2.2.2.2.2.2.2.2.2.1 a0.2.2.2.2.2.2.2.2.2.2.2.2.1 a0.2.2.2.2.2.2.2.2.2.2.2.2.2.1 (0 : Int))))) (K (.p30 false a0.1 a0.2.1 a0.2.2.1 a0.2.2.2.1 a0.2.2.2.2.1 a0.2.2.2.2.2.1 a0.2.2.2.2.2.2.1 a0.2.2.2.2.2.2.2.1 a0.2.2.2.2.2.2.2.2.1 a0.2.2.2.2.2.2.2.2.2.1 a0.2.2.2.2.2.2.2.2.2.2.1 a0.2.2.2.2.2.2.2.2.2.2.2.1 a0.2.2.2.2.2.2.2.2.2.2.2.2.1 a0.2.2.2.2.2.2.2.2.2.2.2.2.2.1 a0.2.2.2.2.2.2.2.2.2.2.2.2.2.2.1 (0 : Int) a0.2.1 a0.2.2.1 a0.2.2.2.1 a0.2.2.2.2.1 a0.2.2.2.2.2.1 a0.2.2.2.2.2.2.1 a0.2.2.2.2.2.2.2.1 a0.2.2.2.2.2.2.2.2.1 a0.2.2.2.2.2.2.2.2.2.1 a0.2.2.2.2.2.2.2.2.2.2.1 a0.2.2.2.2.2.2.2.2.2.2.2.1 a0.2.2.2.2.2.2.2.2.2.2.2.2.1 a0.2.2.2.2.2.2.2.2.2.2.2.2.2.1 (0 : Int)))) (K (.p30 false a0.1 a0.2.1 a0.2.2.1 a0.2.2.2.1 a0.2.2.2.2.1 a0.2.2.2.2.2.1 a0.2.2.2.2.2.2.1 a0.2.2.2.2.2.2.2.1 a0.2.2.2.2.2.2.2.2.1 a0.2.2.2.2.2.2.2.2.2.1 a0.2.2.2.2.2.2.2.2.2.2.1 a0.2.2.2.2.2.2.2.2.2.2.2.1 a0.2.2.2.2.2.2.2.2.2.2.2.2.1 a0.2.2.2.2.2.2.2.2.2.2.2.2.2.1 a0.2.2.2.2.2.2.2.2.2.2.2.2.2.2.1 (0 : Int) a0.2.1 a0.2.2.1 a0.2.2.2.1 a0.2.2.2.2.1 a0.2.2.2.2.2.1 a0.2.2.2.2.2.2.1 a0.2.2.2.2.2.2.2.1 a0.2.2.2.2.2.2.2.2.1 a0.2.2.2.2.2.2.2.2.2.1 a0.2.2.2.2.2.2.2.2.2.2.1 a0.2.2.2.2.2.2.2.2.2.2.2.1 a0.2.2.2.2.2.2.2.2.2.2.2.2.1 a0.2.2.2.2.2.2.2.2.2.2.2.2.2.1 (0 : Int)))) ((impl_isName n a0.2.2.2.1).bind fun r4 => cond r4 ((impl_isWord n a0.2.2.2.1).bind fun r5 => cond (!r5) ((impl_GoodMatchers n a0.2.2.2.2.2.1).bind fun r6 => cond r6 (cond (decide (((List.length a0.2.2.2.2.2.1) : Int) < (10 : Int))) (cond (!(seq a0.2.2.2.1 (⟨#[]⟩ : ByteArray))) ((impl_goodMoment n (a0.1, (a0.2.1, (a0.2.2.1, (a0.2.2.2.1, (a0.2.2.2.2.1, (a0.2.2.2.2.2.1, (a0.2.2.2.2.2.2.1, (a0.2.2.2.2.2.2.2.1, (a0.2.2.2.2.2.2.2.2.1, (a0.2.2.2.2.2.2.2.2.2.1, (a0.2.2.2.2.2.2.2.2.2.2.1, (a0.2.2.2.2.2.2.2.2.2.2.2.1, (a0.2.2.2.2.2.2.2.2.2.2.2.2.1, (a0.2.2.2.2.2.2.2.2.2.2.2.2.2.1, a0.2.2.2.2.2.2.2.2.2.2.2.2.2.2))))))))))))))).bind fun r7 => K (.p30 r7 a0.1 a0.2.1 a0.2.2.1 a0.2.2.2.1 a0.2.2.2.2.1 a0.2.2.2.2.2.1 a0.2.2.2.2.2.2.1 a0.2.2.2.2.2.2.2.1 a0.2.2.2.2.2.2.2.2.1 a0.2.2.2.2.2.2.2.2.2.1 a0.2.2.2.2.2.2.2.2.2.2.1 a0.2.2.2.2.2.2.2.2.2.2.2.1 a0.2.2.2.2.2.2.2.2.2.2.2.2.1 a0.2.2.2.2.2.2.2.2.2.2.2.2.2.1 a0.2.2.2.2.2.2.2.2.2.2.2.2.2.2.1 (0 : Int) a0.2.1 a0.2.2.1 a0.2.2.2.1 a0.2.2.2.2.1 a0.2.2.2.2.2.1 a0.2.2.2.2.2.2.1 a0.2.2.2.2.2.2.2.1 a0.2.2.2.2.2.2.2.2.1 a0.2.2.2.2.2.2.2.2.2.1 a0.2.2.2.2.2.2.2.2.2.2.1 a0.2.2.2.2.2.2.2.2.2.2.2.1 a0.2.2.2.2.2.2.2.2.2.2.2.2.1 a0.2.2.2.2.2.2.2.2.2.2.2.2.2.1 (0 : Int))) (cond (decide ((0 : Int) < ((List.length a0.2.2.2.2.2.1) : Int))) ((impl_goodMoment n (a0.1, (a0.2.1, (a0.2.2.1, (a0.2.2.2.1, (a0.2.2.2.2.1, (a0.2.2.2.2.2.1, (a0.2.2.2.2.2.2.1, (a0.2.2.2.2.2.2.2.1, (a0.2.2.2.2.2.2.2.2.1, (a0.2.2.2.2.2.2.2.2.2.1, (a0.2.2.2.2.2.2.2.2.2.2.1, (a0.2.2.2.2.2.2.2.2.2.2.2.1, (a0.2.2.2.2.2.2.2.2.2.2.2.2.1, (a0.2.2.2.2.2.2.2.2.2.2.2.2.2.1, a0.2.2.2.2.2.2.2.2.2.2.2.2.2.2))))))))))))))).bind fun r7 => K (.p30 r7 a0.1 a0.2.1 a0.2.2.1 a0.2.2.2.1 a0.2.2.2.2.1 a0.2.2.2.2.2.1 a0.2.2.2.2.2.2.1 a0.2.2.2.2.2.2.2.1 a0.2.2.2.2.2.2.2.2.1 a0.2.2.2.2.2.2.2.2.2.1 a0.2.2.2.2.2.2.2.2.2.2.1 a0.2.2.2.2.2.2.2.2.2.2.2.1 a0.2.2.2.2.2.2.2.2.2.2.2.2.1 a0.2.2.2.2.2.2.2.2.2.2.2.2.2.1 a0.2.2.2.2.2.2.2.2.2.2.2.2.2.2.1 (0 : Int) a0.2.1 a0.2.2.1 a0.2.2.2.1 a0.2.2.2.2.1 a0.2.2.2.2.2.1 a0.2.2.2.2.2.2.1 a0.2.2.2.2.2.2.2.1 a0.2.2.2.2.2.2.2.2.1 a0.2.2.2.2.2.2.2.2.2.1 a0.2.2.2.2.2.2.2.2.2.2.1 a0.2.2.2.2.2.2.2.2.2.2.2.1 a0.2.2.2.2.2.2.2.2.2.2.2.2.1 a0.2.2.2.2.2.2.2.2.2.2.2.2.2.1 (0 : Int))) (K (.p30 false a0.1 a0.2.1 a0.2.2.1 a0.2.2.2.1 a0.2.2.2.2.1 a0.2.2.2.2.2.1 a0.2.2.2.2.2.2.1 a0.2.2.2.2.2.2.2.1 a0.2.2.2.2.2.2.2.2.1 a0.2.2.2.2.2.2.2.2.2.1 a0.2.2.2.2.2.2.2.2.2.2.1 a0.2.2.2.2.2.2.2.2.2.2.2.1 a0.2.2.2.2.2.2.2.2.2.2.2.2.1 a0.2.2.2.2.2.2.2.2.2.2.2.2.2.1 a0.2.2.2.2.2.2.2.2.2.2.2.2.2.2.1 (0 : Int) a0.2.1 a0.2.2.1 a0.2.2.2.1 a0.2.2.2.2.1 a0.2.2.2.2.2.1 a0.2.2.2.2.2.2.1 a0.2.2.2.2.2.2.2.1 a0.2.2.2.2.2.2.2.2.1 a0.2.2.2.2.2.2.2.2.2.1 a0.2.2.2.2.2.2.2.2.2.2.1 a0.2.2.2.2.2.2.2.2.2.2.2.1 a0.2.2.2.2.2.2.2.2.2.2.2.2.1 a0.2.2.2.2.2.2.2.2.2.2.2.2.2.1 (0 : Int))))) (K (.p30 false a0.1 a0.2.1 a0.2.2.1 a0.2.2.2.1 a0.2.2.2.2.1 a0.2.2.2.2.2.1 a0.2.2.2.2.2.2.1 a0.2.2.2.2.2.2.2.1 a0.2.2.2.2.2.2.2.2.1 a0.2.2.2.2.2.2.2.2.2.1 a0.2.2.2.2.2.2.2.2.2.2.1 a0.2.2.2.2.2.2.2.2.2.2.2.1 a0.2.2.2.2.2.2.2.2.2.2.2.2.1 a0.2.2.2.2.2.2.2.2.2.2.2.2.2.1 a0.2.2.2.2.2.2.2.2.2.2.2.2.2.2.1 (0 : Int) a0.2.1 a0.2.2.1 a0.2.2.2.1 a0.2.2.2.2.1 a0.2.2.2.2.2.1 a0.2.2.2.2.2.2.1 a0.2.2.2.2.2.2.2.1 a0.2.2.2.2.2.2.2.2.1 a0.2.2.2.2.2.2.2.2.2.1 a0.2.2.2.2.2.2.2.2.2.2.1 a0.2.2.2.2.2.2.2.2.2.2.2.1 a0.2.2.2.2.2.2.2.2.2.2.2.2.1 a0.2.2.2.2.2.2.2.2.2.2.2.2.2.1 (0 : Int)))) (K (.p30 false a0.1 a0.2.1 a0.2.2.1 a0.2.2.2.1 a0.2.2.2.2.1 a0.2.2.2.2.2.1 a0.2.2.2.2.2.2.1 a0.2.2.2.2.2.2.2.1 a0.2.2.2.2.2.2.2.2.1 a0.2.2.2.2.2.2.2.2.2.1 a0.2.2.2.2.2.2.2.2.2.2.1 a0.2.2.2.2.2.2.2.2.2.2.2.1 a0.2.2.2.2.2.2.2.2.2.2.2.2.1 a0.2.2.2.2.2.2.2.2.2.2.2.2.2.1 a0.2.2.2.2.2.2.2.2.2.2.2.2.2.2.1 (0 : Int) a0.2.1 a0.2.2.1 a0.2.2.2.1 a0.2.2.2.2.1 a0.2.2.2.2.2.1 a0.2.2.2.2.2.2.1 a0.2.2.2.2.2.2.2.1 a0.2.2.2.2.2.2.2.2.1 a0.2.2.2.2.2.2.2.2.2.1 a0.2.2.2.2.2.2.2.2.2.2.1 a0.2.2.2.2.2.2.2.2.2.2.2.1 a0.2.2.2.2.2.2.2.2.2.2.2.2.1 a0.2.2.2.2.2.2.2.2.2.2.2.2.2.1 (0 : Int)))) (K (.p30 false a0.1 a0.2.1 a0.2.2.1 a0.2.2.2.1 a0.2.2.2.2.1 a0.2.2.2.2.2.1 a0.2.2.2.2.2.2.1 a0.2.2.2.2.2.2.2.1 a0.2.2.2.2.2.2.2.2.1 a0.2.2.2.2.2.2.2.2.2.1 a0.2.2.2.2.2.2.2.2.2.2.1 a0.2.2.2.2.2.2.2.2.2.2.2.1 a0.2.2.2.2.2.2.2.2.2.2.2.2.1 a0.2.2.2.2.2.2.2.2.2.2.2.2.2.1 a0.2.2.2.2.2.2.2.2.2.2.2.2.2.2.1 (0 : Int) a0.2.1 a0.2.2.1 a0.2.2.2.1 a0.2.2.2.2.1 a0.2.2.2.2.2.1 a0.2.2.2.2.2.2.1 a0.2.2.2.2.2.2.2.1 a0.2.2.2.2.2.2.2.2.1 a0.2.2.2.2.2.2.2.2.2.1 a0.2.2.2.2.2.2.2.2.2.2.1 a0.2.2.2.2.2.2.2.2.2.2.2.1 a0.2.2.2.2.2.2.2.2.2.2.2.2.1 a0.2.2.2.2.2.2.2.2.2.2.2.2.2.1 (0 : Int)))) (K (.p30 false a0.1 a0.2.1 a0.2.2.1 a0.2.2.2.1 a0.2.2.2.2.1 a0.2.2.2.2.2.1 a0.2.2.2.2.2.2.1 a0.2.2.2.2.2.2.2.1 a0.2.2.2.2.2.2.2.2.1 a0.2.2.2.2.2.2.2.2.2.1 a0.2.2.2.2.2.2.2.2.2.2.1 a0.2.2.2.2.2.2.2.2.2.2.2.1 a0.2.2.2.2.2.2.2.2.2.2.2.2.1 a0.2.2.2.2.2.2.2.2.2.2.2.2.2.1 a0.2.2.2.2.2.2.2.2.2.2.2.2.2.2.1 (0 : Int) a0.2.1 a0.2.2.1 a0.2.2.2.1 a0.2.2.2.2.1 a0.2.2.2.2.2.1 a0.2.2.2.2.2.2.1 a0.2.2.2.2.2.2.2.1 a0.2.2.2.2.2.2.2.2.1 a0.2.2.2.2.2.2.2.2.2.1 a0.2.2.2.2.2.2.2.2.2.2.1 a0.2.2.2.2.2.2.2.2.2.2.2.1 a0.2.2.2.2.2.2.2.2.2.2.2.2.1 a0.2.2.2.2.2.2.2.2.2.2.2.2.2.1 (0 : Int))))) (K (.p30 false a0.1 a0.2.1 a0.2.2.1 a0.2.2.2.1 a0.2.2.2.2.1 a0.2.2.2.2.2.1 a0.2.2.2.2.2.2.1 a0.2.2.2.2.2.2.2.1 a0.2.2.2.2.2.2.2.2.1 a0.2.2.2.2.2.2.2.2.2.1 a0.2.2.2.2.2.2.2.2.2.2.1 a0.2.2.2.2.2.2.2.2.2.2.2.1 a0.2.2.2.2.2.2.2.2.2.2.2.2.1 a0.2.2.2.2.2.2.2.2.2.2.2.2.2.1 a0.2.2.2.2.2.2.2.2.2.2.2.2.2.2.1 (0 : Int) a0.2.1 a0.2.2.1 a0.2.2.2.1 a0.2.2.2.2.1 a0.2.2.2.2.2.1 a0.2.2.2.2.2.2.1 a0.2.2.2.2.2.2.2.1 a0.2.2.2.2.2.2.2.2.1 a0.2.2.2.2.2.2.2.2.2.1 a0.2.2.2.2.2.2.2.2.2.2.1 a0.2.2.2.2.2.2.2.2.2.2.2.1 a0.2.2.2.2.2.2.2.2.2.2.2.2.1 a0.2.2.2.2.2.2.2.2.2.2.2.2.2.1 (0 : Int)))) (cond (decide (a0.1 = (4 : Int))) (cond (decide (a0.2.2.2.2.2.2.2.2.2.2.2.2.2.2.1 = (1 : Int))) (cond (decide ((1 : Int) ≤ a0.2.1)) (K (.p55 (decide (a0.2.1 ≤ (1000000000000 : Int))) (0 : Int) a0.2.1 a0.2.2.1 a0.2.2.2.1 a0.2.2.2.2.1 a0.2.2.2.2.2.1 a0.2.2.2.2.2.2.1 a0.2.2.2.2.2.2.2.1 a0.2.2.2.2.2.2.2.2.1 a0.2.2.2.2.2.2.2.2.2.1 a0.2.2.2.2.2.2.2.2.2.2.1 a0.2.2.2.2.2.2.2.2.2.2.2.1 a0.2.2.2.2.2.2.2.2.2.2.2.2.1 a0.2.2.2.2.2.2.2.2.2.2.2.2.2.1 (0 : Int))) (K (.p55 false (0 : Int) a0.2.1 a0.2.2.1 a0.2.2.2.1 a0.2.2.2.2.1 a0.2.2.2.2.2.1 a0.2.2.2.2.2.2.1 a0.2.2.2.2.2.2.2.1 a0.2.2.2.2.2.2.2.2.1 a0.2.2.2.2.2.2.2.2.2.1 a0.2.2.2.2.2.2.2.2.2.2.1 a0.2.2.2.2.2.2.2.2.2.2.2.1 a0.2.2.2.2.2.2.2.2.2.2.2.2.1 a0.2.2.2.2.2.2.2.2.2.2.2.2.2.1 (0 : Int)))) (K (.p55 false (0 : Int) a0.2.1 a0.2.2.1 a0.2.2.2.1 a0.2.2.2.2.1 a0.2.2.2.2.2.1 a0.2.2.2.2.2.2.1 a0.2.2.2.2.2.2.2.1 a0.2.2.2.2.2.2.2.2.1 a0.2.2.2.2.2.2.2.2.2.1 a0.2.2.2.2.2.2.2.2.2.2.1 a0.2.2.2.2.2.2.2.2.2.2.2.1 a0.2.2.2.2.2.2.2.2.2.2.2.2.1 a0.2.2.2.2.2.2.2.2.2.2.2.2.2.1 (0 : Int)))) (cond (decide (a0.1 = (5 : Int))) (cond (decide (a0.2.2.2.2.2.2.2.2.2.2.2.2.2.2.1 = (1 : Int))) (cond (decide ((1 : Int) ≤ a0.2.1)) (cond (decide (a0.2.1 ≤ (1000000000000 : Int))) (cond (decide ((1 : Int) ≤ a0.2.2.1)) (cond (decide (a0.2.2.1 ≤ a0.2.1)) ((impl_goodMoment n (a0.1, (a0.2.1, (a0.2.2.1, (a0.2.2.2.1, (a0.2.2.2.2.1, (a0.2.2.2.2.2.1, (a0.2.2.2.2.2.2.1, (a0.2.2.2.2.2.2.2.1, (a0.2.2.2.2.2.2.2.2.1, (a0.2.2.2.2.2.2.2.2.2.1, (a0.2.2.2.2.2.2.2.2.2.2.1, (a0.2.2.2.2.2.2.2.2.2.2.2.1, (a0.2.2.2.2.2.2.2.2.2.2.2.2.1, (a0.2.2.2.2.2.2.2.2.2.2.2.2.2.1, a0.2.2.2.2.2.2.2.2.2.2.2.2.2.2))))))))))))))).bind fun r4 => K (.p61 r4 (0 : Int) a0.2.1 a0.2.2.1 a0.2.2.2.1 a0.2.2.2.2.1 a0.2.2.2.2.2.1 a0.2.2.2.2.2.2.1 a0.2.2.2.2.2.2.2.1 a0.2.2.2.2.2.2.2.2.1 a0.2.2.2.2.2.2.2.2.2.1 a0.2.2.2.2.2.2.2.2.2.2.1 a0.2.2.2.2.2.2.2.2.2.2.2.1 a0.2.2.2.2.2.2.2.2.2.2.2.2.1 a0.2.2.2.2.2.2.2.2.2.2.2.2.2.1 (0 : Int))) (K (.p61 false (0 : Int) a0.2.1 a0.2.2.1 a0.2.2.2.1 a0.2.2.2.2.1 a0.2.2.2.2.2.1 a0.2.2.2.2.2.2.1 a0.2.2.2.2.2.2.2.1 a0.2.2.2.2.2.2.2.2.1 a0.2.2.2.2.2.2.2.2.2.1 a0.2.2.2.2.2.2.2.2.2.2.1 a0.2.2.2.2.2.2.2.2.2.2.2.1 a0.2.2.2.2.2.2.2.2.2.2.2.2.1 a0.2.2.2.2.2.2.2.2.2.2.2.2.2.1 (0 : Int)))) (K (.p61 false (0 : Int) a0.2.1 a0.2.2.1 a0.2.2.2.1 a0.2.2.2.2.1 a0.2.2.2.2.2.1 a0.2.2.2.2.2.2.1 a0.2.2.2.2.2.2.2.1 a0.2.2.2.2.2.2.2.2.1 a0.2.2.2.2.2.2.2.2.2.1 a0.2.2.2.2.2.2.2.2.2.2.1 a0.2.2.2.2.2.2.2.2.2.2.2.1 a0.2.2.2.2.2.2.2.2.2.2.2.2.1 a0.2.2.2.2.2.2.2.2.2.2.2.2.2.1 (0 : Int)))) (K (.p61 false (0 : Int) a0.2.1 a0.2.2.1 a0.2.2.2.1 a0.2.2.2.2.1 a0.2.2.2.2.2.1 a0.2.2.2.2.2.2.1 a0.2.2.2.2.2.2.2.1 a0.2.2.2.2.2.2.2.2.1 a0.2.2.2.2.2.2.2.2.2.1 a0.2.2.2.2.2.2.2.2.2.2.1 a0.2.2.2.2.2.2.2.2.2.2.2.1 a0.2.2.2.2.2.2.2.2.2.2.2.2.1 a0.2.2.2.2.2.2.2.2.2.2.2.2.2.1 (0 : Int)))) (K (.p61 false (0 : Int) a0.2.1 a0.2.2.1 a0.2.2.2.1 a0.2.2.2.2.1 a0.2.2.2.2.2.1 a0.2.2.2.2.2.2.1 a0.2.2.2.2.2.2.2.1 a0.2.2.2.2.2.2.2.2.1 a0.2.2.2.2.2.2.2.2.2.1 a0.2.2.2.2.2.2.2.2.2.2.1 a0.2.2.2.2.2.2.2.2.2.2.2.1 a0.2.2.2.2.2.2.2.2.2.2.2.2.1 a0.2.2.2.2.2.2.2.2.2.2.2.2.2.1 (0 : Int)))) (K (.p61 false (0 : Int) a0.2.1 a0.2.2.1 a0.2.2.2.1 a0.2.2.2.2.1 a0.2.2.2.2.2.1 a0.2.2.2.2.2.2.1 a0.2.2.2.2.2.2.2.1 a0.2.2.2.2.2.2.2.2.1 a0.2.2.2.2.2.2.2.2.2.1 a0.2.2.2.2.2.2.2.2.2.2.1 a0.2.2.2.2.2.2.2.2.2.2.2.1 a0.2.2.2.2.2.2.2.2.2.2.2.2.1 a0.2.2.2.2.2.2.2.2.2.2.2.2.2.1 (0 : Int)))) (cond (decide (a0.1 = (6 : Int))) (K (.p14 (decide (a0.2.2.2.2.2.2.2.2.2.2.2.2.2.2.1 = (1 : Int))) (0 : Int) a0.2.1 a0.2.2.1 a0.2.2.2.1 a0.2.2.2.2.1 a0.2.2.2.2.2.1 a0.2.2.2.2.2.2.1 a0.2.2.2.2.2.2.2.1 a0.2.2.2.2.2.2.2.2.1 a0.2.2.2.2.2.2.2.2.2.1 a0.2.2.2.2.2.2.2.2.2.2.1 a0.2.2.2.2.2.2.2.2.2.2.2.1 a0.2.2.2.2.2.2.2.2.2.2.2.2.1 a0.2.2.2.2.2.2.2.2.2.2.2.2.2.1 (0 : Int))) (cond (decide (a0.1 = (7 : Int))) (cond (decide (a0.2.2.2.2.2.2.2.2.2.2.2.2.2.2.1 = (2 : Int))) (cond (decide ((1 : Int) ≤ a0.2.2.2.2.1)) (cond (decide (a0.2.2.2.2.1 ≤ (14 : Int))) (cond (!a0.2.2.2.2.2.2.2.2.2.1) ((impl_goodBy n (a0.1, (a0.2.1, (a0.2.2.1, (a0.2.2.2.1, (a0.2.2.2.2.1, (a0.2.2.2.2.2.1, (a0.2.2.2.2.2.2.1, (a0.2.2.2.2.2.2.2.1, (a0.2.2.2.2.2.2.2.2.1, (a0.2.2.2.2.2.2.2.2.2.1, (a0.2.2.2.2.2.2.2.2.2.2.1, (a0.2.2.2.2.2.2.2.2.2.2.2.1, (a0.2.2.2.2.2.2.2.2.2.2.2.2.1, (a0.2.2.2.2.2.2.2.2.2.2.2.2.2.1, a0.2.2.2.2.2.2.2.2.2.2.2.2.2.2))))))))))))))).bind fun r4 => K (.p73 r4 a0.1 a0.2.1 a0.2.2.1 a0.2.2.2.1 a0.2.2.2.2.1 a0.2.2.2.2.2.1 a0.2.2.2.2.2.2.1 a0.2.2.2.2.2.2.2.1 a0.2.2.2.2.2.2.2.2.1 a0.2.2.2.2.2.2.2.2.2.1 a0.2.2.2.2.2.2.2.2.2.2.1 a0.2.2.2.2.2.2.2.2.2.2.2.1 a0.2.2.2.2.2.2.2.2.2.2.2.2.1 a0.2.2.2.2.2.2.2.2.2.2.2.2.2.1 a0.2.2.2.2.2.2.2.2.2.2.2.2.2.2.1 (0 : Int) a0.2.1 a0.2.2.1 a0.2.2.2.1 a0.2.2.2.2.1 a0.2.2.2.2.2.1 a0.2.2.2.2.2.2.1 a0.2.2.2.2.2.2.2.1 a0.2.2.2.2.2.2.2.2.1 a0.2.2.2.2.2.2.2.2.2.1 a0.2.2.2.2.2.2.2.2.2.2.1 a0.2.2.2.2.2.2.2.2.2.2.2.1 a0.2.2.2.2.2.2.2.2.2.2.2.2.1 a0.2.2.2.2.2.2.2.2.2.2.2.2.2.1 (0 : Int))) ((impl_compares n a0.2.2.2.2.1).bind fun r4 => cond r4 ((impl_goodBy n (a0.1, (a0.2.1, (a0.2.2.1, (a0.2.2.2.1, (a0.2.2.2.2.1, (a0.2.2.2.2.2.1, (a0.2.2.2.2.2.2.1, (a0.2.2.2.2.2.2.2.1, (a0.2.2.2.2.2.2.2.2.1, (a0.2.2.2.2.2.2.2.2.2.1, (a0.2.2.2.2.2.2.2.2.2.2.1, (a0.2.2.2.2.2.2.2.2.2.2.2.1, (a0.2.2.2.2.2.2.2.2.2.2.2.2.1, (a0.2.2.2.2.2.2.2.2.2.2.2.2.2.1, a0.2.2.2.2.2.2.2.2.2.2.2.2.2.2))))))))))))))).bind fun r5 => K (.p73 r5 a0.1 a0.2.1 a0.2.2.1 a0.2.2.2.1 a0.2.2.2.2.1 a0.2.2.2.2.2.1 a0.2.2.2.2.2.2.1 a0.2.2.2.2.2.2.2.1 a0.2.2.2.2.2.2.2.2.1 a0.2.2.2.2.2.2.2.2.2.1 a0.2.2.2.2.2.2.2.2.2.2.1 a0.2.2.2.2.2.2.2.2.2.2.2.1 a0.2.2.2.2.2.2.2.2.2.2.2.2.1 a0.2.2.2.2.2.2.2.2.2.2.2.2.2.1 a0.2.2.2.2.2.2.2.2.2.2.2.2.2.2.1 (0 : Int) a0.2.1 a0.2.2.1 a0.2.2.2.1 a0.2.2.2.2.1 a0.2.2.2.2.2.1 a0.2.2.2.2.2.2.1 a0.2.2.2.2.2.2.2.1 a0.2.2.2.2.2.2.2.2.1 a0.2.2.2.2.2.2.2.2.2.1 a0.2.2.2.2.2.2.2.2.2.2.1 a0.2.2.2.2.2.2.2.2.2.2.2.1 a0.2.2.2.2.2.2.2.2.2.2.2.2.1 a0.2.2.2.2.2.2.2.2.2.2.2.2.2.1 (0 : Int))) (K (.p73 false a0.1 a0.2.1 a0.2.2.1 a0.2.2.2.1 a0.2.2.2.2.1 a0.2.2.2.2.2.1 a0.2.2.2.2.2.2.1 a0.2.2.2.2.2.2.2.1 a0.2.2.2.2.2.2.2.2.1 a0.2.2.2.2.2.2.2.2.2.1 a0.2.2.2.2.2.2.2.2.2.2.1 a0.2.2.2.2.2.2.2.2.2.2.2.1 a0.2.2.2.2.2.2.2.2.2.2.2.2.1 a0.2.2.2.2.2.2.2.2.2.2.2.2.2.1 a0.2.2.2.2.2.2.2.2.2.2.2.2.2.2.1 (0 : Int) a0.2.1 a0.2.2.1 a0.2.2.2.1 a0.2.2.2.2.1 a0.2.2.2.2.2.1 a0.2.2.2.2.2.2.1 a0.2.2.2.2.2.2.2.1 a0.2.2.2.2.2.2.2.2.1 a0.2.2.2.2.2.2.2.2.2.1 a0.2.2.2.2.2.2.2.2.2.2.1 a0.2.2.2.2.2.2.2.2.2.2.2.1 a0.2.2.2.2.2.2.2.2.2.2.2.2.1 a0.2.2.2.2.2.2.2.2.2.2.2.2.2.1 (0 : Int))))) (K (.p73 false a0.1 a0.2.1 a0.2.2.1 a0.2.2.2.1 a0.2.2.2.2.1 a0.2.2.2.2.2.1 a0.2.2.2.2.2.2.1 a0.2.2.2.2.2.2.2.1 a0.2.2.2.2.2.2.2.2.1 a0.2.2.2.2.2.2.2.2.2.1 a0.2.2.2.2.2.2.2.2.2.2.1 a0.2.2.2.2.2.2.2.2.2.2.2.1 a0.2.2.2.2.2.2.2.2.2.2.2.2.1 a0.2.2.2.2.2.2.2.2.2.2.2.2.2.1 a0.2.2.2.2.2.2.2.2.2.2.2.2.2.2.1 (0 : Int) a0.2.1 a0.2.2.1 a0.2.2.2.1 a0.2.2.2.2.1 a0.2.2.2.2.2.1 a0.2.2.2.2.2.2.1 a0.2.2.2.2.2.2.2.1 a0.2.2.2.2.2.2.2.2.1 a0.2.2.2.2.2.2.2.2.2.1 a0.2.2.2.2.2.2.2.2.2.2.1 a0.2.2.2.2.2.2.2.2.2.2.2.1 a0.2.2.2.2.2.2.2.2.2.2.2.2.1 a0.2.2.2.2.2.2.2.2.2.2.2.2.2.1 (0 : Int)))) (K (.p73 false a0.1 a0.2.1 a0.2.2.1 a0.2.2.2.1 a0.2.2.2.2.1 a0.2.2.2.2.2.1 a0.2.2.2.2.2.2.1 a0.2.2.2.2.2.2.2.1 a0.2.2.2.2.2.2.2.2.1 a0.2.2.2.2.2.2.2.2.2.1 a0.2.2.2.2.2.2.2.2.2.2.1 a0.2.2.2.2.2.2.2.2.2.2.2.1 a0.2.2.2.2.2.2.2.2.2.2.2.2.1 a0.2.2.2.2.2.2.2.2.2.2.2.2.2.1 a0.2.2.2.2.2.2.2.2.2.2.2.2.2.2.1 (0 : Int) a0.2.1 a0.2.2.1 a0.2.2.2.1 a0.2.2.2.2.1 a0.2.2.2.2.2.1 a0.2.2.2.2.2.2.1 a0.2.2.2.2.2.2.2.1 a0.2.2.2.2.2.2.2.2.1 a0.2.2.2.2.2.2.2.2.2.1 a0.2.2.2.2.2.2.2.2.2.2.1 a0.2.2.2.2.2.2.2.2.2.2.2.1 a0.2.2.2.2.2.2.2.2.2.2.2.2.1 a0.2.2.2.2.2.2.2.2.2.2.2.2.2.1 (0 : Int)))) (K (.p73 false a0.1 a0.2.1 a0.2.2.1 a0.2.2.2.1 a0.2.2.2.2.1 a0.2.2.2.2.2.1 a0.2.2.2.2.2.2.1 a0.2.2.2.2.2.2.2.1 a0.2.2.2.2.2.2.2.2.1 a0.2.2.2.2.2.2.2.2.2.1 a0.2.2.2.2.2.2.2.2.2.2.1 a0.2.2.2.2.2.2.2.2.2.2.2.1 a0.2.2.2.2.2.2.2.2.2.2.2.2.1 a0.2.2.2.2.2.2.2.2.2.2.2.2.2.1 a0.2.2.2.2.2.2.2.2.2.2.2.2.2.2.1 (0 : Int) a0.2.1 a0.2.2.1 a0.2.2.2.1 a0.2.2.2.2.1 a0.2.2.2.2.2.1 a0.2.2.2.2.2.2.1 a0.2.2.2.2.2.2.2.1 a0.2.2.2.2.2.2.2.2.1 a0.2.2.2.2.2.2.2.2.2.1 a0.2.2.2.2.2.2.2.2.2.2.1 a0.2.2.2.2.2.2.2.2.2.2.2.1 a0.2.2.2.2.2.2.2.2.2.2.2.2.1 a0.2.2.2.2.2.2.2.2.2.2.2.2.2.1 (0 : Int)))) (cond (decide (a0.1 = (8 : Int))) (cond (decide ((6 : Int) ≤ a0.2.2.2.2.1)) (K (.p98 (2 : Int) a0.1 a0.2.1 a0.2.2.1 a0.2.2.2.1 a0.2.2.2.2.1 a0.2.2.2.2.2.1 a0.2.2.2.2.2.2.1 a0.2.2.2.2.2.2.2.1 a0.2.2.2.2.2.2.2.2.1 a0.2.2.2.2.2.2.2.2.2.1 a0.2.2.2.2.2.2.2.2.2.2.1 a0.2.2.2.2.2.2.2.2.2.2.2.1 a0.2.2.2.2.2.2.2.2.2.2.2.2.1 a0.2.2.2.2.2.2.2.2.2.2.2.2.2.1 a0.2.2.2.2.2.2.2.2.2.2.2.2.2.2.1 (0 : Int) a0.2.1 a0.2.2.1 a0.2.2.2.1 a0.2.2.2.2.1 a0.2.2.2.2.2.1 a0.2.2.2.2.2.2.1 a0.2.2.2.2.2.2.2.1 a0.2.2.2.2.2.2.2.2.1 a0.2.2.2.2.2.2.2.2.2.1 a0.2.2.2.2.2.2.2.2.2.2.1 a0.2.2.2.2.2.2.2.2.2.2.2.1 a0.2.2.2.2.2.2.2.2.2.2.2.2.1 a0.2.2.2.2.2.2.2.2.2.2.2.2.2.1 (0 : Int))) (K (.p98 (1 : Int) a0.1 a0.2.1 a0.2.2.1 a0.2.2.2.1 a0.2.2.2.2.1 a0.2.2.2.2.2.1 a0.2.2.2.2.2.2.1 a0.2.2.2.2.2.2.2.1 a0.2.2.2.2.2.2.2.2.1 a0.2.2.2.2.2.2.2.2.2.1 a0.2.2.2.2.2.2.2.2.2.2.1 a0.2.2.2.2.2.2.2.2.2.2.2.1 a0.2.2.2.2.2.2.2.2.2.2.2.2.1 a0.2.2.2.2.2.2.2.2.2.2.2.2.2.1 a0.2.2.2.2.2.2.2.2.2.2.2.2.2.2.1 (0 : Int) a0.2.1 a0.2.2.1 a0.2.2.2.1 a0.2.2.2.2.1 a0.2.2.2.2.2.1 a0.2.2.2.2.2.2.1 a0.2.2.2.2.2.2.2.1 a0.2.2.2.2.2.2.2.2.1 a0.2.2.2.2.2.2.2.2.2.1 a0.2.2.2.2.2.2.2.2.2.2.1 a0.2.2.2.2.2.2.2.2.2.2.2.1 a0.2.2.2.2.2.2.2.2.2.2.2.2.1 a0.2.2.2.2.2.2.2.2.2.2.2.2.2.1 (0 : Int)))) (cond (decide (a0.1 = (9 : Int))) ((impl_isFunction n a0.2.2.2.1).bind fun r4 => cond r4 (cond (decide ((0 : Int) ≤ a0.2.2.2.2.2.2.2.2.2.2.2.2.2.2.1)) (K (.p110 (decide (a0.2.2.2.2.2.2.2.2.2.2.2.2.2.2.1 ≤ (10 : Int))) (0 : Int) a0.2.1 a0.2.2.1 a0.2.2.2.1 a0.2.2.2.2.1 a0.2.2.2.2.2.1 a0.2.2.2.2.2.2.1 a0.2.2.2.2.2.2.2.1 a0.2.2.2.2.2.2.2.2.1 a0.2.2.2.2.2.2.2.2.2.1 a0.2.2.2.2.2.2.2.2.2.2.1 a0.2.2.2.2.2.2.2.2.2.2.2.1 a0.2.2.2.2.2.2.2.2.2.2.2.2.1 a0.2.2.2.2.2.2.2.2.2.2.2.2.2.1 (0 : Int))) (K (.p110 false (0 : Int) a0.2.1 a0.2.2.1 a0.2.2.2.1 a0.2.2.2.2.1 a0.2.2.2.2.2.1 a0.2.2.2.2.2.2.1 a0.2.2.2.2.2.2.2.1 a0.2.2.2.2.2.2.2.2.1 a0.2.2.2.2.2.2.2.2.2.1 a0.2.2.2.2.2.2.2.2.2.2.1 a0.2.2.2.2.2.2.2.2.2.2.2.1 a0.2.2.2.2.2.2.2.2.2.2.2.2.1 a0.2.2.2.2.2.2.2.2.2.2.2.2.2.1 (0 : Int)))) (K (.p110 false (0 : Int) a0.2.1 a0.2.2.1 a0.2.2.2.1 a0.2.2.2.2.1 a0.2.2.2.2.2.1 a0.2.2.2.2.2.2.1 a0.2.2.2.2.2.2.2.1 a0.2.2.2.2.2.2.2.2.1 a0.2.2.2.2.2.2.2.2.2.1 a0.2.2.2.2.2.2.2.2.2.2.1 a0.2.2.2.2.2.2.2.2.2.2.2.1 a0.2.2.2.2.2.2.2.2.2.2.2.2.1 a0.2.2.2.2.2.2.2.2.2.2.2.2.2.1 (0 : Int)))) (some false)))))))))
  | .p18 y1 y2 y3 y4 y5 y6 y7 y8 y9 y10 y11 y12 y13 y14 y15 y16 => K (.p14 y1 y2 (0 : Int) y4 y5 y6 y7 y8 y9 y10 y11 y12 y13 y14 y15 y16)
  | .p24 y1 y2 y3 y4 y5 y6 y7 y8 y9 y10 y11 y12 y13 y14 y15 y16 => K (.p14 y1 y2 y3 y4 (⟨#[]⟩ : ByteArray) y6 y7 y8 y9 y10 y11 y12 y13 y14 y15 y16)
  | .p30 y1 y2 y3 y4 y5 y6 y7 y8 y9 y10 y11 y12 y13 y14 y15 y16 y17 y18 y19 y20 y21 y22 y23 y24 y25 y26 y27 y28 y29 y30 y31 => K (.p36 y1 y7 ((List.length y7) : Int) (0 : Int) y17 y18 y19 y20 y21 y22 y23 y24 y25 y26 y27 y28 y29 y30 y31)
  | .p55 y1 y2 y3 y4 y5 y6 y7 y8 y9 y10 y11 y12 y13 y14 y15 y16 => K (.p14 y1 y2 (0 : Int) y4 y5 y6 y7 y8 y9 y10 y11 y12 y13 y14 y15 y16)
  | .p61 y1 y2 y3 y4 y5 y6 y7 y8 y9 y10 y11 y12 y13 y14 y15 y16 => (impl_goodNode_1 n (y2, ((0 : Int), ((0 : Int), (y5, (y6, (y7, (y8, (y9, (y10, (y11, (y12, (y13, (y14, (y15, (y16, ())))))))))))))))).bind fun r19 => K (.p14 y1 r19.1 r19.2.1 r19.2.2.1 r19.2.2.2.1 r19.2.2.2.2.1 r19.2.2.2.2.2.1 r19.2.2.2.2.2.2.1 r19.2.2.2.2.2.2.2.1 r19.2.2.2.2.2.2.2.2.1 r19.2.2.2.2.2.2.2.2.2.1 r19.2.2.2.2.2.2.2.2.2.2.1 r19.2.2.2.2.2.2.2.2.2.2.2.1 r19.2.2.2.2.2.2.2.2.2.2.2.2.1 r19.2.2.2.2.2.2.2.2.2.2.2.2.2.1 r19.2.2.2.2.2.2.2.2.2.2.2.2.2.2.1)
  | .p14 y1 y2 y3 y4 y5 y6 y7 y8 y9 y10 y11 y12 y13 y14 y15 y16 => cond y1 (cond (decide (y3 = (0 : Int))) (cond (decide (y4 = (0 : Int))) (cond (seq y5 (⟨#[]⟩ : ByteArray)) (cond (decide (y6 = (0 : Int))) (cond (decide (((List.length y7) : Int) = (0 : Int))) (cond (decide (y8 = (0 : Int))) (cond (!y9) (cond (decide (y10 = (0 : Int))) (cond (!y11) (cond (decide (y12 = (0 : Int))) (cond (decide (((List.length y13) : Int) = (0 : Int))) (cond (decide (y14 = (0 : Int))) (some (decide (((List.length y15) : Int) = (0 : Int)))) (some false)) (some false)) (some false)) (some false)) (some false)) (some false)) (some false)) (some false)) (some false)) (some false)) (some false)) (some false)) (some false)
  | .p73 y1 y2 y3 y4 y5 y6 y7 y8 y9 y10 y11 y12 y13 y14 y15 y16 y17 y18 y19 y20 y21 y22 y23 y24 y25 y26 y27 y28 y29 y30 y31 => cond (decide (y14 = (0 : Int))) (cond y1 (K (.p78 (decide (((List.length y15) : Int) = (0 : Int))) y17 y18 y19 y20 y21 y22 y23 y24 y25 y26 y27 y28 y29 y30 y31)) (K (.p78 false y17 y18 y19 y20 y21 y22 y23 y24 y25 y26 y27 y28 y29 y30 y31))) (cond (decide (y14 = (1 : Int))) (K (.p83 y1 (decide (y14 = (1 : Int))) y2 y3 y4 y5 y6 y7 y8 y9 y10 y11 y12 y13 y14 y15 y16 y17 y18 y19 y20 y21 y22 y23 y24 y25 y26 y27 y28 y29 y30 y31)) (K (.p83 y1 (decide (y14 = (2 : Int))) y2 y3 y4 y5 y6 y7 y8 y9 y10 y11 y12 y13 y14 y15 y16 y17 y18 y19 y20 y21 y22 y23 y24 y25 y26 y27 y28 y29 y30 y31)))
  | .p98 y1 y2 y3 y4 y5 y6 y7 y8 y9 y10 y11 y12 y13 y14 y15 y16 y17 y18 y19 y20 y21 y22 y23 y24 y25 y26 y27 y28 y29 y30 y31 => cond (decide ((1 : Int) ≤ y6)) (cond (decide (y6 ≤ (8 : Int))) (cond (decide (y16 = y1)) ((impl_goodBy n (y2, (y3, (y4, (y5, (y6, (y7, (y8, (y9, (y10, (y11, (y12, (y13, (y14, (y15, (y16, ())))))))))))))))).bind fun r34 => K (.p104 r34 y17 y18 y19 y20 y21 y22 y23 y24 y25 y26 y27 y28 y29 y30 y31)) (K (.p104 false y17 y18 y19 y20 y21 y22 y23 y24 y25 y26 y27 y28 y29 y30 y31))) (K (.p104 false y17 y18 y19 y20 y21 y22 y23 y24 y25 y26 y27 y28 y29 y30 y31))) (K (.p104 false y17 y18 y19 y20 y21 y22 y23 y24 y25 y26 y27 y28 y29 y30 y31))
  | .p110 y1 y2 y3 y4 y5 y6 y7 y8 y9 y10 y11 y12 y13 y14 y15 y16 => K (.p14 y1 y2 y3 y4 (⟨#[]⟩ : ByteArray) y6 y7 y8 y9 y10 y11 y12 y13 y14 y15 y16)
  | .p36 y1 y2 y3 y4 y5 y6 y7 y8 y9 y10 y11 y12 y13 y14 y15 y16 y17 y18 y19 => cond (decide (y4 < y3)) (cond (inB y4 (List.length y2)) (cond y1 (K (.p36 (!(seq (List.getD y2 (Int.toNat y4) default).1 (⟨#[95, 110, 97, 109, 101]⟩ : ByteArray))) y2 y3 (IntKind.wrap .i64 (y4 + (1 : Int))) y5 y6 y7 y8 y9 y10 y11 y12 y13 y14 y15 y16 y17 y18 y19)) (K (.p36 false y2 y3 (IntKind.wrap .i64 (y4 + (1 : Int))) y5 y6 y7 y8 y9 y10 y11 y12 y13 y14 y15 y16 y17 y18 y19))) (none)) ((impl_goodNode_1 n (y5, (y6, (y7, ((⟨#[]⟩ : ByteArray), (y9, (([] : List (tU4)), (y11, (y12, (y13, (y14, (y15, (y16, (y17, (y18, (y19, ())))))))))))))))).bind fun r22 => K (.p14 y1 r22.1 r22.2.1 r22.2.2.1 r22.2.2.2.1 r22.2.2.2.2.1 r22.2.2.2.2.2.1 r22.2.2.2.2.2.2.1 r22.2.2.2.2.2.2.2.1 r22.2.2.2.2.2.2.2.2.1 r22.2.2.2.2.2.2.2.2.2.1 r22.2.2.2.2.2.2.2.2.2.2.1 r22.2.2.2.2.2.2.2.2.2.2.2.1 r22.2.2.2.2.2.2.2.2.2.2.2.2.1 r22.2.2.2.2.2.2.2.2.2.2.2.2.2.1 r22.2.2.2.2.2.2.2.2.2.2.2.2.2.2.1))
  | .p78 y1 y2 y3 y4 y5 y6 y7 y8 y9 y10 y11 y12 y13 y14 y15 y16 => K (.p14 y1 y2 y3 y4 y5 (0 : Int) y7 y8 y9 y10 false (0 : Int) ([] : List (ByteArray)) (0 : Int) ([] : List (ByteArray)) y16)
  | .p83 y1 y2 y3 y4 y5 y6 y7 y8 y9 y10 y11 y12 y13 y14 y15 y16 y17 y18 y19 y20 y21 y22 y23 y24 y25 y26 y27 y28 y29 y30 y31 y32 => cond y2 (cond y1 (cond (!(decide (y13 = (0 : Int)))) (cond (decide (y7 ≤ (11 : Int))) ((impl_goodNames n y16).bind fun r35 => K (.p78 r35 y18 y19 y20 y21 y22 y23 y24 y25 y26 y27 y28 y29 y30 y31 y32)) (K (.p78 false y18 y19 y20 y21 y22 y23 y24 y25 y26 y27 y28 y29 y30 y31 y32))) (K (.p78 false y18 y19 y20 y21 y22 y23 y24 y25 y26 y27 y28 y29 y30 y31 y32))) (K (.p78 false y18 y19 y20 y21 y22 y23 y24 y25 y26 y27 y28 y29 y30 y31 y32))) (K (.p78 false y18 y19 y20 y21 y22 y23 y24 y25 y26 y27 y28 y29 y30 y31 y32))
  | .p104 y1 y2 y3 y4 y5 y6 y7 y8 y9 y10 y11 y12 y13 y14 y15 y16 => K (.p14 y1 y2 y3 y4 y5 (0 : Int) y7 y8 y9 y10 y11 (0 : Int) ([] : List (ByteArray)) y14 y15 y16)
def impl_goodNode (n : Nat) (a0 : tU1) : Option (Tup [.bool]) := goRec impl_goodNode.step n (.p0 a0)
def impl_goodNode.spec : Ctr := ⟨35, [.v cU0], [.bool], [], none, fun n x => impl_goodNode n x.1⟩
theorem impl_goodNode.seg_eq : SegEq tyN gl impl_goodNode.F impl_goodNode.md impl_goodNode.T impl_goodNode.spec impl_goodNode.lb impl_goodNode.st impl_goodNode.step := by
  intro n goto y; cases y <;> kernel_rfl
theorem impl_goodNode.text : Text Go.Proofs.Try.prog impl_goodNode.F impl_goodNode.spec := textOf Go.Proofs.Try.f35
theorem impl_goodNode.ok : CtrOK Go.Proofs.Try.prog gl impl_goodNode.spec :=
  ctr_okS tabsN impl_goodNode.text impl_goodNode.seg_eq (fun n x => ⟨.p0 x.1, rfl, rfl, rfl⟩) (consC impl_printed.ok (consC impl_isName.ok (consC impl_isFunction.ok (consC impl_isWord.ok (consC impl_GoodMatchers.ok (consC impl_goodMoment.ok (consC impl_compares.ok (consC impl_goodNames.ok (consC impl_goodBy.ok (consC impl_goodNode_1.ok (nilC)))))))))))

/-! loop.example/g00039/impl.treeOf$1 -/
def impl_treeOf_1.T : List Ctr := [impl_goodNode.spec]
def impl_treeOf_1.md : List (Nat × List Md) := [(34, [.v, .p (.int .i64), .q (.sl false cU0), .me 34 1]), (1000034, [.p (.int .i64), .q (.sl false cU0), .me 34 1])]
noncomputable def impl_treeOf_1.F : Fun := ⟨(Go.Proofs.Try.f34.body).getD .skip, [.v (.int .i64), .p (.int .i64), .q (.sl false cU0), .me 34 1], [(.tmp 5, (.pt cU0))], [some (.int .i64)], 1, [(4, ⟨[0, 1, 2, 3, 23], [], [], false⟩), (19, ⟨[0, 3, 6, 36, 37], [], [(6, 5, (.bs cU3)), (6, 11, (.bs .str)), (6, 13, (.bs .str)), (6, 15, (.pt cU0))], false⟩), (31, ⟨[0, 3, 6, 7, 36, 37, 60], [], [(6, 5, (.bs cU3)), (6, 11, (.bs .str)), (6, 13, (.bs .str)), (6, 15, (.pt cU0))], false⟩)]⟩
inductive impl_treeOf_1.Pt where
  | p0 (a0 : Int) (a1 : Int) (a2 : List (tU1)) (a3 : Unit)
  | p4 (y1 : Int) (y2 : Bool) (y3 : Int) (y4 : List (tU1))
  | p19 (y1 : Int) (y2 : Int) (y3 : Int) (y4 : Int) (y5 : List (tU1)) (y6 : Int) (y7 : Int) (y8 : Int) (y9 : ByteArray) (y10 : Int) (y11 : List (tU4)) (y12 : Int) (y13 : Bool) (y14 : Int) (y15 : Bool) (y16 : Int) (y17 : List (ByteArray)) (y18 : Int) (y19 : List (ByteArray)) (y20 : Int) (y21 : List (Tr (tU1)))
  | p31 (y1 : Int) (y2 : Int) (y3 : Int) (y4 : Bool) (y5 : Int) (y6 : List (tU1)) (y7 : Int) (y8 : Int) (y9 : Int) (y10 : ByteArray) (y11 : Int) (y12 : List (tU4)) (y13 : Int) (y14 : Bool) (y15 : Int) (y16 : Bool) (y17 : Int) (y18 : List (ByteArray)) (y19 : Int) (y20 : List (ByteArray)) (y21 : Int) (y22 : Tr (tU1)) (y23 : List (Tr (tU1)))
def impl_treeOf_1.lb : impl_treeOf_1.Pt → Nat
  | .p0 _ _ _ _ => 0
  | .p4 _ _ _ _ => 4
  | .p19 _ _ _ _ _ _ _ _ _ _ _ _ _ _ _ _ _ _ _ _ _ => 19
  | .p31 _ _ _ _ _ _ _ _ _ _ _ _ _ _ _ _ _ _ _ _ _ _ _ => 31
def impl_treeOf_1.st : impl_treeOf_1.Pt → St
  | .p0 a0 a1 a2 a3 => enter [.v (.int .i64) a0, .p (.int .i64) a1, .q (.sl false cU0) a2, .me 34 1] 1
  | .p4 y1 y2 y3 y4 => ⟨[(0, .im (.int .i64) y1), (1, .po 0 0), (2, .po 1 0), (3, .px 34 [.po 0 0, .po 1 0] 3), (23, .im .bool y2)], [(0, .obj [.im (.int .i64) y3]), (1, .imm (.sl false cU0) y4)], 2⟩
  | .p19 y1 y2 y3 y4 y5 y6 y7 y8 y9 y10 y11 y12 y13 y14 y15 y16 y17 y18 y19 y20 y21 => ⟨[(0, .im (.int .i64) y1), (3, .px 34 [.po 0 0, .po 1 0] 3), (6, .po 2 0), (36, .im (.int .i64) y2), (37, .im (.int .i64) y3)], [(0, .obj [.im (.int .i64) y4]), (1, .imm (.sl false cU0) y5), (2, .obj [.im (.int .i64) y6, .im (.int .i64) y7, .im (.int .i64) y8, .im .str y9, .im (.int .i64) y10, .im (.bs cU3) y11, .im (.int .i64) y12, .im .bool y13, .im (.int .i64) y14, .im .bool y15, .im (.int .i64) y16, .im (.bs .str) y17, .im (.int .i64) y18, .im (.bs .str) y19, .im (.int .i64) y20, .hs 3 [] none 0]), (3, .arr true (.pt cU0) y21 0)], 4⟩
  | .p31 y1 y2 y3 y4 y5 y6 y7 y8 y9 y10 y11 y12 y13 y14 y15 y16 y17 y18 y19 y20 y21 y22 y23 => ⟨[(0, .im (.int .i64) y1), (3, .px 34 [.po 0 0, .po 1 0] 3), (6, .po 2 0), (7, .tp 3), (36, .im (.int .i64) y2), (37, .im (.int .i64) y3), (60, .im .bool y4)], [(0, .obj [.im (.int .i64) y5]), (1, .imm (.sl false cU0) y6), (2, .obj [.im (.int .i64) y7, .im (.int .i64) y8, .im (.int .i64) y9, .im .str y10, .im (.int .i64) y11, .im (.bs cU3) y12, .im (.int .i64) y13, .im .bool y14, .im (.int .i64) y15, .im .bool y16, .im (.int .i64) y17, .im (.bs .str) y18, .im (.int .i64) y19, .im (.bs .str) y20, .im (.int .i64) y21, .hs 4 [] none 0]), (3, .tre cU0 y22), (4, .arr true (.pt cU0) y23 0)], 5⟩
def impl_treeOf_1.step (n : Nat) (self : Ty.Els [.v (.int .i64), .p (.int .i64), .q (.sl false cU0), .me 34 1] → Option (Tup [(.pt cU0), (.int .i64)])) (K : impl_treeOf_1.Pt → Option (Tup [(.pt cU0), (.int .i64)])) : impl_treeOf_1.Pt → Option (Tup [(.pt cU0), (.int .i64)])
  | .p0 a0 a1 a2 a3 => cond (decide (a1 = ((List.length a2) : Int))) (K (.p4 a0 true a1 a2)) (cond (decide ((12 : Int) < a0)) (K (.p4 a0 true a1 a2)) (cond (inB a1 (List.length a2)) ((impl_goodNode n ((List.getD a2 (Int.toNat a1) default).1, ((List.getD a2 (Int.toNat a1) default).2.1, ((List.getD a2 (Int.toNat a1) default).2.2.1, ((List.getD a2 (Int.toNat a1) default).2.2.2.1, ((List.getD a2 (Int.toNat a1) default).2.2.2.2.1, ((List.getD a2 (Int.toNat a1) default).2.2.2.2.2.1, ((List.getD a2 (Int.toNat a1) default).2.2.2.2.2.2.1, ((List.getD a2 (Int.toNat a1) default).2.2.2.2.2.2.2.1, ((List.getD a2 (Int.toNat a1) default).2.2.2.2.2.2.2.2.1, ((List.getD a2 (Int.toNat a1) default).2.2.2.2.2.2.2.2.2.1, ((List.getD a2 (Int.toNat a1) default).2.2.2.2.2.2.2.2.2.2.1, ((List.getD a2 (Int.toNat a1) default).2.2.2.2.2.2.2.2.2.2.2.1, ((List.getD a2 (Int.toNat a1) default).2.2.2.2.2.2.2.2.2.2.2.2.1, ((List.getD a2 (Int.toNat a1) default).2.2.2.2.2.2.2.2.2.2.2.2.2.1, (List.getD a2 (Int.toNat a1) default).2.2.2.2.2.2.2.2.2.2.2.2.2.2))))))))))))))).bind fun r7 => K (.p4 a0 (!r7) a1 a2)) (none)))
  | .p4 y1 y2 y3 y4 => cond y2 (some (Tr.nil, y3)) (cond (inB y3 (List.length y4)) (K (.p19 y1 (List.getD y4 (Int.toNat y3) default).2.2.2.2.2.2.2.2.2.2.2.2.2.2.1 (0 : Int) (IntKind.wrap .i64 (y3 + (1 : Int))) y4 (List.getD y4 (Int.toNat y3) default).1 (List.getD y4 (Int.toNat y3) default).2.1 (List.getD y4 (Int.toNat y3) default).2.2.1 (List.getD y4 (Int.toNat y3) default).2.2.2.1 (List.getD y4 (Int.toNat y3) default).2.2.2.2.1 (List.getD y4 (Int.toNat y3) default).2.2.2.2.2.1 (List.getD y4 (Int.toNat y3) default).2.2.2.2.2.2.1 (List.getD y4 (Int.toNat y3) default).2.2.2.2.2.2.2.1 (List.getD y4 (Int.toNat y3) default).2.2.2.2.2.2.2.2.1 (List.getD y4 (Int.toNat y3) default).2.2.2.2.2.2.2.2.2.1 (List.getD y4 (Int.toNat y3) default).2.2.2.2.2.2.2.2.2.2.1 (List.getD y4 (Int.toNat y3) default).2.2.2.2.2.2.2.2.2.2.2.1 (List.getD y4 (Int.toNat y3) default).2.2.2.2.2.2.2.2.2.2.2.2.1 (List.getD y4 (Int.toNat y3) default).2.2.2.2.2.2.2.2.2.2.2.2.2.1 (List.getD y4 (Int.toNat y3) default).2.2.2.2.2.2.2.2.2.2.2.2.2.2.1 ([] : List (Tr (tU1))))) (none))
  | .p19 y1 y2 y3 y4 y5 y6 y7 y8 y9 y10 y11 y12 y13 y14 y15 y16 y17 y18 y19 y20 y21 => cond (decide (y3 < y2)) ((self ((IntKind.wrap .i64 (y1 + (1 : Int))), y4, (List.getD [y5] 0 default), (), ())).bind fun r24 => cond (!(Tr.is r24.1)) (K (.p31 y1 y2 y3 true r24.2 y5 y6 y7 y8 y9 y10 y11 y12 y13 y14 y15 y16 y17 y18 y19 y20 r24.1 y21)) (cond (decide (y6 = (4 : Int))) (cond (Tr.is r24.1) (K (.p31 y1 y2 y3 (!(decide ((Tr.val default r24.1).1 = (3 : Int)))) r24.2 y5 y6 y7 y8 y9 y10 y11 y12 y13 y14 y15 y16 y17 y18 y19 y20 r24.1 y21)) (none)) (K (.p31 y1 y2 y3 false r24.2 y5 y6 y7 y8 y9 y10 y11 y12 y13 y14 y15 y16 y17 y18 y19 y20 r24.1 y21)))) (some ((Tr.node (y6, (y7, (y8, (y9, (y10, (y11, (y12, (y13, (y14, (y15, (y16, (y17, (y18, (y19, (y20, ()))))))))))))))) y21), y4))
  | .p31 y1 y2 y3 y4 y5 y6 y7 y8 y9 y10 y11 y12 y13 y14 y15 y16 y17 y18 y19 y20 y21 y22 y23 => cond y4 (some (Tr.nil, y5)) (cond (room ((List.length y23) + (List.length [y22]))) (K (.p19 y1 y2 (IntKind.wrap .i64 (y3 + (1 : Int))) y5 y6 y7 y8 y9 y10 y11 y12 y13 y14 y15 y16 y17 y18 y19 y20 y21 (y23 ++ [y22]))) (none))
def impl_treeOf_1 (n : Nat) (a0 : Int) (a1 : Int) (a2 : List (tU1)) (a3 : Unit) : Option (Tup [(.pt cU0), (.int .i64)]) := goRec (fun n K => impl_treeOf_1.step n (fun x => K (.p0 x.1 x.2.1 x.2.2.1 x.2.2.2.1)) K) n (.p0 a0 a1 a2 a3)
def impl_treeOf_1.spec : Ctr := ⟨34, [.v (.int .i64), .p (.int .i64), .q (.sl false cU0), .me 34 1], [(.pt cU0)], [(.int .i64)], none, fun n x => impl_treeOf_1 n x.1 x.2.1 x.2.2.1 x.2.2.2.1⟩
theorem impl_treeOf_1.seg_eq (n : Nat) (φ : Ty.Els [.v (.int .i64), .p (.int .i64), .q (.sl false cU0), .me 34 1] → Option (Tup [(.pt cU0), (.int .i64)])) (goto : Nat → St → Option (Tup [(.pt cU0), (.int .i64)])) (y : impl_treeOf_1.Pt) : seg ⟨tyN, gl, impl_treeOf_1.md, calOf (impl_treeOf_1.spec.at φ :: impl_treeOf_1.T) n⟩ impl_treeOf_1.F.np impl_treeOf_1.F.ks goto (impl_treeOf_1.F.fin ⟨tyN, gl, impl_treeOf_1.md, calOf impl_treeOf_1.T 0⟩ [(.pt cU0), (.int .i64)] none) impl_treeOf_1.F.c (impl_treeOf_1.lb y) (impl_treeOf_1.st y) = impl_treeOf_1.step n φ (fun z => goto (impl_treeOf_1.lb z) (impl_treeOf_1.st z)) y := by
  cases y <;> kernel_rfl
theorem impl_treeOf_1.text : Text Go.Proofs.Try.prog impl_treeOf_1.F impl_treeOf_1.spec := textOf Go.Proofs.Try.f34
theorem impl_treeOf_1.ok : CtrOK Go.Proofs.Try.prog gl impl_treeOf_1.spec :=
  ctr_rec (T := impl_treeOf_1.T) (F := impl_treeOf_1.F) (lb := impl_treeOf_1.lb) (st := impl_treeOf_1.st) (ent := fun x => .p0 x.1 x.2.1 x.2.2.1 x.2.2.2.1) (stp := impl_treeOf_1.step) (md := impl_treeOf_1.md) tabsN impl_treeOf_1.text impl_treeOf_1.seg_eq (fun _ => ⟨rfl, rfl⟩) (fun _ _ => rfl) (consC impl_goodNode.ok (nilC))

/-! loop.example/g00039/impl.treeOf -/
def impl_treeOf.T : List Ctr := [impl_treeOf_1.spec]
def impl_treeOf.md : List (Nat × List Md) := [(34, [.v, .p (.int .i64), .q (.sl false cU0), .me 34 1]), (1000034, [.p (.int .i64), .q (.sl false cU0), .me 34 1])]
noncomputable def impl_treeOf.F : Fun := ⟨(Go.Proofs.Try.f18.body).getD .skip, [.v (.sl false cU0)], [(.tmp 2, (.pt cU0))], [], 0, [(4, ⟨[1, 13], [], [(1, 0, cU0)], false⟩)]⟩
inductive impl_treeOf.Pt where
  | p0 (a0 : List (tU1))
  | p4 (y1 : Bool) (y2 : List (tU1))
def impl_treeOf.lb : impl_treeOf.Pt → Nat
  | .p0 _ => 0
  | .p4 _ _ => 4
def impl_treeOf.st : impl_treeOf.Pt → St
  | .p0 a0 => enter [.v (.sl false cU0) a0] 0
  | .p4 y1 y2 => ⟨[(1, .po 0 0), (13, .im .bool y1)], [(0, .obj [.im (.sl false cU0) y2])], 1⟩
def impl_treeOf.step (n : Nat) (K : impl_treeOf.Pt → Option (Tup [(.pt cU0)])) : impl_treeOf.Pt → Option (Tup [(.pt cU0)])
  | .p0 a0 => cond (decide (((List.length a0) : Int) = (0 : Int))) (K (.p4 true a0)) (K (.p4 (decide ((60 : Int) < ((List.length a0) : Int))) a0))
  | .p4 y1 y2 => cond y1 (some Tr.nil) ((impl_treeOf_1 n (1 : Int) (0 : Int) y2 ()).bind fun r5 => cond (!(decide (r5.2 = ((List.length y2) : Int)))) (some Tr.nil) (some r5.1))
def impl_treeOf (n : Nat) (a0 : List (tU1)) : Option (Tup [(.pt cU0)]) := goRec impl_treeOf.step n (.p0 a0)
def impl_treeOf.spec : Ctr := ⟨18, [.v (.sl false cU0)], [(.pt cU0)], [], none, fun n x => impl_treeOf n x.1⟩
theorem impl_treeOf.seg_eq : SegEq tyN gl impl_treeOf.F impl_treeOf.md impl_treeOf.T impl_treeOf.spec impl_treeOf.lb impl_treeOf.st impl_treeOf.step := by
  intro n goto y; cases y <;> kernel_rfl
theorem impl_treeOf.text : Text Go.Proofs.Try.prog impl_treeOf.F impl_treeOf.spec := textOf Go.Proofs.Try.f18
theorem impl_treeOf.ok : CtrOK Go.Proofs.Try.prog gl impl_treeOf.spec :=
  ctr_okS tabsN impl_treeOf.text impl_treeOf.seg_eq (fun n x => ⟨.p0 x.1, rfl, rfl, rfl⟩) (consC impl_treeOf_1.ok (nilC))

/-! loop.example/g00039/impl.momentOf -/
def impl_momentOf.T : List Ctr := []
def impl_momentOf.md : List (Nat × List Md) := []
noncomputable def impl_momentOf.F : Fun := ⟨(Go.Proofs.Try.f21.body).getD .skip, [.v cU0, .v (.int .i64)], [(.tmp 4, (.int .i64))], [], 0, []⟩
inductive impl_momentOf.Pt where
  | p0 (a0 : tU1) (a1 : Int)
def impl_momentOf.lb : impl_momentOf.Pt → Nat
  | .p0 _ _ => 0
def impl_momentOf.st : impl_momentOf.Pt → St
  | .p0 a0 a1 => enter [.v cU0 a0, .v (.int .i64) a1] 0
def impl_momentOf.step (n : Nat) (K : impl_momentOf.Pt → Option (Tup [(.int .i64)])) : impl_momentOf.Pt → Option (Tup [(.int .i64)])
  | .p0 a0 a1 => cond a0.2.2.2.2.2.2.2.1 (some (IntKind.wrap .i64 (a0.2.2.2.2.2.2.2.2.1 - a0.2.2.2.2.2.2.1))) (some (IntKind.wrap .i64 (a1 - a0.2.2.2.2.2.2.1)))
def impl_momentOf (n : Nat) (a0 : tU1) (a1 : Int) : Option (Tup [(.int .i64)]) := goRec impl_momentOf.step n (.p0 a0 a1)
def impl_momentOf.spec : Ctr := ⟨21, [.v cU0, .v (.int .i64)], [(.int .i64)], [], none, fun n x => impl_momentOf n x.1 x.2.1⟩
theorem impl_momentOf.seg_eq : SegEq tyN gl impl_momentOf.F impl_momentOf.md impl_momentOf.T impl_momentOf.spec impl_momentOf.lb impl_momentOf.st impl_momentOf.step := by
  intro n goto y; cases y <;> kernel_rfl
theorem impl_momentOf.text : Text Go.Proofs.Try.prog impl_momentOf.F impl_momentOf.spec := textOf Go.Proofs.Try.f21
theorem impl_momentOf.ok : CtrOK Go.Proofs.Try.prog gl impl_momentOf.spec :=
  ctr_okS tabsN impl_momentOf.text impl_momentOf.seg_eq (fun n x => ⟨.p0 x.1 x.2.1, rfl, rfl, rfl⟩) (nilC)

end Go.NE
