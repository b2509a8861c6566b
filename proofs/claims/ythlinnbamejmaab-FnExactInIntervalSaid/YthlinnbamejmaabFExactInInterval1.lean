/- The functions that the law reaches, each as a Lean function and with its contract, part 1. -/
import Derived.Test.YthlinnbamejmaabV1
import Derived.Test.YthlinnbamejmaabV2
import Derived.Test.YthlinnbamejmaabProg
open Go Go.VM
namespace Go.II
set_option maxRecDepth 100000
set_option linter.unusedVariables false
set_option linter.unusedSimpArgs false
def ty : List (Nat × U) := [(0, .oth), (1, .oth), (2, (.int .i64)), (3, (.int .i64)), (4, .bool), (5, (.int .u8)), (6, (.int .u8)), (7, (.pair (.int .i64) (.pair (.int .i64) (.pair .bool (.pair (.int .u8) .unit))))), (8, (.pair (.int .i64) (.pair (.int .i64) (.pair .bool (.pair (.int .u8) .unit))))), (9, .str), (10, .str), (11, .str), (12, (.int .u64)), (13, (.pair .str (.pair (.int .u64) .unit))), (14, (.pair .str (.pair (.int .u64) .unit))), (15, .oth), (16, .oth), (17, .oth), (18, (.pair .oth .unit)), (19, (.pair .oth .unit)), (20, .oth), (21, (.int .i32)), (22, (.sl false (.pair .str (.pair (.sl false (.pair .str (.pair (.int .i64) (.pair .str .unit)))) (.pair (.int .i64) (.pair (.int .i64) .unit)))))), (23, .oth), (24, .oth), (25, (.sl false (.pair .str (.pair (.sl false (.pair .str (.pair (.int .i64) (.pair .str .unit)))) (.pair (.int .i64) (.pair (.int .i64) .unit)))))), (26, .oth), (27, .oth), (28, .oth), (29, (.sl false (.int .u8))), (30, (.sl false (.pair (.int .i64) (.pair (.int .i64) .unit)))), (31, (.sl false (.int .i64))), (32, (.pair (.int .i64) (.pair (.sl false (.pair (.int .i64) (.pair (.int .i64) .unit))) (.pair (.sl false (.pair (.int .i64) (.pair (.int .i64) .unit))) (.pair (.sl false (.pair (.int .i64) (.pair (.int .i64) .unit))) (.pair (.sl false (.pair (.int .i64) (.pair (.int .i64) .unit))) (.pair (.sl false (.pair (.int .i64) (.pair (.int .i64) .unit))) (.pair (.sl false (.int .i64)) .unit)))))))), (33, (.pair (.int .i64) (.pair (.sl false (.pair (.int .i64) (.pair (.int .i64) .unit))) (.pair (.sl false (.pair (.int .i64) (.pair (.int .i64) .unit))) (.pair (.sl false (.pair (.int .i64) (.pair (.int .i64) .unit))) (.pair (.sl false (.pair (.int .i64) (.pair (.int .i64) .unit))) (.pair (.sl false (.pair (.int .i64) (.pair (.int .i64) .unit))) (.pair (.sl false (.int .i64)) .unit)))))))), (34, .oth), (35, .oth), (36, .oth), (37, .oth), (38, (.pair (.int .i64) (.pair (.int .i64) (.pair (.int .i64) (.pair (.int .i64) (.pair (.int .i64) (.pair (.int .i64) .unit))))))), (39, (.pair (.int .i64) (.pair (.int .i64) (.pair (.int .i64) (.pair (.int .i64) (.pair (.int .i64) (.pair (.int .i64) .unit))))))), (40, .oth), (41, .oth), (42, .oth), (43, (.sl false (.pair (.int .i64) (.pair (.int .i64) .unit)))), (44, (.pair (.int .i64) (.pair (.sl false (.pair (.int .i64) (.pair (.int .i64) .unit))) (.pair (.sl false (.pair (.int .i64) (.pair (.int .i64) .unit))) (.pair (.sl false (.pair (.int .i64) (.pair (.int .i64) .unit))) (.pair (.sl false (.pair (.int .i64) (.pair (.int .i64) .unit))) (.pair (.sl false (.pair (.int .i64) (.pair (.int .i64) .unit))) (.pair (.sl false (.int .i64)) .unit)))))))), (45, (.pair (.int .i64) (.pair (.sl false (.pair (.int .i64) (.pair (.int .i64) .unit))) (.pair (.sl false (.pair (.int .i64) (.pair (.int .i64) .unit))) (.pair (.sl false (.pair (.int .i64) (.pair (.int .i64) .unit))) (.pair (.sl false (.pair (.int .i64) (.pair (.int .i64) .unit))) (.pair (.sl false (.pair (.int .i64) (.pair (.int .i64) .unit))) (.pair (.sl false (.int .i64)) .unit)))))))), (46, .oth), (47, .oth), (48, .oth), (49, .oth), (50, (.sl false (.pair (.sl false (.pair .str (.pair (.int .i64) (.pair .str .unit)))) (.pair (.sl false (.pair .str (.pair (.int .i64) (.pair .str .unit)))) (.pair (.sl false .str) .unit))))), (51, .oth), (52, .oth), (53, (.sl false (.pair (.sl false (.pair .str (.pair (.int .i64) (.pair .str .unit)))) (.pair (.sl false (.pair .str (.pair (.int .i64) (.pair .str .unit)))) (.pair (.sl false .str) .unit))))), (54, .oth), (55, .oth), (56, .oth), (57, .oth), (58, (.sl false (.pair .str (.pair (.int .i64) (.pair .str .unit))))), (59, (.pair .str (.pair (.sl false (.pair .str (.pair (.int .i64) (.pair .str .unit)))) (.pair (.int .i64) (.pair (.int .i64) .unit))))), (60, (.pair .str (.pair (.sl false (.pair .str (.pair (.int .i64) (.pair .str .unit)))) (.pair (.int .i64) (.pair (.int .i64) .unit))))), (61, (.sl false (.pair .str (.pair (.int .i64) (.pair .str .unit))))), (62, (.pair .str (.pair (.sl false (.pair .str (.pair (.int .i64) (.pair .str .unit)))) (.pair (.int .i64) (.pair (.int .i64) .unit))))), (63, (.pair .str (.pair (.sl false (.pair .str (.pair (.int .i64) (.pair .str .unit)))) (.pair (.int .i64) (.pair (.int .i64) .unit))))), (64, .oth), (65, .oth), (66, .oth), (67, .oth), (68, .oth), (69, .oth), (70, .oth), (71, (.int .u64)), (72, (.pair (.sl false (.int .u8)) (.pair (.int .i64) (.pair (.int .u64) .unit)))), (73, (.pair (.sl false (.int .u8)) (.pair (.int .i64) (.pair (.int .u64) .unit)))), (74, .oth), (75, .oth), (76, .oth), (77, .oth), (78, .oth), (79, .oth), (80, (.pair (.int .i64) (.pair (.int .i64) .unit))), (81, (.pair (.int .i64) (.pair (.int .i64) .unit))), (82, .oth), (83, .oth), (84, .oth), (85, .oth), (86, .oth), (87, .oth), (88, .oth), (89, .oth), (90, .oth), (91, .oth), (92, .oth), (93, (.sl false .str)), (94, (.pair (.sl false (.pair .str (.pair (.int .i64) (.pair .str .unit)))) (.pair (.sl false (.pair .str (.pair (.int .i64) (.pair .str .unit)))) (.pair (.sl false .str) .unit)))), (95, (.pair (.sl false (.pair .str (.pair (.int .i64) (.pair .str .unit)))) (.pair (.sl false (.pair .str (.pair (.int .i64) (.pair .str .unit)))) (.pair (.sl false .str) .unit)))), (96, (.pair (.sl false (.pair .str (.pair (.int .i64) (.pair .str .unit)))) (.pair (.sl false (.pair .str (.pair (.int .i64) (.pair .str .unit)))) (.pair (.sl false .str) .unit)))), (97, (.pair (.sl false (.pair .str (.pair (.int .i64) (.pair .str .unit)))) (.pair (.sl false (.pair .str (.pair (.int .i64) (.pair .str .unit)))) (.pair (.sl false .str) .unit)))), (98, .oth), (99, .oth), (100, .oth), (101, .oth), (102, .oth), (103, .oth), (104, .oth), (105, (.pair .str (.pair (.int .i64) (.pair .str .unit)))), (106, (.pair .str (.pair (.int .i64) (.pair .str .unit)))), (107, .oth), (108, .oth), (109, .oth), (110, .oth), (111, .oth), (112, .oth), (113, (.pair (.int .i64) (.pair (.int .i64) .unit))), (114, .oth), (115, .oth), (116, .oth), (117, .oth), (118, .oth), (119, .oth), (120, .oth), (121, (.pair .str (.pair (.int .i64) (.pair .str .unit)))), (122, (.sl false (.sl false (.int .i64)))), (123, .oth), (124, .oth), (125, .oth), (126, .oth), (127, .oth), (128, .oth), (129, .oth), (130, .oth), (131, (.ar 13 (.int .i64))), (132, .oth), (133, (.sl false (.sl false (.pair (.int .u8) (.pair .bool (.pair .bool .unit)))))), (134, .oth), (135, .oth), (136, (.int .u64)), (137, .oth), (138, (.pair (.int .u8) (.pair .bool (.pair .bool .unit)))), (139, (.pair (.int .u8) (.pair .bool (.pair .bool .unit)))), (140, (.sl false (.pair (.int .u8) (.pair .bool (.pair .bool .unit))))), (141, .oth), (142, .oth), (143, .oth), (144, (.pair .oth (.pair .oth (.pair .oth (.pair .str .unit))))), (145, (.pair .oth (.pair .oth (.pair .oth (.pair .str .unit))))), (146, (.ar 0 .oth)), (149, (.int .u32)), (150, (.int .u8)), (151, (.int .u8)), (152, .oth), (153, .oth), (154, (.int .i32)), (155, (.int .i32)), (156, (.pair (.int .u64) (.pair (.int .u64) (.pair (.int .u32) (.pair (.int .u8) (.pair (.int .u8) (.pair (.int .u8) (.pair (.int .u8) (.pair .oth (.pair .oth (.pair (.int .i32) (.pair (.int .i32) .unit)))))))))))), (157, (.pair (.int .u64) (.pair (.int .u64) (.pair (.int .u32) (.pair (.int .u8) (.pair (.int .u8) (.pair (.int .u8) (.pair (.int .u8) (.pair .oth (.pair .oth (.pair (.int .i32) (.pair (.int .i32) .unit)))))))))))), (158, .oth)]
def gl : List (Nat × TV) := []
theorem tabs : Tabs Go.Proofs.Try.prog ty gl := tabs_of (by kernel_rfl) (by kernel_rfl)
/-! loop.example/g00039/laws.szRangeS -/
def laws_szRangeS.T : List Ctr := []
def laws_szRangeS.md : List (Nat × List Md) := []
noncomputable def laws_szRangeS.F : Fun := ⟨(Go.Proofs.Try.f51.body).getD .skip, [.v (.sl false (.pair (.int .i64) (.pair (.int .i64) .unit))), .v (.int .i64)], [(.tmp 4, (.int .i64))], [], 0, []⟩
inductive laws_szRangeS.Pt where
  | p0 (a0 : List ((Int) × ((Int) × (Unit)))) (a1 : Int)
def laws_szRangeS.lb : laws_szRangeS.Pt → Nat
  | .p0 _ _ => 0
def laws_szRangeS.st : laws_szRangeS.Pt → St
  | .p0 a0 a1 => enter [.v (.sl false (.pair (.int .i64) (.pair (.int .i64) .unit))) a0, .v (.int .i64) a1] 0
def laws_szRangeS.step (n : Nat) (K : laws_szRangeS.Pt → Option (Tup [(.int .i64)])) : laws_szRangeS.Pt → Option (Tup [(.int .i64)])
  | .p0 a0 a1 => cond (decide ((IntKind.wrap .i64 (a1 - ((List.length a0) : Int))) < (0 : Int))) (some (-(1 : Int))) (some (IntKind.wrap .i64 (a1 - ((List.length a0) : Int))))
def laws_szRangeS (n : Nat) (a0 : List ((Int) × ((Int) × (Unit)))) (a1 : Int) : Option (Tup [(.int .i64)]) := goRec laws_szRangeS.step n (.p0 a0 a1)
def laws_szRangeS.spec : Ctr := ⟨51, [.v (.sl false (.pair (.int .i64) (.pair (.int .i64) .unit))), .v (.int .i64)], [(.int .i64)], [], fun n x => laws_szRangeS n x.1 x.2.1⟩
theorem laws_szRangeS.seg_eq (n : Nat) (goto : Nat → St → Option (Tup [(.int .i64)])) (y : laws_szRangeS.Pt) : seg ⟨ty, gl, laws_szRangeS.md, calOf laws_szRangeS.T n⟩ laws_szRangeS.F.np laws_szRangeS.F.ks goto (laws_szRangeS.F.fin ⟨ty, gl, laws_szRangeS.md, calOf laws_szRangeS.T 0⟩ [(.int .i64)]) laws_szRangeS.F.c (laws_szRangeS.lb y) (laws_szRangeS.st y) = laws_szRangeS.step n (fun z => goto (laws_szRangeS.lb z) (laws_szRangeS.st z)) y := by
  cases y <;> kernel_rfl
theorem laws_szRangeS.text : Text Go.Proofs.Try.prog laws_szRangeS.F laws_szRangeS.spec := ⟨⟨Go.Proofs.Try.f51, by kernel_rfl, by kernel_rfl, by decide +kernel, by kernel_rfl, by kernel_rfl, of_decide_eq_true (by kernel_rfl)⟩, fun _ => rfl, fun _ => rfl, rfl⟩
theorem laws_szRangeS.ok : CtrOK Go.Proofs.Try.prog gl laws_szRangeS.spec :=
  ctr_ok (T := laws_szRangeS.T) (F := laws_szRangeS.F) (lb := laws_szRangeS.lb) (st := laws_szRangeS.st) (step := laws_szRangeS.step) (md := laws_szRangeS.md) tabs laws_szRangeS.text laws_szRangeS.seg_eq (fun n x => ⟨.p0 x.1 x.2.1, rfl, rfl, rfl⟩) (nilC)

/-! loop.example/g00039/laws.szIntS -/
def laws_szIntS.T : List Ctr := []
def laws_szIntS.md : List (Nat × List Md) := []
noncomputable def laws_szIntS.F : Fun := ⟨(Go.Proofs.Try.f52.body).getD .skip, [.v (.sl false (.int .i64)), .v (.int .i64)], [(.tmp 4, (.int .i64))], [], 0, []⟩
inductive laws_szIntS.Pt where
  | p0 (a0 : List (Int)) (a1 : Int)
def laws_szIntS.lb : laws_szIntS.Pt → Nat
  | .p0 _ _ => 0
def laws_szIntS.st : laws_szIntS.Pt → St
  | .p0 a0 a1 => enter [.v (.sl false (.int .i64)) a0, .v (.int .i64) a1] 0
def laws_szIntS.step (n : Nat) (K : laws_szIntS.Pt → Option (Tup [(.int .i64)])) : laws_szIntS.Pt → Option (Tup [(.int .i64)])
  | .p0 a0 a1 => cond (decide ((IntKind.wrap .i64 (a1 - ((List.length a0) : Int))) < (0 : Int))) (some (-(1 : Int))) (some (IntKind.wrap .i64 (a1 - ((List.length a0) : Int))))
def laws_szIntS (n : Nat) (a0 : List (Int)) (a1 : Int) : Option (Tup [(.int .i64)]) := goRec laws_szIntS.step n (.p0 a0 a1)
def laws_szIntS.spec : Ctr := ⟨52, [.v (.sl false (.int .i64)), .v (.int .i64)], [(.int .i64)], [], fun n x => laws_szIntS n x.1 x.2.1⟩
theorem laws_szIntS.seg_eq (n : Nat) (goto : Nat → St → Option (Tup [(.int .i64)])) (y : laws_szIntS.Pt) : seg ⟨ty, gl, laws_szIntS.md, calOf laws_szIntS.T n⟩ laws_szIntS.F.np laws_szIntS.F.ks goto (laws_szIntS.F.fin ⟨ty, gl, laws_szIntS.md, calOf laws_szIntS.T 0⟩ [(.int .i64)]) laws_szIntS.F.c (laws_szIntS.lb y) (laws_szIntS.st y) = laws_szIntS.step n (fun z => goto (laws_szIntS.lb z) (laws_szIntS.st z)) y := by
  cases y <;> kernel_rfl
theorem laws_szIntS.text : Text Go.Proofs.Try.prog laws_szIntS.F laws_szIntS.spec := ⟨⟨Go.Proofs.Try.f52, by kernel_rfl, by kernel_rfl, by decide +kernel, by kernel_rfl, by kernel_rfl, of_decide_eq_true (by kernel_rfl)⟩, fun _ => rfl, fun _ => rfl, rfl⟩
theorem laws_szIntS.ok : CtrOK Go.Proofs.Try.prog gl laws_szIntS.spec :=
  ctr_ok (T := laws_szIntS.T) (F := laws_szIntS.F) (lb := laws_szIntS.lb) (st := laws_szIntS.st) (step := laws_szIntS.step) (md := laws_szIntS.md) tabs laws_szIntS.text laws_szIntS.seg_eq (fun n x => ⟨.p0 x.1 x.2.1, rfl, rfl, rfl⟩) (nilC)

/-! loop.example/g00039/laws.szInterval -/
def laws_szInterval.T : List Ctr := [laws_szRangeS.spec, laws_szIntS.spec]
def laws_szInterval.md : List (Nat × List Md) := []
noncomputable def laws_szInterval.F : Fun := ⟨(Go.Proofs.Try.f18.body).getD .skip, [.v (.pair (.int .i64) (.pair (.sl false (.pair (.int .i64) (.pair (.int .i64) .unit))) (.pair (.sl false (.pair (.int .i64) (.pair (.int .i64) .unit))) (.pair (.sl false (.pair (.int .i64) (.pair (.int .i64) .unit))) (.pair (.sl false (.pair (.int .i64) (.pair (.int .i64) .unit))) (.pair (.sl false (.pair (.int .i64) (.pair (.int .i64) .unit))) (.pair (.sl false (.int .i64)) .unit))))))), .v (.int .i64)], [(.tmp 4, (.int .i64))], [], 0, []⟩
inductive laws_szInterval.Pt where
  | p0 (a0 : (Int) × ((List ((Int) × ((Int) × (Unit)))) × ((List ((Int) × ((Int) × (Unit)))) × ((List ((Int) × ((Int) × (Unit)))) × ((List ((Int) × ((Int) × (Unit)))) × ((List ((Int) × ((Int) × (Unit)))) × ((List (Int)) × (Unit)))))))) (a1 : Int)
def laws_szInterval.lb : laws_szInterval.Pt → Nat
  | .p0 _ _ => 0
def laws_szInterval.st : laws_szInterval.Pt → St
  | .p0 a0 a1 => enter [.v (.pair (.int .i64) (.pair (.sl false (.pair (.int .i64) (.pair (.int .i64) .unit))) (.pair (.sl false (.pair (.int .i64) (.pair (.int .i64) .unit))) (.pair (.sl false (.pair (.int .i64) (.pair (.int .i64) .unit))) (.pair (.sl false (.pair (.int .i64) (.pair (.int .i64) .unit))) (.pair (.sl false (.pair (.int .i64) (.pair (.int .i64) .unit))) (.pair (.sl false (.int .i64)) .unit))))))) a0, .v (.int .i64) a1] 0
def laws_szInterval.step (n : Nat) (K : laws_szInterval.Pt → Option (Tup [(.int .i64)])) : laws_szInterval.Pt → Option (Tup [(.int .i64)])
  | .p0 a0 a1 => (laws_szRangeS n a0.2.1 a1).bind fun (r5 : Int) => cond (decide (r5 < (0 : Int))) (some (-(1 : Int))) ((laws_szRangeS n a0.2.2.1 r5).bind fun (r6 : Int) => cond (decide (r6 < (0 : Int))) (some (-(1 : Int))) ((laws_szRangeS n a0.2.2.2.1 r6).bind fun (r7 : Int) => cond (decide (r7 < (0 : Int))) (some (-(1 : Int))) ((laws_szRangeS n a0.2.2.2.2.1 r7).bind fun (r8 : Int) => cond (decide (r8 < (0 : Int))) (some (-(1 : Int))) ((laws_szRangeS n a0.2.2.2.2.2.1 r8).bind fun (r9 : Int) => cond (decide (r9 < (0 : Int))) (some (-(1 : Int))) ((laws_szIntS n a0.2.2.2.2.2.2.1 r9).bind fun (r10 : Int) => cond (decide (r10 < (0 : Int))) (some (-(1 : Int))) (some r10))))))
def laws_szInterval (n : Nat) (a0 : (Int) × ((List ((Int) × ((Int) × (Unit)))) × ((List ((Int) × ((Int) × (Unit)))) × ((List ((Int) × ((Int) × (Unit)))) × ((List ((Int) × ((Int) × (Unit)))) × ((List ((Int) × ((Int) × (Unit)))) × ((List (Int)) × (Unit)))))))) (a1 : Int) : Option (Tup [(.int .i64)]) := goRec laws_szInterval.step n (.p0 a0 a1)
def laws_szInterval.spec : Ctr := ⟨18, [.v (.pair (.int .i64) (.pair (.sl false (.pair (.int .i64) (.pair (.int .i64) .unit))) (.pair (.sl false (.pair (.int .i64) (.pair (.int .i64) .unit))) (.pair (.sl false (.pair (.int .i64) (.pair (.int .i64) .unit))) (.pair (.sl false (.pair (.int .i64) (.pair (.int .i64) .unit))) (.pair (.sl false (.pair (.int .i64) (.pair (.int .i64) .unit))) (.pair (.sl false (.int .i64)) .unit))))))), .v (.int .i64)], [(.int .i64)], [], fun n x => laws_szInterval n x.1 x.2.1⟩
theorem laws_szInterval.seg_eq (n : Nat) (goto : Nat → St → Option (Tup [(.int .i64)])) (y : laws_szInterval.Pt) : seg ⟨ty, gl, laws_szInterval.md, calOf laws_szInterval.T n⟩ laws_szInterval.F.np laws_szInterval.F.ks goto (laws_szInterval.F.fin ⟨ty, gl, laws_szInterval.md, calOf laws_szInterval.T 0⟩ [(.int .i64)]) laws_szInterval.F.c (laws_szInterval.lb y) (laws_szInterval.st y) = laws_szInterval.step n (fun z => goto (laws_szInterval.lb z) (laws_szInterval.st z)) y := by
  cases y <;> kernel_rfl
theorem laws_szInterval.text : Text Go.Proofs.Try.prog laws_szInterval.F laws_szInterval.spec := ⟨⟨Go.Proofs.Try.f18, by kernel_rfl, by kernel_rfl, by decide +kernel, by kernel_rfl, by kernel_rfl, of_decide_eq_true (by kernel_rfl)⟩, fun _ => rfl, fun _ => rfl, rfl⟩
theorem laws_szInterval.ok : CtrOK Go.Proofs.Try.prog gl laws_szInterval.spec :=
  ctr_ok (T := laws_szInterval.T) (F := laws_szInterval.F) (lb := laws_szInterval.lb) (st := laws_szInterval.st) (step := laws_szInterval.step) (md := laws_szInterval.md) tabs laws_szInterval.text laws_szInterval.seg_eq (fun n x => ⟨.p0 x.1 x.2.1, rfl, rfl, rfl⟩) (consC laws_szRangeS.ok (consC laws_szIntS.ok (nilC)))

/-! loop.example/g00039/laws.toRange -/
def laws_toRange.T : List Ctr := []
def laws_toRange.md : List (Nat × List Md) := []
noncomputable def laws_toRange.F : Fun := ⟨(Go.Proofs.Try.f86.body).getD .skip, [.v (.pair (.int .i64) (.pair (.int .i64) .unit))], [(.cell 2 81, (.pair (.int .i64) (.pair (.int .i64) .unit)))], [], 0, []⟩
inductive laws_toRange.Pt where
  | p0 (a0 : (Int) × ((Int) × (Unit)))
def laws_toRange.lb : laws_toRange.Pt → Nat
  | .p0 _ => 0
def laws_toRange.st : laws_toRange.Pt → St
  | .p0 a0 => enter [.v (.pair (.int .i64) (.pair (.int .i64) .unit)) a0] 0
def laws_toRange.step (n : Nat) (K : laws_toRange.Pt → Option (Tup [(.pair (.int .i64) (.pair (.int .i64) .unit))])) : laws_toRange.Pt → Option (Tup [(.pair (.int .i64) (.pair (.int .i64) .unit))])
  | .p0 a0 => some a0
def laws_toRange (n : Nat) (a0 : (Int) × ((Int) × (Unit))) : Option (Tup [(.pair (.int .i64) (.pair (.int .i64) .unit))]) := goRec laws_toRange.step n (.p0 a0)
def laws_toRange.spec : Ctr := ⟨86, [.v (.pair (.int .i64) (.pair (.int .i64) .unit))], [(.pair (.int .i64) (.pair (.int .i64) .unit))], [], fun n x => laws_toRange n x.1⟩
theorem laws_toRange.seg_eq (n : Nat) (goto : Nat → St → Option (Tup [(.pair (.int .i64) (.pair (.int .i64) .unit))])) (y : laws_toRange.Pt) : seg ⟨ty, gl, laws_toRange.md, calOf laws_toRange.T n⟩ laws_toRange.F.np laws_toRange.F.ks goto (laws_toRange.F.fin ⟨ty, gl, laws_toRange.md, calOf laws_toRange.T 0⟩ [(.pair (.int .i64) (.pair (.int .i64) .unit))]) laws_toRange.F.c (laws_toRange.lb y) (laws_toRange.st y) = laws_toRange.step n (fun z => goto (laws_toRange.lb z) (laws_toRange.st z)) y := by
  cases y <;> kernel_rfl
theorem laws_toRange.text : Text Go.Proofs.Try.prog laws_toRange.F laws_toRange.spec := ⟨⟨Go.Proofs.Try.f86, by kernel_rfl, by kernel_rfl, by decide +kernel, by kernel_rfl, by kernel_rfl, of_decide_eq_true (by kernel_rfl)⟩, fun _ => rfl, fun _ => rfl, rfl⟩
theorem laws_toRange.ok : CtrOK Go.Proofs.Try.prog gl laws_toRange.spec :=
  ctr_ok (T := laws_toRange.T) (F := laws_toRange.F) (lb := laws_toRange.lb) (st := laws_toRange.st) (step := laws_toRange.step) (md := laws_toRange.md) tabs laws_toRange.text laws_toRange.seg_eq (fun n x => ⟨.p0 x.1, rfl, rfl, rfl⟩) (nilC)

/-! loop.example/g00039/laws.toRangeS -/
def laws_toRangeS.T : List Ctr := [laws_toRange.spec]
def laws_toRangeS.md : List (Nat × List Md) := []
noncomputable def laws_toRangeS.F : Fun := ⟨(Go.Proofs.Try.f53.body).getD .skip, [.v (.sl false (.pair (.int .i64) (.pair (.int .i64) .unit)))], [(.tmp 2, (.sl false (.pair (.int .i64) (.pair (.int .i64) .unit))))], [], 0, [(9, ⟨[0, 3, 4], [(3, (.pair (.int .i64) (.pair (.int .i64) .unit)))], []⟩)]⟩
inductive laws_toRangeS.Pt where
  | p0 (a0 : List ((Int) × ((Int) × (Unit))))
  | p9 (y1 : List ((Int) × ((Int) × (Unit)))) (y2 : Int) (y3 : List ((Int) × ((Int) × (Unit))))
def laws_toRangeS.lb : laws_toRangeS.Pt → Nat
  | .p0 _ => 0
  | .p9 _ _ _ => 9
def laws_toRangeS.st : laws_toRangeS.Pt → St
  | .p0 a0 => enter [.v (.sl false (.pair (.int .i64) (.pair (.int .i64) .unit))) a0] 0
  | .p9 y1 y2 y3 => ⟨[(0, .im (.sl false (.pair (.int .i64) (.pair (.int .i64) .unit))) y1), (3, .hs 0 [] none 0), (4, .im (.int .i64) y2)], [(0, .arr false (.pair (.int .i64) (.pair (.int .i64) .unit)) y3 0)], 1⟩
def laws_toRangeS.step (n : Nat) (K : laws_toRangeS.Pt → Option (Tup [(.sl false (.pair (.int .i64) (.pair (.int .i64) .unit)))])) : laws_toRangeS.Pt → Option (Tup [(.sl false (.pair (.int .i64) (.pair (.int .i64) .unit)))])
  | .p0 a0 => cond (inC ((List.length a0) : Int) ((List.length a0) : Int) 1000000000) (K (.p9 a0 (0 : Int) (List.replicate (Int.toNat ((List.length a0) : Int)) (default : (Int) × ((Int) × (Unit)))))) (none)
  | .p9 y1 y2 y3 => cond (decide (y2 < ((List.length y1) : Int))) (cond (inB y2 (List.length y1)) ((laws_toRange n (List.getD y1 (Int.toNat y2) default)).bind fun r6 => cond (inB y2 (List.length y3)) (K (.p9 y1 (IntKind.wrap .i64 (y2 + (1 : Int))) (List.set y3 (0 + (Int.toNat y2)) r6))) (none)) (none)) (some y3)
def laws_toRangeS (n : Nat) (a0 : List ((Int) × ((Int) × (Unit)))) : Option (Tup [(.sl false (.pair (.int .i64) (.pair (.int .i64) .unit)))]) := goRec laws_toRangeS.step n (.p0 a0)
def laws_toRangeS.spec : Ctr := ⟨53, [.v (.sl false (.pair (.int .i64) (.pair (.int .i64) .unit)))], [(.sl false (.pair (.int .i64) (.pair (.int .i64) .unit)))], [], fun n x => laws_toRangeS n x.1⟩
theorem laws_toRangeS.seg_eq (n : Nat) (goto : Nat → St → Option (Tup [(.sl false (.pair (.int .i64) (.pair (.int .i64) .unit)))])) (y : laws_toRangeS.Pt) : seg ⟨ty, gl, laws_toRangeS.md, calOf laws_toRangeS.T n⟩ laws_toRangeS.F.np laws_toRangeS.F.ks goto (laws_toRangeS.F.fin ⟨ty, gl, laws_toRangeS.md, calOf laws_toRangeS.T 0⟩ [(.sl false (.pair (.int .i64) (.pair (.int .i64) .unit)))]) laws_toRangeS.F.c (laws_toRangeS.lb y) (laws_toRangeS.st y) = laws_toRangeS.step n (fun z => goto (laws_toRangeS.lb z) (laws_toRangeS.st z)) y := by
  cases y <;> kernel_rfl
theorem laws_toRangeS.text : Text Go.Proofs.Try.prog laws_toRangeS.F laws_toRangeS.spec := ⟨⟨Go.Proofs.Try.f53, by kernel_rfl, by kernel_rfl, by decide +kernel, by kernel_rfl, by kernel_rfl, of_decide_eq_true (by kernel_rfl)⟩, fun _ => rfl, fun _ => rfl, rfl⟩
theorem laws_toRangeS.ok : CtrOK Go.Proofs.Try.prog gl laws_toRangeS.spec :=
  ctr_ok (T := laws_toRangeS.T) (F := laws_toRangeS.F) (lb := laws_toRangeS.lb) (st := laws_toRangeS.st) (step := laws_toRangeS.step) (md := laws_toRangeS.md) tabs laws_toRangeS.text laws_toRangeS.seg_eq (fun n x => ⟨.p0 x.1, rfl, rfl, rfl⟩) (consC laws_toRange.ok (nilC))

/-! loop.example/g00039/laws.toIntS -/
def laws_toIntS.T : List Ctr := []
def laws_toIntS.md : List (Nat × List Md) := []
noncomputable def laws_toIntS.F : Fun := ⟨(Go.Proofs.Try.f54.body).getD .skip, [.v (.sl false (.int .i64))], [(.tmp 2, (.sl false (.int .i64)))], [], 0, [(9, ⟨[0, 3, 4], [(3, (.int .i64))], []⟩)]⟩
inductive laws_toIntS.Pt where
  | p0 (a0 : List (Int))
  | p9 (y1 : List (Int)) (y2 : Int) (y3 : List (Int))
def laws_toIntS.lb : laws_toIntS.Pt → Nat
  | .p0 _ => 0
  | .p9 _ _ _ => 9
def laws_toIntS.st : laws_toIntS.Pt → St
  | .p0 a0 => enter [.v (.sl false (.int .i64)) a0] 0
  | .p9 y1 y2 y3 => ⟨[(0, .im (.sl false (.int .i64)) y1), (3, .hs 0 [] none 0), (4, .im (.int .i64) y2)], [(0, .arr false (.int .i64) y3 0)], 1⟩
def laws_toIntS.step (n : Nat) (K : laws_toIntS.Pt → Option (Tup [(.sl false (.int .i64))])) : laws_toIntS.Pt → Option (Tup [(.sl false (.int .i64))])
  | .p0 a0 => cond (inC ((List.length a0) : Int) ((List.length a0) : Int) 1000000000) (K (.p9 a0 (0 : Int) (List.replicate (Int.toNat ((List.length a0) : Int)) (default : Int)))) (none)
  | .p9 y1 y2 y3 => cond (decide (y2 < ((List.length y1) : Int))) (cond (inB y2 (List.length y1)) (cond (inB y2 (List.length y3)) (K (.p9 y1 (IntKind.wrap .i64 (y2 + (1 : Int))) (List.set y3 (0 + (Int.toNat y2)) (List.getD y1 (Int.toNat y2) default)))) (none)) (none)) (some y3)
def laws_toIntS (n : Nat) (a0 : List (Int)) : Option (Tup [(.sl false (.int .i64))]) := goRec laws_toIntS.step n (.p0 a0)
def laws_toIntS.spec : Ctr := ⟨54, [.v (.sl false (.int .i64))], [(.sl false (.int .i64))], [], fun n x => laws_toIntS n x.1⟩
theorem laws_toIntS.seg_eq (n : Nat) (goto : Nat → St → Option (Tup [(.sl false (.int .i64))])) (y : laws_toIntS.Pt) : seg ⟨ty, gl, laws_toIntS.md, calOf laws_toIntS.T n⟩ laws_toIntS.F.np laws_toIntS.F.ks goto (laws_toIntS.F.fin ⟨ty, gl, laws_toIntS.md, calOf laws_toIntS.T 0⟩ [(.sl false (.int .i64))]) laws_toIntS.F.c (laws_toIntS.lb y) (laws_toIntS.st y) = laws_toIntS.step n (fun z => goto (laws_toIntS.lb z) (laws_toIntS.st z)) y := by
  cases y <;> kernel_rfl
theorem laws_toIntS.text : Text Go.Proofs.Try.prog laws_toIntS.F laws_toIntS.spec := ⟨⟨Go.Proofs.Try.f54, by kernel_rfl, by kernel_rfl, by decide +kernel, by kernel_rfl, by kernel_rfl, of_decide_eq_true (by kernel_rfl)⟩, fun _ => rfl, fun _ => rfl, rfl⟩
theorem laws_toIntS.ok : CtrOK Go.Proofs.Try.prog gl laws_toIntS.spec :=
  ctr_ok (T := laws_toIntS.T) (F := laws_toIntS.F) (lb := laws_toIntS.lb) (st := laws_toIntS.st) (step := laws_toIntS.step) (md := laws_toIntS.md) tabs laws_toIntS.text laws_toIntS.seg_eq (fun n x => ⟨.p0 x.1, rfl, rfl, rfl⟩) (nilC)

/-! loop.example/g00039/laws.toInterval -/
def laws_toInterval.T : List Ctr := [laws_toRangeS.spec, laws_toIntS.spec]
def laws_toInterval.md : List (Nat × List Md) := []
noncomputable def laws_toInterval.F : Fun := ⟨(Go.Proofs.Try.f19.body).getD .skip, [.v (.pair (.int .i64) (.pair (.sl false (.pair (.int .i64) (.pair (.int .i64) .unit))) (.pair (.sl false (.pair (.int .i64) (.pair (.int .i64) .unit))) (.pair (.sl false (.pair (.int .i64) (.pair (.int .i64) .unit))) (.pair (.sl false (.pair (.int .i64) (.pair (.int .i64) .unit))) (.pair (.sl false (.pair (.int .i64) (.pair (.int .i64) .unit))) (.pair (.sl false (.int .i64)) .unit)))))))], [(.cell 2 33, (.pair (.int .i64) (.pair (.sl false (.pair (.int .i64) (.pair (.int .i64) .unit))) (.pair (.sl false (.pair (.int .i64) (.pair (.int .i64) .unit))) (.pair (.sl false (.pair (.int .i64) (.pair (.int .i64) .unit))) (.pair (.sl false (.pair (.int .i64) (.pair (.int .i64) .unit))) (.pair (.sl false (.pair (.int .i64) (.pair (.int .i64) .unit))) (.pair (.sl false (.int .i64)) .unit))))))))], [], 0, []⟩
inductive laws_toInterval.Pt where
  | p0 (a0 : (Int) × ((List ((Int) × ((Int) × (Unit)))) × ((List ((Int) × ((Int) × (Unit)))) × ((List ((Int) × ((Int) × (Unit)))) × ((List ((Int) × ((Int) × (Unit)))) × ((List ((Int) × ((Int) × (Unit)))) × ((List (Int)) × (Unit))))))))
def laws_toInterval.lb : laws_toInterval.Pt → Nat
  | .p0 _ => 0
def laws_toInterval.st : laws_toInterval.Pt → St
  | .p0 a0 => enter [.v (.pair (.int .i64) (.pair (.sl false (.pair (.int .i64) (.pair (.int .i64) .unit))) (.pair (.sl false (.pair (.int .i64) (.pair (.int .i64) .unit))) (.pair (.sl false (.pair (.int .i64) (.pair (.int .i64) .unit))) (.pair (.sl false (.pair (.int .i64) (.pair (.int .i64) .unit))) (.pair (.sl false (.pair (.int .i64) (.pair (.int .i64) .unit))) (.pair (.sl false (.int .i64)) .unit))))))) a0] 0
def laws_toInterval.step (n : Nat) (K : laws_toInterval.Pt → Option (Tup [(.pair (.int .i64) (.pair (.sl false (.pair (.int .i64) (.pair (.int .i64) .unit))) (.pair (.sl false (.pair (.int .i64) (.pair (.int .i64) .unit))) (.pair (.sl false (.pair (.int .i64) (.pair (.int .i64) .unit))) (.pair (.sl false (.pair (.int .i64) (.pair (.int .i64) .unit))) (.pair (.sl false (.pair (.int .i64) (.pair (.int .i64) .unit))) (.pair (.sl false (.int .i64)) .unit)))))))])) : laws_toInterval.Pt → Option (Tup [(.pair (.int .i64) (.pair (.sl false (.pair (.int .i64) (.pair (.int .i64) .unit))) (.pair (.sl false (.pair (.int .i64) (.pair (.int .i64) .unit))) (.pair (.sl false (.pair (.int .i64) (.pair (.int .i64) .unit))) (.pair (.sl false (.pair (.int .i64) (.pair (.int .i64) .unit))) (.pair (.sl false (.pair (.int .i64) (.pair (.int .i64) .unit))) (.pair (.sl false (.int .i64)) .unit)))))))])
  | .p0 a0 => (laws_toRangeS n a0.2.1).bind fun r4 => (laws_toRangeS n a0.2.2.1).bind fun r5 => (laws_toRangeS n a0.2.2.2.1).bind fun r6 => (laws_toRangeS n a0.2.2.2.2.1).bind fun r7 => (laws_toRangeS n a0.2.2.2.2.2.1).bind fun r8 => (laws_toIntS n a0.2.2.2.2.2.2.1).bind fun r9 => some (a0.1, (r4, (r5, (r6, (r7, (r8, (r9, ())))))))
def laws_toInterval (n : Nat) (a0 : (Int) × ((List ((Int) × ((Int) × (Unit)))) × ((List ((Int) × ((Int) × (Unit)))) × ((List ((Int) × ((Int) × (Unit)))) × ((List ((Int) × ((Int) × (Unit)))) × ((List ((Int) × ((Int) × (Unit)))) × ((List (Int)) × (Unit)))))))) : Option (Tup [(.pair (.int .i64) (.pair (.sl false (.pair (.int .i64) (.pair (.int .i64) .unit))) (.pair (.sl false (.pair (.int .i64) (.pair (.int .i64) .unit))) (.pair (.sl false (.pair (.int .i64) (.pair (.int .i64) .unit))) (.pair (.sl false (.pair (.int .i64) (.pair (.int .i64) .unit))) (.pair (.sl false (.pair (.int .i64) (.pair (.int .i64) .unit))) (.pair (.sl false (.int .i64)) .unit)))))))]) := goRec laws_toInterval.step n (.p0 a0)
def laws_toInterval.spec : Ctr := ⟨19, [.v (.pair (.int .i64) (.pair (.sl false (.pair (.int .i64) (.pair (.int .i64) .unit))) (.pair (.sl false (.pair (.int .i64) (.pair (.int .i64) .unit))) (.pair (.sl false (.pair (.int .i64) (.pair (.int .i64) .unit))) (.pair (.sl false (.pair (.int .i64) (.pair (.int .i64) .unit))) (.pair (.sl false (.pair (.int .i64) (.pair (.int .i64) .unit))) (.pair (.sl false (.int .i64)) .unit)))))))], [(.pair (.int .i64) (.pair (.sl false (.pair (.int .i64) (.pair (.int .i64) .unit))) (.pair (.sl false (.pair (.int .i64) (.pair (.int .i64) .unit))) (.pair (.sl false (.pair (.int .i64) (.pair (.int .i64) .unit))) (.pair (.sl false (.pair (.int .i64) (.pair (.int .i64) .unit))) (.pair (.sl false (.pair (.int .i64) (.pair (.int .i64) .unit))) (.pair (.sl false (.int .i64)) .unit)))))))], [], fun n x => laws_toInterval n x.1⟩
theorem laws_toInterval.seg_eq (n : Nat) (goto : Nat → St → Option (Tup [(.pair (.int .i64) (.pair (.sl false (.pair (.int .i64) (.pair (.int .i64) .unit))) (.pair (.sl false (.pair (.int .i64) (.pair (.int .i64) .unit))) (.pair (.sl false (.pair (.int .i64) (.pair (.int .i64) .unit))) (.pair (.sl false (.pair (.int .i64) (.pair (.int .i64) .unit))) (.pair (.sl false (.pair (.int .i64) (.pair (.int .i64) .unit))) (.pair (.sl false (.int .i64)) .unit)))))))])) (y : laws_toInterval.Pt) : seg ⟨ty, gl, laws_toInterval.md, calOf laws_toInterval.T n⟩ laws_toInterval.F.np laws_toInterval.F.ks goto (laws_toInterval.F.fin ⟨ty, gl, laws_toInterval.md, calOf laws_toInterval.T 0⟩ [(.pair (.int .i64) (.pair (.sl false (.pair (.int .i64) (.pair (.int .i64) .unit))) (.pair (.sl false (.pair (.int .i64) (.pair (.int .i64) .unit))) (.pair (.sl false (.pair (.int .i64) (.pair (.int .i64) .unit))) (.pair (.sl false (.pair (.int .i64) (.pair (.int .i64) .unit))) (.pair (.sl false (.pair (.int .i64) (.pair (.int .i64) .unit))) (.pair (.sl false (.int .i64)) .unit)))))))]) laws_toInterval.F.c (laws_toInterval.lb y) (laws_toInterval.st y) = laws_toInterval.step n (fun z => goto (laws_toInterval.lb z) (laws_toInterval.st z)) y := by
  cases y <;> kernel_rfl
theorem laws_toInterval.text : Text Go.Proofs.Try.prog laws_toInterval.F laws_toInterval.spec := ⟨⟨Go.Proofs.Try.f19, by kernel_rfl, by kernel_rfl, by decide +kernel, by kernel_rfl, by kernel_rfl, of_decide_eq_true (by kernel_rfl)⟩, fun _ => rfl, fun _ => rfl, rfl⟩
theorem laws_toInterval.ok : CtrOK Go.Proofs.Try.prog gl laws_toInterval.spec :=
  ctr_ok (T := laws_toInterval.T) (F := laws_toInterval.F) (lb := laws_toInterval.lb) (st := laws_toInterval.st) (step := laws_toInterval.step) (md := laws_toInterval.md) tabs laws_toInterval.text laws_toInterval.seg_eq (fun n x => ⟨.p0 x.1, rfl, rfl, rfl⟩) (consC laws_toRangeS.ok (consC laws_toIntS.ok (nilC)))

/-! loop.example/g00039/spec.l9Numbers -/
def spec_l9Numbers.T : List Ctr := []
def spec_l9Numbers.md : List (Nat × List Md) := []
noncomputable def spec_l9Numbers.F : Fun := ⟨(Go.Proofs.Try.f47.body).getD .skip, [.v (.sl false (.int .i64))], [(.tmp 2, .bool)], [], 0, [(7, ⟨[0, 5, 6], [], []⟩)]⟩
inductive spec_l9Numbers.Pt where
  | p0 (a0 : List (Int))
  | p7 (y1 : List (Int)) (y2 : Int) (y3 : Int)
def spec_l9Numbers.lb : spec_l9Numbers.Pt → Nat
  | .p0 _ => 0
  | .p7 _ _ _ => 7
def spec_l9Numbers.st : spec_l9Numbers.Pt → St
  | .p0 a0 => enter [.v (.sl false (.int .i64)) a0] 0
  | .p7 y1 y2 y3 => ⟨[(0, .im (.sl false (.int .i64)) y1), (5, .im (.int .i64) y2), (6, .im (.int .i64) y3)], [], 0⟩
def spec_l9Numbers.step (n : Nat) (K : spec_l9Numbers.Pt → Option (Tup [.bool])) : spec_l9Numbers.Pt → Option (Tup [.bool])
  | .p0 a0 => K (.p7 a0 ((List.length a0) : Int) (0 : Int))
  | .p7 y1 y2 y3 => cond (decide (y3 < y2)) (cond (decide ((0 : Int) < y3)) (cond (inB (IntKind.wrap .i64 (y3 - (1 : Int))) (List.length y1)) (cond (inB y3 (List.length y1)) (cond (decide ((List.getD y1 (Int.toNat y3) default) ≤ (List.getD y1 (Int.toNat (IntKind.wrap .i64 (y3 - (1 : Int)))) default))) (some false) (K (.p7 y1 y2 (IntKind.wrap .i64 (y3 + (1 : Int)))))) (none)) (none)) (K (.p7 y1 y2 (IntKind.wrap .i64 (y3 + (1 : Int)))))) (some (decide (((List.length y1) : Int) ≤ (1000 : Int))))
def spec_l9Numbers (n : Nat) (a0 : List (Int)) : Option (Tup [.bool]) := goRec spec_l9Numbers.step n (.p0 a0)
def spec_l9Numbers.spec : Ctr := ⟨47, [.v (.sl false (.int .i64))], [.bool], [], fun n x => spec_l9Numbers n x.1⟩
theorem spec_l9Numbers.seg_eq (n : Nat) (goto : Nat → St → Option (Tup [.bool])) (y : spec_l9Numbers.Pt) : seg ⟨ty, gl, spec_l9Numbers.md, calOf spec_l9Numbers.T n⟩ spec_l9Numbers.F.np spec_l9Numbers.F.ks goto (spec_l9Numbers.F.fin ⟨ty, gl, spec_l9Numbers.md, calOf spec_l9Numbers.T 0⟩ [.bool]) spec_l9Numbers.F.c (spec_l9Numbers.lb y) (spec_l9Numbers.st y) = spec_l9Numbers.step n (fun z => goto (spec_l9Numbers.lb z) (spec_l9Numbers.st z)) y := by
  cases y <;> kernel_rfl
theorem spec_l9Numbers.text : Text Go.Proofs.Try.prog spec_l9Numbers.F spec_l9Numbers.spec := ⟨⟨Go.Proofs.Try.f47, by kernel_rfl, by kernel_rfl, by decide +kernel, by kernel_rfl, by kernel_rfl, of_decide_eq_true (by kernel_rfl)⟩, fun _ => rfl, fun _ => rfl, rfl⟩
theorem spec_l9Numbers.ok : CtrOK Go.Proofs.Try.prog gl spec_l9Numbers.spec :=
  ctr_ok (T := spec_l9Numbers.T) (F := spec_l9Numbers.F) (lb := spec_l9Numbers.lb) (st := spec_l9Numbers.st) (step := spec_l9Numbers.step) (md := spec_l9Numbers.md) tabs spec_l9Numbers.text spec_l9Numbers.seg_eq (fun n x => ⟨.p0 x.1, rfl, rfl, rfl⟩) (nilC)

/-! loop.example/g00039/spec.l19Ranges -/
def spec_l19Ranges.T : List Ctr := []
def spec_l19Ranges.md : List (Nat × List Md) := []
noncomputable def spec_l19Ranges.F : Fun := ⟨(Go.Proofs.Try.f48.body).getD .skip, [.v (.sl false (.pair (.int .i64) (.pair (.int .i64) .unit))), .v (.int .i64), .v (.int .i64)], [(.tmp 6, .bool)], [], 0, [(7, ⟨[0, 1, 2, 9, 10, 11], [(9, (.pair (.int .i64) (.pair (.int .i64) .unit)))], []⟩), (18, ⟨[0, 1, 2, 9, 10, 11, 31], [(9, (.pair (.int .i64) (.pair (.int .i64) .unit)))], []⟩)]⟩
inductive spec_l19Ranges.Pt where
  | p0 (a0 : List ((Int) × ((Int) × (Unit)))) (a1 : Int) (a2 : Int)
  | p7 (y1 : List ((Int) × ((Int) × (Unit)))) (y2 : Int) (y3 : Int) (y4 : List ((Int) × ((Int) × (Unit)))) (y5 : Int) (y6 : Int)
  | p18 (y1 : List ((Int) × ((Int) × (Unit)))) (y2 : Int) (y3 : Int) (y4 : List ((Int) × ((Int) × (Unit)))) (y5 : Int) (y6 : Int) (y7 : Bool)
def spec_l19Ranges.lb : spec_l19Ranges.Pt → Nat
  | .p0 _ _ _ => 0
  | .p7 _ _ _ _ _ _ => 7
  | .p18 _ _ _ _ _ _ _ => 18
def spec_l19Ranges.st : spec_l19Ranges.Pt → St
  | .p0 a0 a1 a2 => enter [.v (.sl false (.pair (.int .i64) (.pair (.int .i64) .unit))) a0, .v (.int .i64) a1, .v (.int .i64) a2] 0
  | .p7 y1 y2 y3 y4 y5 y6 => ⟨[(0, .im (.sl false (.pair (.int .i64) (.pair (.int .i64) .unit))) y1), (1, .im (.int .i64) y2), (2, .im (.int .i64) y3), (9, .im (.sl false (.pair (.int .i64) (.pair (.int .i64) .unit))) y4), (10, .im (.int .i64) y5), (11, .im (.int .i64) y6)], [], 0⟩
  | .p18 y1 y2 y3 y4 y5 y6 y7 => ⟨[(0, .im (.sl false (.pair (.int .i64) (.pair (.int .i64) .unit))) y1), (1, .im (.int .i64) y2), (2, .im (.int .i64) y3), (9, .im (.sl false (.pair (.int .i64) (.pair (.int .i64) .unit))) y4), (10, .im (.int .i64) y5), (11, .im (.int .i64) y6), (31, .im .bool y7)], [], 0⟩
def spec_l19Ranges.step (n : Nat) (K : spec_l19Ranges.Pt → Option (Tup [.bool])) : spec_l19Ranges.Pt → Option (Tup [.bool])
  | .p0 a0 a1 a2 => K (.p7 a0 a1 a2 a0 ((List.length a0) : Int) (0 : Int))
  | .p7 y1 y2 y3 y4 y5 y6 => cond (decide (y6 < y5)) (cond (inB y6 (List.length y4)) (cond (decide ((List.getD y4 (Int.toNat y6) default).1 < y2)) (K (.p18 y1 y2 y3 y4 y5 y6 true)) (cond (decide (y3 < (List.getD y4 (Int.toNat y6) default).2.1)) (K (.p18 y1 y2 y3 y4 y5 y6 true)) (K (.p18 y1 y2 y3 y4 y5 y6 (decide ((List.getD y4 (Int.toNat y6) default).2.1 < (List.getD y4 (Int.toNat y6) default).1)))))) (none)) (some (decide (((List.length y1) : Int) ≤ (10 : Int))))
  | .p18 y1 y2 y3 y4 y5 y6 y7 => cond y7 (some false) (K (.p7 y1 y2 y3 y4 y5 (IntKind.wrap .i64 (y6 + (1 : Int)))))
def spec_l19Ranges (n : Nat) (a0 : List ((Int) × ((Int) × (Unit)))) (a1 : Int) (a2 : Int) : Option (Tup [.bool]) := goRec spec_l19Ranges.step n (.p0 a0 a1 a2)
def spec_l19Ranges.spec : Ctr := ⟨48, [.v (.sl false (.pair (.int .i64) (.pair (.int .i64) .unit))), .v (.int .i64), .v (.int .i64)], [.bool], [], fun n x => spec_l19Ranges n x.1 x.2.1 x.2.2.1⟩
theorem spec_l19Ranges.seg_eq (n : Nat) (goto : Nat → St → Option (Tup [.bool])) (y : spec_l19Ranges.Pt) : seg ⟨ty, gl, spec_l19Ranges.md, calOf spec_l19Ranges.T n⟩ spec_l19Ranges.F.np spec_l19Ranges.F.ks goto (spec_l19Ranges.F.fin ⟨ty, gl, spec_l19Ranges.md, calOf spec_l19Ranges.T 0⟩ [.bool]) spec_l19Ranges.F.c (spec_l19Ranges.lb y) (spec_l19Ranges.st y) = spec_l19Ranges.step n (fun z => goto (spec_l19Ranges.lb z) (spec_l19Ranges.st z)) y := by
  cases y <;> kernel_rfl
theorem spec_l19Ranges.text : Text Go.Proofs.Try.prog spec_l19Ranges.F spec_l19Ranges.spec := ⟨⟨Go.Proofs.Try.f48, by kernel_rfl, by kernel_rfl, by decide +kernel, by kernel_rfl, by kernel_rfl, of_decide_eq_true (by kernel_rfl)⟩, fun _ => rfl, fun _ => rfl, rfl⟩
theorem spec_l19Ranges.ok : CtrOK Go.Proofs.Try.prog gl spec_l19Ranges.spec :=
  ctr_ok (T := spec_l19Ranges.T) (F := spec_l19Ranges.F) (lb := spec_l19Ranges.lb) (st := spec_l19Ranges.st) (step := spec_l19Ranges.step) (md := spec_l19Ranges.md) tabs spec_l19Ranges.text spec_l19Ranges.seg_eq (fun n x => ⟨.p0 x.1 x.2.1 x.2.2.1, rfl, rfl, rfl⟩) (nilC)

/-! loop.example/g00039/spec.GoodInterval -/
def spec_GoodInterval.T : List Ctr := [spec_l9Numbers.spec, spec_l19Ranges.spec]
def spec_GoodInterval.md : List (Nat × List Md) := []
noncomputable def spec_GoodInterval.F : Fun := ⟨(Go.Proofs.Try.f15.body).getD .skip, [.v (.pair (.int .i64) (.pair (.sl false (.pair (.int .i64) (.pair (.int .i64) .unit))) (.pair (.sl false (.pair (.int .i64) (.pair (.int .i64) .unit))) (.pair (.sl false (.pair (.int .i64) (.pair (.int .i64) .unit))) (.pair (.sl false (.pair (.int .i64) (.pair (.int .i64) .unit))) (.pair (.sl false (.pair (.int .i64) (.pair (.int .i64) .unit))) (.pair (.sl false (.int .i64)) .unit)))))))], [(.tmp 2, .bool)], [], 0, [(7, ⟨[1, 8, 9, 10], [(8, (.pair (.int .i64) (.pair (.int .i64) .unit)))], [(1, 1, (.pair (.int .i64) (.pair (.int .i64) .unit))), (1, 2, (.pair (.int .i64) (.pair (.int .i64) .unit))), (1, 3, (.pair (.int .i64) (.pair (.int .i64) .unit))), (1, 4, (.pair (.int .i64) (.pair (.int .i64) .unit))), (1, 5, (.pair (.int .i64) (.pair (.int .i64) .unit))), (1, 6, (.int .i64))]⟩), (18, ⟨[1, 8, 9, 10, 30], [(8, (.pair (.int .i64) (.pair (.int .i64) .unit)))], [(1, 1, (.pair (.int .i64) (.pair (.int .i64) .unit))), (1, 2, (.pair (.int .i64) (.pair (.int .i64) .unit))), (1, 3, (.pair (.int .i64) (.pair (.int .i64) .unit))), (1, 4, (.pair (.int .i64) (.pair (.int .i64) .unit))), (1, 5, (.pair (.int .i64) (.pair (.int .i64) .unit))), (1, 6, (.int .i64))]⟩), (27, ⟨[1, 51], [], [(1, 1, (.pair (.int .i64) (.pair (.int .i64) .unit))), (1, 2, (.pair (.int .i64) (.pair (.int .i64) .unit))), (1, 3, (.pair (.int .i64) (.pair (.int .i64) .unit))), (1, 4, (.pair (.int .i64) (.pair (.int .i64) .unit))), (1, 5, (.pair (.int .i64) (.pair (.int .i64) .unit))), (1, 6, (.int .i64))]⟩), (38, ⟨[1, 53, 54, 55], [(53, (.int .i64))], [(1, 1, (.pair (.int .i64) (.pair (.int .i64) .unit))), (1, 2, (.pair (.int .i64) (.pair (.int .i64) .unit))), (1, 3, (.pair (.int .i64) (.pair (.int .i64) .unit))), (1, 4, (.pair (.int .i64) (.pair (.int .i64) .unit))), (1, 5, (.pair (.int .i64) (.pair (.int .i64) .unit))), (1, 6, (.int .i64))]⟩)]⟩
inductive spec_GoodInterval.Pt where
  | p0 (a0 : (Int) × ((List ((Int) × ((Int) × (Unit)))) × ((List ((Int) × ((Int) × (Unit)))) × ((List ((Int) × ((Int) × (Unit)))) × ((List ((Int) × ((Int) × (Unit)))) × ((List ((Int) × ((Int) × (Unit)))) × ((List (Int)) × (Unit))))))))
  | p7 (y1 : List ((Int) × ((Int) × (Unit)))) (y2 : Int) (y3 : Int) (y4 : Int) (y5 : List ((Int) × ((Int) × (Unit)))) (y6 : List ((Int) × ((Int) × (Unit)))) (y7 : List ((Int) × ((Int) × (Unit)))) (y8 : List ((Int) × ((Int) × (Unit)))) (y9 : List ((Int) × ((Int) × (Unit)))) (y10 : List (Int))
  | p18 (y1 : List ((Int) × ((Int) × (Unit)))) (y2 : Int) (y3 : Int) (y4 : Bool) (y5 : Int) (y6 : List ((Int) × ((Int) × (Unit)))) (y7 : List ((Int) × ((Int) × (Unit)))) (y8 : List ((Int) × ((Int) × (Unit)))) (y9 : List ((Int) × ((Int) × (Unit)))) (y10 : List ((Int) × ((Int) × (Unit)))) (y11 : List (Int))
  | p27 (y1 : Bool) (y2 : Int) (y3 : List ((Int) × ((Int) × (Unit)))) (y4 : List ((Int) × ((Int) × (Unit)))) (y5 : List ((Int) × ((Int) × (Unit)))) (y6 : List ((Int) × ((Int) × (Unit)))) (y7 : List ((Int) × ((Int) × (Unit)))) (y8 : List (Int))
  | p38 (y1 : List (Int)) (y2 : Int) (y3 : Int) (y4 : Int) (y5 : List ((Int) × ((Int) × (Unit)))) (y6 : List ((Int) × ((Int) × (Unit)))) (y7 : List ((Int) × ((Int) × (Unit)))) (y8 : List ((Int) × ((Int) × (Unit)))) (y9 : List ((Int) × ((Int) × (Unit)))) (y10 : List (Int))
def spec_GoodInterval.lb : spec_GoodInterval.Pt → Nat
  | .p0 _ => 0
  | .p7 _ _ _ _ _ _ _ _ _ _ => 7
  | .p18 _ _ _ _ _ _ _ _ _ _ _ => 18
  | .p27 _ _ _ _ _ _ _ _ => 27
  | .p38 _ _ _ _ _ _ _ _ _ _ => 38
def spec_GoodInterval.st : spec_GoodInterval.Pt → St
  | .p0 a0 => enter [.v (.pair (.int .i64) (.pair (.sl false (.pair (.int .i64) (.pair (.int .i64) .unit))) (.pair (.sl false (.pair (.int .i64) (.pair (.int .i64) .unit))) (.pair (.sl false (.pair (.int .i64) (.pair (.int .i64) .unit))) (.pair (.sl false (.pair (.int .i64) (.pair (.int .i64) .unit))) (.pair (.sl false (.pair (.int .i64) (.pair (.int .i64) .unit))) (.pair (.sl false (.int .i64)) .unit))))))) a0] 0
  | .p7 y1 y2 y3 y4 y5 y6 y7 y8 y9 y10 => ⟨[(1, .po 0 0), (8, .im (.sl false (.pair (.int .i64) (.pair (.int .i64) .unit))) y1), (9, .im (.int .i64) y2), (10, .im (.int .i64) y3)], [(0, .obj [.im (.int .i64) y4, .im (.sl false (.pair (.int .i64) (.pair (.int .i64) .unit))) y5, .im (.sl false (.pair (.int .i64) (.pair (.int .i64) .unit))) y6, .im (.sl false (.pair (.int .i64) (.pair (.int .i64) .unit))) y7, .im (.sl false (.pair (.int .i64) (.pair (.int .i64) .unit))) y8, .im (.sl false (.pair (.int .i64) (.pair (.int .i64) .unit))) y9, .im (.sl false (.int .i64)) y10])], 1⟩
  | .p18 y1 y2 y3 y4 y5 y6 y7 y8 y9 y10 y11 => ⟨[(1, .po 0 0), (8, .im (.sl false (.pair (.int .i64) (.pair (.int .i64) .unit))) y1), (9, .im (.int .i64) y2), (10, .im (.int .i64) y3), (30, .im .bool y4)], [(0, .obj [.im (.int .i64) y5, .im (.sl false (.pair (.int .i64) (.pair (.int .i64) .unit))) y6, .im (.sl false (.pair (.int .i64) (.pair (.int .i64) .unit))) y7, .im (.sl false (.pair (.int .i64) (.pair (.int .i64) .unit))) y8, .im (.sl false (.pair (.int .i64) (.pair (.int .i64) .unit))) y9, .im (.sl false (.pair (.int .i64) (.pair (.int .i64) .unit))) y10, .im (.sl false (.int .i64)) y11])], 1⟩
  | .p27 y1 y2 y3 y4 y5 y6 y7 y8 => ⟨[(1, .po 0 0), (51, .im .bool y1)], [(0, .obj [.im (.int .i64) y2, .im (.sl false (.pair (.int .i64) (.pair (.int .i64) .unit))) y3, .im (.sl false (.pair (.int .i64) (.pair (.int .i64) .unit))) y4, .im (.sl false (.pair (.int .i64) (.pair (.int .i64) .unit))) y5, .im (.sl false (.pair (.int .i64) (.pair (.int .i64) .unit))) y6, .im (.sl false (.pair (.int .i64) (.pair (.int .i64) .unit))) y7, .im (.sl false (.int .i64)) y8])], 1⟩
  | .p38 y1 y2 y3 y4 y5 y6 y7 y8 y9 y10 => ⟨[(1, .po 0 0), (53, .im (.sl false (.int .i64)) y1), (54, .im (.int .i64) y2), (55, .im (.int .i64) y3)], [(0, .obj [.im (.int .i64) y4, .im (.sl false (.pair (.int .i64) (.pair (.int .i64) .unit))) y5, .im (.sl false (.pair (.int .i64) (.pair (.int .i64) .unit))) y6, .im (.sl false (.pair (.int .i64) (.pair (.int .i64) .unit))) y7, .im (.sl false (.pair (.int .i64) (.pair (.int .i64) .unit))) y8, .im (.sl false (.pair (.int .i64) (.pair (.int .i64) .unit))) y9, .im (.sl false (.int .i64)) y10])], 1⟩
def spec_GoodInterval.step (n : Nat) (K : spec_GoodInterval.Pt → Option (Tup [.bool])) : spec_GoodInterval.Pt → Option (Tup [.bool])
  | .p0 a0 => K (.p7 a0.2.2.2.1 ((List.length a0.2.2.2.1) : Int) (0 : Int) a0.1 a0.2.1 a0.2.2.1 a0.2.2.2.1 a0.2.2.2.2.1 a0.2.2.2.2.2.1 a0.2.2.2.2.2.2.1)
  | .p7 y1 y2 y3 y4 y5 y6 y7 y8 y9 y10 => cond (decide (y3 < y2)) (cond (inB y3 (List.length y1)) (cond (decide ((List.getD y1 (Int.toNat y3) default).1 = (0 : Int))) (K (.p18 y1 y2 y3 true y4 y5 y6 y7 y8 y9 y10)) (cond (decide ((List.getD y1 (Int.toNat y3) default).2.1 = (0 : Int))) (K (.p18 y1 y2 y3 true y4 y5 y6 y7 y8 y9 y10)) (K (.p18 y1 y2 y3 ((decide ((List.getD y1 (Int.toNat y3) default).1 < (0 : Int))) != (decide ((List.getD y1 (Int.toNat y3) default).2.1 < (0 : Int)))) y4 y5 y6 y7 y8 y9 y10)))) (none)) (cond (decide (y4 < (-(1440 : Int)))) (K (.p27 true y4 y5 y6 y7 y8 y9 y10)) (cond (decide ((1440 : Int) < y4)) (K (.p27 true y4 y5 y6 y7 y8 y9 y10)) (cond (decide ((10 : Int) < ((List.length y10) : Int))) (K (.p27 true y4 y5 y6 y7 y8 y9 y10)) ((spec_l9Numbers n y10).bind fun r13 => K (.p27 (!r13) y4 y5 y6 y7 y8 y9 y10)))))
  | .p18 y1 y2 y3 y4 y5 y6 y7 y8 y9 y10 y11 => cond y4 (some false) (K (.p7 y1 y2 (IntKind.wrap .i64 (y3 + (1 : Int))) y5 y6 y7 y8 y9 y10 y11))
  | .p27 y1 y2 y3 y4 y5 y6 y7 y8 => cond y1 (some false) (K (.p38 y8 ((List.length y8) : Int) (0 : Int) y2 y3 y4 y5 y6 y7 y8))
  | .p38 y1 y2 y3 y4 y5 y6 y7 y8 y9 y10 => cond (decide (y3 < y2)) (cond (inB y3 (List.length y1)) (cond (decide ((List.getD y1 (Int.toNat y3) default) < (0 : Int))) (some false) (cond (decide ((20000000 : Int) < (List.getD y1 (Int.toNat y3) default))) (some false) (K (.p38 y1 y2 (IntKind.wrap .i64 (y3 + (1 : Int))) y4 y5 y6 y7 y8 y9 y10)))) (none)) ((spec_l19Ranges n y5 (0 : Int) (1439 : Int)).bind fun r13 => cond r13 ((spec_l19Ranges n y6 (0 : Int) (6 : Int)).bind fun r14 => cond r14 ((spec_l19Ranges n y7 (-(31 : Int)) (31 : Int)).bind fun r15 => cond r15 ((spec_l19Ranges n y8 (1 : Int) (12 : Int)).bind fun r16 => cond r16 ((spec_l19Ranges n y9 (1970 : Int) (40000 : Int)).bind fun r17 => some r17) (some false)) (some false)) (some false)) (some false))
def spec_GoodInterval (n : Nat) (a0 : (Int) × ((List ((Int) × ((Int) × (Unit)))) × ((List ((Int) × ((Int) × (Unit)))) × ((List ((Int) × ((Int) × (Unit)))) × ((List ((Int) × ((Int) × (Unit)))) × ((List ((Int) × ((Int) × (Unit)))) × ((List (Int)) × (Unit)))))))) : Option (Tup [.bool]) := goRec spec_GoodInterval.step n (.p0 a0)
def spec_GoodInterval.spec : Ctr := ⟨15, [.v (.pair (.int .i64) (.pair (.sl false (.pair (.int .i64) (.pair (.int .i64) .unit))) (.pair (.sl false (.pair (.int .i64) (.pair (.int .i64) .unit))) (.pair (.sl false (.pair (.int .i64) (.pair (.int .i64) .unit))) (.pair (.sl false (.pair (.int .i64) (.pair (.int .i64) .unit))) (.pair (.sl false (.pair (.int .i64) (.pair (.int .i64) .unit))) (.pair (.sl false (.int .i64)) .unit)))))))], [.bool], [], fun n x => spec_GoodInterval n x.1⟩
theorem spec_GoodInterval.seg_eq (n : Nat) (goto : Nat → St → Option (Tup [.bool])) (y : spec_GoodInterval.Pt) : seg ⟨ty, gl, spec_GoodInterval.md, calOf spec_GoodInterval.T n⟩ spec_GoodInterval.F.np spec_GoodInterval.F.ks goto (spec_GoodInterval.F.fin ⟨ty, gl, spec_GoodInterval.md, calOf spec_GoodInterval.T 0⟩ [.bool]) spec_GoodInterval.F.c (spec_GoodInterval.lb y) (spec_GoodInterval.st y) = spec_GoodInterval.step n (fun z => goto (spec_GoodInterval.lb z) (spec_GoodInterval.st z)) y := by
  cases y <;> kernel_rfl
theorem spec_GoodInterval.text : Text Go.Proofs.Try.prog spec_GoodInterval.F spec_GoodInterval.spec := ⟨⟨Go.Proofs.Try.f15, by kernel_rfl, by kernel_rfl, by decide +kernel, by kernel_rfl, by kernel_rfl, of_decide_eq_true (by kernel_rfl)⟩, fun _ => rfl, fun _ => rfl, rfl⟩
theorem spec_GoodInterval.ok : CtrOK Go.Proofs.Try.prog gl spec_GoodInterval.spec :=
  ctr_ok (T := spec_GoodInterval.T) (F := spec_GoodInterval.F) (lb := spec_GoodInterval.lb) (st := spec_GoodInterval.st) (step := spec_GoodInterval.step) (md := spec_GoodInterval.md) tabs spec_GoodInterval.text spec_GoodInterval.seg_eq (fun n x => ⟨.p0 x.1, rfl, rfl, rfl⟩) (consC spec_l9Numbers.ok (consC spec_l19Ranges.ok (nilC)))

/-! loop.example/g00039/spec.l3Time -/
def spec_l3Time.T : List Ctr := []
def spec_l3Time.md : List (Nat × List Md) := []
noncomputable def spec_l3Time.F : Fun := ⟨(Go.Proofs.Try.f29.body).getD .skip, [.v (.int .i64)], [(.tmp 2, .bool)], [], 0, []⟩
inductive spec_l3Time.Pt where
  | p0 (a0 : Int)
def spec_l3Time.lb : spec_l3Time.Pt → Nat
  | .p0 _ => 0
def spec_l3Time.st : spec_l3Time.Pt → St
  | .p0 a0 => enter [.v (.int .i64) a0] 0
def spec_l3Time.step (n : Nat) (K : spec_l3Time.Pt → Option (Tup [.bool])) : spec_l3Time.Pt → Option (Tup [.bool])
  | .p0 a0 => cond (decide ((0 : Int) ≤ a0)) (some (decide (a0 ≤ (1000000000000 : Int)))) (some false)
def spec_l3Time (n : Nat) (a0 : Int) : Option (Tup [.bool]) := goRec spec_l3Time.step n (.p0 a0)
def spec_l3Time.spec : Ctr := ⟨29, [.v (.int .i64)], [.bool], [], fun n x => spec_l3Time n x.1⟩
theorem spec_l3Time.seg_eq (n : Nat) (goto : Nat → St → Option (Tup [.bool])) (y : spec_l3Time.Pt) : seg ⟨ty, gl, spec_l3Time.md, calOf spec_l3Time.T n⟩ spec_l3Time.F.np spec_l3Time.F.ks goto (spec_l3Time.F.fin ⟨ty, gl, spec_l3Time.md, calOf spec_l3Time.T 0⟩ [.bool]) spec_l3Time.F.c (spec_l3Time.lb y) (spec_l3Time.st y) = spec_l3Time.step n (fun z => goto (spec_l3Time.lb z) (spec_l3Time.st z)) y := by
  cases y <;> kernel_rfl
theorem spec_l3Time.text : Text Go.Proofs.Try.prog spec_l3Time.F spec_l3Time.spec := ⟨⟨Go.Proofs.Try.f29, by kernel_rfl, by kernel_rfl, by decide +kernel, by kernel_rfl, by kernel_rfl, of_decide_eq_true (by kernel_rfl)⟩, fun _ => rfl, fun _ => rfl, rfl⟩
theorem spec_l3Time.ok : CtrOK Go.Proofs.Try.prog gl spec_l3Time.spec :=
  ctr_ok (T := spec_l3Time.T) (F := spec_l3Time.F) (lb := spec_l3Time.lb) (st := spec_l3Time.st) (step := spec_l3Time.step) (md := spec_l3Time.md) tabs spec_l3Time.text spec_l3Time.seg_eq (fun n x => ⟨.p0 x.1, rfl, rfl, rfl⟩) (nilC)

/-! loop.example/g00039/spec.l19Leap -/
def spec_l19Leap.T : List Ctr := []
def spec_l19Leap.md : List (Nat × List Md) := []
noncomputable def spec_l19Leap.F : Fun := ⟨(Go.Proofs.Try.f85.body).getD .skip, [.v (.int .i64)], [(.tmp 2, .bool)], [], 0, []⟩
inductive spec_l19Leap.Pt where
  | p0 (a0 : Int)
def spec_l19Leap.lb : spec_l19Leap.Pt → Nat
  | .p0 _ => 0
def spec_l19Leap.st : spec_l19Leap.Pt → St
  | .p0 a0 => enter [.v (.int .i64) a0] 0
def spec_l19Leap.step (n : Nat) (K : spec_l19Leap.Pt → Option (Tup [.bool])) : spec_l19Leap.Pt → Option (Tup [.bool])
  | .p0 a0 => cond (decide ((Int.tmod a0 (4 : Int)) = (0 : Int))) (cond (!(decide ((Int.tmod a0 (100 : Int)) = (0 : Int)))) (some true) (some (decide ((Int.tmod a0 (400 : Int)) = (0 : Int))))) (some false)
def spec_l19Leap (n : Nat) (a0 : Int) : Option (Tup [.bool]) := goRec spec_l19Leap.step n (.p0 a0)
def spec_l19Leap.spec : Ctr := ⟨85, [.v (.int .i64)], [.bool], [], fun n x => spec_l19Leap n x.1⟩
theorem spec_l19Leap.seg_eq (n : Nat) (goto : Nat → St → Option (Tup [.bool])) (y : spec_l19Leap.Pt) : seg ⟨ty, gl, spec_l19Leap.md, calOf spec_l19Leap.T n⟩ spec_l19Leap.F.np spec_l19Leap.F.ks goto (spec_l19Leap.F.fin ⟨ty, gl, spec_l19Leap.md, calOf spec_l19Leap.T 0⟩ [.bool]) spec_l19Leap.F.c (spec_l19Leap.lb y) (spec_l19Leap.st y) = spec_l19Leap.step n (fun z => goto (spec_l19Leap.lb z) (spec_l19Leap.st z)) y := by
  cases y <;> kernel_rfl
theorem spec_l19Leap.text : Text Go.Proofs.Try.prog spec_l19Leap.F spec_l19Leap.spec := ⟨⟨Go.Proofs.Try.f85, by kernel_rfl, by kernel_rfl, by decide +kernel, by kernel_rfl, by kernel_rfl, of_decide_eq_true (by kernel_rfl)⟩, fun _ => rfl, fun _ => rfl, rfl⟩
theorem spec_l19Leap.ok : CtrOK Go.Proofs.Try.prog gl spec_l19Leap.spec :=
  ctr_ok (T := spec_l19Leap.T) (F := spec_l19Leap.F) (lb := spec_l19Leap.lb) (st := spec_l19Leap.st) (step := spec_l19Leap.step) (md := spec_l19Leap.md) tabs spec_l19Leap.text spec_l19Leap.seg_eq (fun n x => ⟨.p0 x.1, rfl, rfl, rfl⟩) (nilC)

/-! loop.example/g00039/spec.l19Year -/
def spec_l19Year.T : List Ctr := [spec_l19Leap.spec]
def spec_l19Year.md : List (Nat × List Md) := []
noncomputable def spec_l19Year.F : Fun := ⟨(Go.Proofs.Try.f49.body).getD .skip, [.v (.int .i64)], [(.tmp 2, (.int .i64))], [], 0, []⟩
inductive spec_l19Year.Pt where
  | p0 (a0 : Int)
def spec_l19Year.lb : spec_l19Year.Pt → Nat
  | .p0 _ => 0
def spec_l19Year.st : spec_l19Year.Pt → St
  | .p0 a0 => enter [.v (.int .i64) a0] 0
def spec_l19Year.step (n : Nat) (K : spec_l19Year.Pt → Option (Tup [(.int .i64)])) : spec_l19Year.Pt → Option (Tup [(.int .i64)])
  | .p0 a0 => (spec_l19Leap n a0).bind fun r4 => cond r4 (some (366 : Int)) (some (365 : Int))
def spec_l19Year (n : Nat) (a0 : Int) : Option (Tup [(.int .i64)]) := goRec spec_l19Year.step n (.p0 a0)
def spec_l19Year.spec : Ctr := ⟨49, [.v (.int .i64)], [(.int .i64)], [], fun n x => spec_l19Year n x.1⟩
theorem spec_l19Year.seg_eq (n : Nat) (goto : Nat → St → Option (Tup [(.int .i64)])) (y : spec_l19Year.Pt) : seg ⟨ty, gl, spec_l19Year.md, calOf spec_l19Year.T n⟩ spec_l19Year.F.np spec_l19Year.F.ks goto (spec_l19Year.F.fin ⟨ty, gl, spec_l19Year.md, calOf spec_l19Year.T 0⟩ [(.int .i64)]) spec_l19Year.F.c (spec_l19Year.lb y) (spec_l19Year.st y) = spec_l19Year.step n (fun z => goto (spec_l19Year.lb z) (spec_l19Year.st z)) y := by
  cases y <;> kernel_rfl
theorem spec_l19Year.text : Text Go.Proofs.Try.prog spec_l19Year.F spec_l19Year.spec := ⟨⟨Go.Proofs.Try.f49, by kernel_rfl, by kernel_rfl, by decide +kernel, by kernel_rfl, by kernel_rfl, of_decide_eq_true (by kernel_rfl)⟩, fun _ => rfl, fun _ => rfl, rfl⟩
theorem spec_l19Year.ok : CtrOK Go.Proofs.Try.prog gl spec_l19Year.spec :=
  ctr_ok (T := spec_l19Year.T) (F := spec_l19Year.F) (lb := spec_l19Year.lb) (st := spec_l19Year.st) (step := spec_l19Year.step) (md := spec_l19Year.md) tabs spec_l19Year.text spec_l19Year.seg_eq (fun n x => ⟨.p0 x.1, rfl, rfl, rfl⟩) (consC spec_l19Leap.ok (nilC))

/-! loop.example/g00039/spec.l19Month -/
def spec_l19Month.T : List Ctr := [spec_l19Leap.spec]
def spec_l19Month.md : List (Nat × List Md) := []
noncomputable def spec_l19Month.F : Fun := ⟨(Go.Proofs.Try.f50.body).getD .skip, [.v (.int .i64), .v (.int .i64)], [(.tmp 4, (.int .i64))], [], 0, []⟩
inductive spec_l19Month.Pt where
  | p0 (a0 : Int) (a1 : Int)
def spec_l19Month.lb : spec_l19Month.Pt → Nat
  | .p0 _ _ => 0
def spec_l19Month.st : spec_l19Month.Pt → St
  | .p0 a0 a1 => enter [.v (.int .i64) a0, .v (.int .i64) a1] 0
def spec_l19Month.step (n : Nat) (K : spec_l19Month.Pt → Option (Tup [(.int .i64)])) : spec_l19Month.Pt → Option (Tup [(.int .i64)])
  | .p0 a0 a1 => cond (decide (a1 = (2 : Int))) ((spec_l19Leap n a0).bind fun r5 => cond r5 (some (29 : Int)) (cond (inB a1 (List.length [(0 : Int), (31 : Int), (28 : Int), (31 : Int), (30 : Int), (31 : Int), (30 : Int), (31 : Int), (31 : Int), (30 : Int), (31 : Int), (30 : Int), (31 : Int)])) (some (List.getD [(0 : Int), (31 : Int), (28 : Int), (31 : Int), (30 : Int), (31 : Int), (30 : Int), (31 : Int), (31 : Int), (30 : Int), (31 : Int), (30 : Int), (31 : Int)] (0 + (Int.toNat a1)) default)) (none))) (cond (inB a1 (List.length [(0 : Int), (31 : Int), (28 : Int), (31 : Int), (30 : Int), (31 : Int), (30 : Int), (31 : Int), (31 : Int), (30 : Int), (31 : Int), (30 : Int), (31 : Int)])) (some (List.getD [(0 : Int), (31 : Int), (28 : Int), (31 : Int), (30 : Int), (31 : Int), (30 : Int), (31 : Int), (31 : Int), (30 : Int), (31 : Int), (30 : Int), (31 : Int)] (0 + (Int.toNat a1)) default)) (none))
def spec_l19Month (n : Nat) (a0 : Int) (a1 : Int) : Option (Tup [(.int .i64)]) := goRec spec_l19Month.step n (.p0 a0 a1)
def spec_l19Month.spec : Ctr := ⟨50, [.v (.int .i64), .v (.int .i64)], [(.int .i64)], [], fun n x => spec_l19Month n x.1 x.2.1⟩
theorem spec_l19Month.seg_eq (n : Nat) (goto : Nat → St → Option (Tup [(.int .i64)])) (y : spec_l19Month.Pt) : seg ⟨ty, gl, spec_l19Month.md, calOf spec_l19Month.T n⟩ spec_l19Month.F.np spec_l19Month.F.ks goto (spec_l19Month.F.fin ⟨ty, gl, spec_l19Month.md, calOf spec_l19Month.T 0⟩ [(.int .i64)]) spec_l19Month.F.c (spec_l19Month.lb y) (spec_l19Month.st y) = spec_l19Month.step n (fun z => goto (spec_l19Month.lb z) (spec_l19Month.st z)) y := by
  cases y <;> kernel_rfl
theorem spec_l19Month.text : Text Go.Proofs.Try.prog spec_l19Month.F spec_l19Month.spec := ⟨⟨Go.Proofs.Try.f50, by kernel_rfl, by kernel_rfl, by decide +kernel, by kernel_rfl, by kernel_rfl, of_decide_eq_true (by kernel_rfl)⟩, fun _ => rfl, fun _ => rfl, rfl⟩
theorem spec_l19Month.ok : CtrOK Go.Proofs.Try.prog gl spec_l19Month.spec :=
  ctr_ok (T := spec_l19Month.T) (F := spec_l19Month.F) (lb := spec_l19Month.lb) (st := spec_l19Month.st) (step := spec_l19Month.step) (md := spec_l19Month.md) tabs spec_l19Month.text spec_l19Month.seg_eq (fun n x => ⟨.p0 x.1 x.2.1, rfl, rfl, rfl⟩) (consC spec_l19Leap.ok (nilC))

/-! loop.example/g00039/spec.DateOf -/
def spec_DateOf.T : List Ctr := [spec_l3Time.spec, spec_l19Year.spec, spec_l19Month.spec]
def spec_DateOf.md : List (Nat × List Md) := []
noncomputable def spec_DateOf.F : Fun := ⟨(Go.Proofs.Try.f16.body).getD .skip, [.v (.int .i64), .v (.int .i64)], [(.cell 4 39, (.pair (.int .i64) (.pair (.int .i64) (.pair (.int .i64) (.pair (.int .i64) (.pair (.int .i64) (.pair (.int .i64) .unit)))))))], [], 0, [(4, ⟨[0, 1, 4, 25], [], []⟩), (19, ⟨[4, 6, 7], [], []⟩), (32, ⟨[4, 6, 7], [], []⟩)]⟩
inductive spec_DateOf.Pt where
  | p0 (a0 : Int) (a1 : Int)
  | p4 (y1 : Int) (y2 : Int) (y3 : Bool) (y4 : Int) (y5 : Int) (y6 : Int) (y7 : Int) (y8 : Int) (y9 : Int)
  | p19 (y1 : Int) (y2 : Int) (y3 : Int) (y4 : Int) (y5 : Int) (y6 : Int) (y7 : Int) (y8 : Int) (y9 : Int) (y10 : Int) (y11 : Int) (y12 : Int) (y13 : Int)
  | p32 (y1 : Int) (y2 : Int) (y3 : Int) (y4 : Int) (y5 : Int) (y6 : Int) (y7 : Int) (y8 : Int) (y9 : Int) (y10 : Int) (y11 : Int) (y12 : Int) (y13 : Int)
def spec_DateOf.lb : spec_DateOf.Pt → Nat
  | .p0 _ _ => 0
  | .p4 _ _ _ _ _ _ _ _ _ => 4
  | .p19 _ _ _ _ _ _ _ _ _ _ _ _ _ => 19
  | .p32 _ _ _ _ _ _ _ _ _ _ _ _ _ => 32
def spec_DateOf.st : spec_DateOf.Pt → St
  | .p0 a0 a1 => enter [.v (.int .i64) a0, .v (.int .i64) a1] 0
  | .p4 y1 y2 y3 y4 y5 y6 y7 y8 y9 => ⟨[(0, .im (.int .i64) y1), (1, .im (.int .i64) y2), (4, .po 0 0), (25, .im .bool y3)], [(0, .obj [.im (.int .i64) y4, .im (.int .i64) y5, .im (.int .i64) y6, .im (.int .i64) y7, .im (.int .i64) y8, .im (.int .i64) y9])], 1⟩
  | .p19 y1 y2 y3 y4 y5 y6 y7 y8 y9 y10 y11 y12 y13 => ⟨[(4, .po 0 0), (6, .im (.int .i64) y1), (7, .po 1 0)], [(0, .obj [.im (.int .i64) y2, .im (.int .i64) y3, .im (.int .i64) y4, .im (.int .i64) y5, .im (.int .i64) y6, .im (.int .i64) y7]), (1, .obj [.im (.int .i64) y8, .im (.int .i64) y9, .im (.int .i64) y10, .im (.int .i64) y11, .im (.int .i64) y12, .im (.int .i64) y13])], 2⟩
  | .p32 y1 y2 y3 y4 y5 y6 y7 y8 y9 y10 y11 y12 y13 => ⟨[(4, .po 0 0), (6, .im (.int .i64) y1), (7, .po 1 0)], [(0, .obj [.im (.int .i64) y2, .im (.int .i64) y3, .im (.int .i64) y4, .im (.int .i64) y5, .im (.int .i64) y6, .im (.int .i64) y7]), (1, .obj [.im (.int .i64) y8, .im (.int .i64) y9, .im (.int .i64) y10, .im (.int .i64) y11, .im (.int .i64) y12, .im (.int .i64) y13])], 2⟩
def spec_DateOf.step (n : Nat) (K : spec_DateOf.Pt → Option (Tup [(.pair (.int .i64) (.pair (.int .i64) (.pair (.int .i64) (.pair (.int .i64) (.pair (.int .i64) (.pair (.int .i64) .unit))))))])) : spec_DateOf.Pt → Option (Tup [(.pair (.int .i64) (.pair (.int .i64) (.pair (.int .i64) (.pair (.int .i64) (.pair (.int .i64) (.pair (.int .i64) .unit))))))])
  | .p0 a0 a1 => (spec_l3Time n a0).bind fun r5 => cond (!r5) (K (.p4 a0 a1 true (default : Int) (default : Int) (default : Int) (default : Int) (default : Int) (default : Int))) (cond (decide (a1 < (-(1440 : Int)))) (K (.p4 a0 a1 true (default : Int) (default : Int) (default : Int) (default : Int) (default : Int) (default : Int))) (cond (decide ((1440 : Int) < a1)) (K (.p4 a0 a1 true (default : Int) (default : Int) (default : Int) (default : Int) (default : Int) (default : Int))) (K (.p4 a0 a1 (decide ((IntKind.wrap .i64 (a0 + (IntKind.wrap .i64 ((60 : Int) * a1)))) < (0 : Int))) (default : Int) (default : Int) (default : Int) (default : Int) (default : Int) (default : Int)))))
  | .p4 y1 y2 y3 y4 y5 y6 y7 y8 y9 => cond y3 (some (default : (Int) × ((Int) × ((Int) × ((Int) × ((Int) × ((Int) × (Unit)))))))) (K (.p19 (IntKind.wrap .i64 (Int.tdiv (IntKind.wrap .i64 (Int.tdiv (IntKind.wrap .i64 (y1 + (IntKind.wrap .i64 ((60 : Int) * y2)))) (60 : Int))) (1440 : Int))) y4 y5 y6 y7 y8 y9 (1970 : Int) (1 : Int) (default : Int) (default : Int) (Int.tmod (IntKind.wrap .i64 ((IntKind.wrap .i64 (Int.tdiv (IntKind.wrap .i64 (Int.tdiv (IntKind.wrap .i64 (y1 + (IntKind.wrap .i64 ((60 : Int) * y2)))) (60 : Int))) (1440 : Int))) + (4 : Int))) (7 : Int)) (Int.tmod (IntKind.wrap .i64 (Int.tdiv (IntKind.wrap .i64 (y1 + (IntKind.wrap .i64 ((60 : Int) * y2)))) (60 : Int))) (1440 : Int))))
  | .p19 y1 y2 y3 y4 y5 y6 y7 y8 y9 y10 y11 y12 y13 => (spec_l19Year n y8).bind fun (r16 : Int) => cond (decide (r16 ≤ y1)) ((spec_l19Year n y8).bind fun (r17 : Int) => K (.p19 (IntKind.wrap .i64 (y1 - r17)) y2 y3 y4 y5 y6 y7 (IntKind.wrap .i64 (y8 + (1 : Int))) y9 y10 y11 y12 y13)) (K (.p32 y1 y2 y3 y4 y5 y6 y7 y8 y9 y10 y11 y12 y13))
  | .p32 y1 y2 y3 y4 y5 y6 y7 y8 y9 y10 y11 y12 y13 => (spec_l19Month n y8 y9).bind fun (r16 : Int) => cond (decide (r16 ≤ y1)) ((spec_l19Month n y8 y9).bind fun (r17 : Int) => K (.p32 (IntKind.wrap .i64 (y1 - r17)) y2 y3 y4 y5 y6 y7 y8 (IntKind.wrap .i64 (y9 + (1 : Int))) y10 y11 y12 y13)) ((spec_l19Month n y8 y9).bind fun (r17 : Int) => some (y8, (y9, ((IntKind.wrap .i64 (y1 + (1 : Int))), (r17, (y12, (y13, ())))))))
def spec_DateOf (n : Nat) (a0 : Int) (a1 : Int) : Option (Tup [(.pair (.int .i64) (.pair (.int .i64) (.pair (.int .i64) (.pair (.int .i64) (.pair (.int .i64) (.pair (.int .i64) .unit))))))]) := goRec spec_DateOf.step n (.p0 a0 a1)
def spec_DateOf.spec : Ctr := ⟨16, [.v (.int .i64), .v (.int .i64)], [(.pair (.int .i64) (.pair (.int .i64) (.pair (.int .i64) (.pair (.int .i64) (.pair (.int .i64) (.pair (.int .i64) .unit))))))], [], fun n x => spec_DateOf n x.1 x.2.1⟩
theorem spec_DateOf.seg_eq (n : Nat) (goto : Nat → St → Option (Tup [(.pair (.int .i64) (.pair (.int .i64) (.pair (.int .i64) (.pair (.int .i64) (.pair (.int .i64) (.pair (.int .i64) .unit))))))])) (y : spec_DateOf.Pt) : seg ⟨ty, gl, spec_DateOf.md, calOf spec_DateOf.T n⟩ spec_DateOf.F.np spec_DateOf.F.ks goto (spec_DateOf.F.fin ⟨ty, gl, spec_DateOf.md, calOf spec_DateOf.T 0⟩ [(.pair (.int .i64) (.pair (.int .i64) (.pair (.int .i64) (.pair (.int .i64) (.pair (.int .i64) (.pair (.int .i64) .unit))))))]) spec_DateOf.F.c (spec_DateOf.lb y) (spec_DateOf.st y) = spec_DateOf.step n (fun z => goto (spec_DateOf.lb z) (spec_DateOf.st z)) y := by
  cases y <;> kernel_rfl
theorem spec_DateOf.text : Text Go.Proofs.Try.prog spec_DateOf.F spec_DateOf.spec := ⟨⟨Go.Proofs.Try.f16, by kernel_rfl, by kernel_rfl, by decide +kernel, by kernel_rfl, by kernel_rfl, of_decide_eq_true (by kernel_rfl)⟩, fun _ => rfl, fun _ => rfl, rfl⟩
theorem spec_DateOf.ok : CtrOK Go.Proofs.Try.prog gl spec_DateOf.spec :=
  ctr_ok (T := spec_DateOf.T) (F := spec_DateOf.F) (lb := spec_DateOf.lb) (st := spec_DateOf.st) (step := spec_DateOf.step) (md := spec_DateOf.md) tabs spec_DateOf.text spec_DateOf.seg_eq (fun n x => ⟨.p0 x.1 x.2.1, rfl, rfl, rfl⟩) (consC spec_l3Time.ok (consC spec_l19Year.ok (consC spec_l19Month.ok (nilC))))

/-! loop.example/g00039/spec.l19In -/
def spec_l19In.T : List Ctr := []
def spec_l19In.md : List (Nat × List Md) := []
noncomputable def spec_l19In.F : Fun := ⟨(Go.Proofs.Try.f45.body).getD .skip, [.v (.sl false (.pair (.int .i64) (.pair (.int .i64) .unit))), .v (.int .i64)], [(.tmp 4, .bool)], [], 0, [(9, ⟨[1, 5, 11, 12, 13], [(11, (.pair (.int .i64) (.pair (.int .i64) .unit)))], []⟩)]⟩
inductive spec_l19In.Pt where
  | p0 (a0 : List ((Int) × ((Int) × (Unit)))) (a1 : Int)
  | p9 (y1 : Int) (y2 : Bool) (y3 : List ((Int) × ((Int) × (Unit)))) (y4 : Int) (y5 : Int)
def spec_l19In.lb : spec_l19In.Pt → Nat
  | .p0 _ _ => 0
  | .p9 _ _ _ _ _ => 9
def spec_l19In.st : spec_l19In.Pt → St
  | .p0 a0 a1 => enter [.v (.sl false (.pair (.int .i64) (.pair (.int .i64) .unit))) a0, .v (.int .i64) a1] 0
  | .p9 y1 y2 y3 y4 y5 => ⟨[(1, .im (.int .i64) y1), (5, .im .bool y2), (11, .im (.sl false (.pair (.int .i64) (.pair (.int .i64) .unit))) y3), (12, .im (.int .i64) y4), (13, .im (.int .i64) y5)], [], 0⟩
def spec_l19In.step (n : Nat) (K : spec_l19In.Pt → Option (Tup [.bool])) : spec_l19In.Pt → Option (Tup [.bool])
  | .p0 a0 a1 => K (.p9 a1 (decide (((List.length a0) : Int) = (0 : Int))) a0 ((List.length a0) : Int) (0 : Int))
  | .p9 y1 y2 y3 y4 y5 => cond (decide (y5 < y4)) (cond (inB y5 (List.length y3)) (cond y2 (K (.p9 y1 true y3 y4 (IntKind.wrap .i64 (y5 + (1 : Int))))) (cond (decide ((List.getD y3 (Int.toNat y5) default).1 ≤ y1)) (K (.p9 y1 (decide (y1 ≤ (List.getD y3 (Int.toNat y5) default).2.1)) y3 y4 (IntKind.wrap .i64 (y5 + (1 : Int))))) (K (.p9 y1 false y3 y4 (IntKind.wrap .i64 (y5 + (1 : Int))))))) (none)) (some y2)
def spec_l19In (n : Nat) (a0 : List ((Int) × ((Int) × (Unit)))) (a1 : Int) : Option (Tup [.bool]) := goRec spec_l19In.step n (.p0 a0 a1)
def spec_l19In.spec : Ctr := ⟨45, [.v (.sl false (.pair (.int .i64) (.pair (.int .i64) .unit))), .v (.int .i64)], [.bool], [], fun n x => spec_l19In n x.1 x.2.1⟩
theorem spec_l19In.seg_eq (n : Nat) (goto : Nat → St → Option (Tup [.bool])) (y : spec_l19In.Pt) : seg ⟨ty, gl, spec_l19In.md, calOf spec_l19In.T n⟩ spec_l19In.F.np spec_l19In.F.ks goto (spec_l19In.F.fin ⟨ty, gl, spec_l19In.md, calOf spec_l19In.T 0⟩ [.bool]) spec_l19In.F.c (spec_l19In.lb y) (spec_l19In.st y) = spec_l19In.step n (fun z => goto (spec_l19In.lb z) (spec_l19In.st z)) y := by
  cases y <;> kernel_rfl
theorem spec_l19In.text : Text Go.Proofs.Try.prog spec_l19In.F spec_l19In.spec := ⟨⟨Go.Proofs.Try.f45, by kernel_rfl, by kernel_rfl, by decide +kernel, by kernel_rfl, by kernel_rfl, of_decide_eq_true (by kernel_rfl)⟩, fun _ => rfl, fun _ => rfl, rfl⟩
theorem spec_l19In.ok : CtrOK Go.Proofs.Try.prog gl spec_l19In.spec :=
  ctr_ok (T := spec_l19In.T) (F := spec_l19In.F) (lb := spec_l19In.lb) (st := spec_l19In.st) (step := spec_l19In.step) (md := spec_l19In.md) tabs spec_l19In.text spec_l19In.seg_eq (fun n x => ⟨.p0 x.1 x.2.1, rfl, rfl, rfl⟩) (nilC)

/-! loop.example/g00039/spec.DayNumber -/
def spec_DayNumber.T : List Ctr := [spec_l19Year.spec, spec_l19Month.spec]
def spec_DayNumber.md : List (Nat × List Md) := []
noncomputable def spec_DayNumber.F : Fun := ⟨(Go.Proofs.Try.f17.body).getD .skip, [.v (.int .i64), .v (.int .i64), .v (.int .i64)], [(.tmp 6, (.int .i64))], [], 0, [(4, ⟨[0, 1, 2, 34], [], []⟩), (17, ⟨[0, 1, 7, 8], [], []⟩), (32, ⟨[0, 1, 7, 9], [], []⟩)]⟩
inductive spec_DayNumber.Pt where
  | p0 (a0 : Int) (a1 : Int) (a2 : Int)
  | p4 (y1 : Int) (y2 : Int) (y3 : Int) (y4 : Bool)
  | p17 (y1 : Int) (y2 : Int) (y3 : Int) (y4 : Int)
  | p32 (y1 : Int) (y2 : Int) (y3 : Int) (y4 : Int)
def spec_DayNumber.lb : spec_DayNumber.Pt → Nat
  | .p0 _ _ _ => 0
  | .p4 _ _ _ _ => 4
  | .p17 _ _ _ _ => 17
  | .p32 _ _ _ _ => 32
def spec_DayNumber.st : spec_DayNumber.Pt → St
  | .p0 a0 a1 a2 => enter [.v (.int .i64) a0, .v (.int .i64) a1, .v (.int .i64) a2] 0
  | .p4 y1 y2 y3 y4 => ⟨[(0, .im (.int .i64) y1), (1, .im (.int .i64) y2), (2, .im (.int .i64) y3), (34, .im .bool y4)], [], 0⟩
  | .p17 y1 y2 y3 y4 => ⟨[(0, .im (.int .i64) y1), (1, .im (.int .i64) y2), (7, .im (.int .i64) y3), (8, .im (.int .i64) y4)], [], 0⟩
  | .p32 y1 y2 y3 y4 => ⟨[(0, .im (.int .i64) y1), (1, .im (.int .i64) y2), (7, .im (.int .i64) y3), (9, .im (.int .i64) y4)], [], 0⟩
def spec_DayNumber.step (n : Nat) (K : spec_DayNumber.Pt → Option (Tup [(.int .i64)])) : spec_DayNumber.Pt → Option (Tup [(.int .i64)])
  | .p0 a0 a1 a2 => cond (decide (a0 < (1970 : Int))) (K (.p4 a0 a1 a2 true)) (cond (decide ((40000 : Int) < a0)) (K (.p4 a0 a1 a2 true)) (cond (decide (a1 < (1 : Int))) (K (.p4 a0 a1 a2 true)) (cond (decide ((12 : Int) < a1)) (K (.p4 a0 a1 a2 true)) (cond (decide (a2 < (1 : Int))) (K (.p4 a0 a1 a2 true)) ((spec_l19Month n a0 a1).bind fun (r6 : Int) => K (.p4 a0 a1 a2 (decide (r6 < a2))))))))
  | .p4 y1 y2 y3 y4 => cond y4 (some (-(1 : Int))) (K (.p17 y1 y2 (IntKind.wrap .i64 (y3 - (1 : Int))) (1970 : Int)))
  | .p17 y1 y2 y3 y4 => cond (decide (y4 < y1)) ((spec_l19Year n y4).bind fun (r7 : Int) => K (.p17 y1 y2 (IntKind.wrap .i64 (y3 + r7)) (IntKind.wrap .i64 (y4 + (1 : Int))))) (K (.p32 y1 y2 y3 (1 : Int)))
  | .p32 y1 y2 y3 y4 => cond (decide (y4 < y2)) ((spec_l19Month n y1 y4).bind fun (r7 : Int) => K (.p32 y1 y2 (IntKind.wrap .i64 (y3 + r7)) (IntKind.wrap .i64 (y4 + (1 : Int))))) (some y3)
def spec_DayNumber (n : Nat) (a0 : Int) (a1 : Int) (a2 : Int) : Option (Tup [(.int .i64)]) := goRec spec_DayNumber.step n (.p0 a0 a1 a2)
def spec_DayNumber.spec : Ctr := ⟨17, [.v (.int .i64), .v (.int .i64), .v (.int .i64)], [(.int .i64)], [], fun n x => spec_DayNumber n x.1 x.2.1 x.2.2.1⟩
theorem spec_DayNumber.seg_eq (n : Nat) (goto : Nat → St → Option (Tup [(.int .i64)])) (y : spec_DayNumber.Pt) : seg ⟨ty, gl, spec_DayNumber.md, calOf spec_DayNumber.T n⟩ spec_DayNumber.F.np spec_DayNumber.F.ks goto (spec_DayNumber.F.fin ⟨ty, gl, spec_DayNumber.md, calOf spec_DayNumber.T 0⟩ [(.int .i64)]) spec_DayNumber.F.c (spec_DayNumber.lb y) (spec_DayNumber.st y) = spec_DayNumber.step n (fun z => goto (spec_DayNumber.lb z) (spec_DayNumber.st z)) y := by
  cases y <;> kernel_rfl
theorem spec_DayNumber.text : Text Go.Proofs.Try.prog spec_DayNumber.F spec_DayNumber.spec := ⟨⟨Go.Proofs.Try.f17, by kernel_rfl, by kernel_rfl, by decide +kernel, by kernel_rfl, by kernel_rfl, of_decide_eq_true (by kernel_rfl)⟩, fun _ => rfl, fun _ => rfl, rfl⟩
theorem spec_DayNumber.ok : CtrOK Go.Proofs.Try.prog gl spec_DayNumber.spec :=
  ctr_ok (T := spec_DayNumber.T) (F := spec_DayNumber.F) (lb := spec_DayNumber.lb) (st := spec_DayNumber.st) (step := spec_DayNumber.step) (md := spec_DayNumber.md) tabs spec_DayNumber.text spec_DayNumber.seg_eq (fun n x => ⟨.p0 x.1 x.2.1 x.2.2.1, rfl, rfl, rfl⟩) (consC spec_l19Year.ok (consC spec_l19Month.ok (nilC)))

/-! loop.example/g00039/spec.l9In -/
def spec_l9In.T : List Ctr := []
def spec_l9In.md : List (Nat × List Md) := []
noncomputable def spec_l9In.F : Fun := ⟨(Go.Proofs.Try.f46.body).getD .skip, [.v (.sl false (.int .i64)), .v (.int .i64)], [(.tmp 4, .bool)], [], 0, [(7, ⟨[1, 7, 8, 9], [(7, (.int .i64))], []⟩)]⟩
inductive spec_l9In.Pt where
  | p0 (a0 : List (Int)) (a1 : Int)
  | p7 (y1 : Int) (y2 : List (Int)) (y3 : Int) (y4 : Int)
def spec_l9In.lb : spec_l9In.Pt → Nat
  | .p0 _ _ => 0
  | .p7 _ _ _ _ => 7
def spec_l9In.st : spec_l9In.Pt → St
  | .p0 a0 a1 => enter [.v (.sl false (.int .i64)) a0, .v (.int .i64) a1] 0
  | .p7 y1 y2 y3 y4 => ⟨[(1, .im (.int .i64) y1), (7, .im (.sl false (.int .i64)) y2), (8, .im (.int .i64) y3), (9, .im (.int .i64) y4)], [], 0⟩
def spec_l9In.step (n : Nat) (K : spec_l9In.Pt → Option (Tup [.bool])) : spec_l9In.Pt → Option (Tup [.bool])
  | .p0 a0 a1 => K (.p7 a1 a0 ((List.length a0) : Int) (0 : Int))
  | .p7 y1 y2 y3 y4 => cond (decide (y4 < y3)) (cond (inB y4 (List.length y2)) (cond (decide ((List.getD y2 (Int.toNat y4) default) = y1)) (some true) (K (.p7 y1 y2 y3 (IntKind.wrap .i64 (y4 + (1 : Int)))))) (none)) (some false)
def spec_l9In (n : Nat) (a0 : List (Int)) (a1 : Int) : Option (Tup [.bool]) := goRec spec_l9In.step n (.p0 a0 a1)
def spec_l9In.spec : Ctr := ⟨46, [.v (.sl false (.int .i64)), .v (.int .i64)], [.bool], [], fun n x => spec_l9In n x.1 x.2.1⟩
theorem spec_l9In.seg_eq (n : Nat) (goto : Nat → St → Option (Tup [.bool])) (y : spec_l9In.Pt) : seg ⟨ty, gl, spec_l9In.md, calOf spec_l9In.T n⟩ spec_l9In.F.np spec_l9In.F.ks goto (spec_l9In.F.fin ⟨ty, gl, spec_l9In.md, calOf spec_l9In.T 0⟩ [.bool]) spec_l9In.F.c (spec_l9In.lb y) (spec_l9In.st y) = spec_l9In.step n (fun z => goto (spec_l9In.lb z) (spec_l9In.st z)) y := by
  cases y <;> kernel_rfl
theorem spec_l9In.text : Text Go.Proofs.Try.prog spec_l9In.F spec_l9In.spec := ⟨⟨Go.Proofs.Try.f46, by kernel_rfl, by kernel_rfl, by decide +kernel, by kernel_rfl, by kernel_rfl, of_decide_eq_true (by kernel_rfl)⟩, fun _ => rfl, fun _ => rfl, rfl⟩
theorem spec_l9In.ok : CtrOK Go.Proofs.Try.prog gl spec_l9In.spec :=
  ctr_ok (T := spec_l9In.T) (F := spec_l9In.F) (lb := spec_l9In.lb) (st := spec_l9In.st) (step := spec_l9In.step) (md := spec_l9In.md) tabs spec_l9In.text spec_l9In.seg_eq (fun n x => ⟨.p0 x.1 x.2.1, rfl, rfl, rfl⟩) (nilC)

/-! loop.example/g00039/spec.InInterval -/
def spec_InInterval.T : List Ctr := [spec_GoodInterval.spec, spec_l3Time.spec, spec_DateOf.spec, spec_l19In.spec, spec_DayNumber.spec, spec_l9In.spec]
def spec_InInterval.md : List (Nat × List Md) := []
noncomputable def spec_InInterval.F : Fun := ⟨(Go.Proofs.Try.f14.body).getD .skip, [.v (.pair (.int .i64) (.pair (.sl false (.pair (.int .i64) (.pair (.int .i64) .unit))) (.pair (.sl false (.pair (.int .i64) (.pair (.int .i64) .unit))) (.pair (.sl false (.pair (.int .i64) (.pair (.int .i64) .unit))) (.pair (.sl false (.pair (.int .i64) (.pair (.int .i64) .unit))) (.pair (.sl false (.pair (.int .i64) (.pair (.int .i64) .unit))) (.pair (.sl false (.int .i64)) .unit))))))), .v (.int .i64)], [(.tmp 4, .bool)], [], 0, [(4, ⟨[1, 2, 14], [], [(2, 1, (.pair (.int .i64) (.pair (.int .i64) .unit))), (2, 2, (.pair (.int .i64) (.pair (.int .i64) .unit))), (2, 3, (.pair (.int .i64) (.pair (.int .i64) .unit))), (2, 4, (.pair (.int .i64) (.pair (.int .i64) .unit))), (2, 5, (.pair (.int .i64) (.pair (.int .i64) .unit))), (2, 6, (.int .i64))]⟩), (21, ⟨[2, 5, 6], [], [(2, 1, (.pair (.int .i64) (.pair (.int .i64) .unit))), (2, 2, (.pair (.int .i64) (.pair (.int .i64) .unit))), (2, 3, (.pair (.int .i64) (.pair (.int .i64) .unit))), (2, 4, (.pair (.int .i64) (.pair (.int .i64) .unit))), (2, 5, (.pair (.int .i64) (.pair (.int .i64) .unit))), (2, 6, (.int .i64))]⟩)]⟩
inductive spec_InInterval.Pt where
  | p0 (a0 : (Int) × ((List ((Int) × ((Int) × (Unit)))) × ((List ((Int) × ((Int) × (Unit)))) × ((List ((Int) × ((Int) × (Unit)))) × ((List ((Int) × ((Int) × (Unit)))) × ((List ((Int) × ((Int) × (Unit)))) × ((List (Int)) × (Unit)))))))) (a1 : Int)
  | p4 (y1 : Int) (y2 : Bool) (y3 : Int) (y4 : List ((Int) × ((Int) × (Unit)))) (y5 : List ((Int) × ((Int) × (Unit)))) (y6 : List ((Int) × ((Int) × (Unit)))) (y7 : List ((Int) × ((Int) × (Unit)))) (y8 : List ((Int) × ((Int) × (Unit)))) (y9 : List (Int))
  | p21 (y1 : Bool) (y2 : Int) (y3 : List ((Int) × ((Int) × (Unit)))) (y4 : List ((Int) × ((Int) × (Unit)))) (y5 : List ((Int) × ((Int) × (Unit)))) (y6 : List ((Int) × ((Int) × (Unit)))) (y7 : List ((Int) × ((Int) × (Unit)))) (y8 : List (Int)) (y9 : Int) (y10 : Int) (y11 : Int) (y12 : Int) (y13 : Int) (y14 : Int)
def spec_InInterval.lb : spec_InInterval.Pt → Nat
  | .p0 _ _ => 0
  | .p4 _ _ _ _ _ _ _ _ _ => 4
  | .p21 _ _ _ _ _ _ _ _ _ _ _ _ _ _ => 21
def spec_InInterval.st : spec_InInterval.Pt → St
  | .p0 a0 a1 => enter [.v (.pair (.int .i64) (.pair (.sl false (.pair (.int .i64) (.pair (.int .i64) .unit))) (.pair (.sl false (.pair (.int .i64) (.pair (.int .i64) .unit))) (.pair (.sl false (.pair (.int .i64) (.pair (.int .i64) .unit))) (.pair (.sl false (.pair (.int .i64) (.pair (.int .i64) .unit))) (.pair (.sl false (.pair (.int .i64) (.pair (.int .i64) .unit))) (.pair (.sl false (.int .i64)) .unit))))))) a0, .v (.int .i64) a1] 0
  | .p4 y1 y2 y3 y4 y5 y6 y7 y8 y9 => ⟨[(1, .im (.int .i64) y1), (2, .po 0 0), (14, .im .bool y2)], [(0, .obj [.im (.int .i64) y3, .im (.sl false (.pair (.int .i64) (.pair (.int .i64) .unit))) y4, .im (.sl false (.pair (.int .i64) (.pair (.int .i64) .unit))) y5, .im (.sl false (.pair (.int .i64) (.pair (.int .i64) .unit))) y6, .im (.sl false (.pair (.int .i64) (.pair (.int .i64) .unit))) y7, .im (.sl false (.pair (.int .i64) (.pair (.int .i64) .unit))) y8, .im (.sl false (.int .i64)) y9])], 1⟩
  | .p21 y1 y2 y3 y4 y5 y6 y7 y8 y9 y10 y11 y12 y13 y14 => ⟨[(2, .po 0 0), (5, .po 1 0), (6, .im .bool y1)], [(0, .obj [.im (.int .i64) y2, .im (.sl false (.pair (.int .i64) (.pair (.int .i64) .unit))) y3, .im (.sl false (.pair (.int .i64) (.pair (.int .i64) .unit))) y4, .im (.sl false (.pair (.int .i64) (.pair (.int .i64) .unit))) y5, .im (.sl false (.pair (.int .i64) (.pair (.int .i64) .unit))) y6, .im (.sl false (.pair (.int .i64) (.pair (.int .i64) .unit))) y7, .im (.sl false (.int .i64)) y8]), (1, .obj [.im (.int .i64) y9, .im (.int .i64) y10, .im (.int .i64) y11, .im (.int .i64) y12, .im (.int .i64) y13, .im (.int .i64) y14])], 2⟩
def spec_InInterval.step (n : Nat) (K : spec_InInterval.Pt → Option (Tup [.bool])) : spec_InInterval.Pt → Option (Tup [.bool])
  | .p0 a0 a1 => (spec_GoodInterval n a0).bind fun r5 => cond (!r5) (K (.p4 a1 true a0.1 a0.2.1 a0.2.2.1 a0.2.2.2.1 a0.2.2.2.2.1 a0.2.2.2.2.2.1 a0.2.2.2.2.2.2.1)) ((spec_l3Time n a1).bind fun r6 => K (.p4 a1 (!r6) a0.1 a0.2.1 a0.2.2.1 a0.2.2.2.1 a0.2.2.2.2.1 a0.2.2.2.2.2.1 a0.2.2.2.2.2.2.1))
  | .p4 y1 y2 y3 y4 y5 y6 y7 y8 y9 => cond y2 (some false) ((spec_DateOf n y1 y3).bind fun r12 => cond (decide (r12.1 = (0 : Int))) (some false) (cond (decide (((List.length y6) : Int) = (0 : Int))) (K (.p21 true y3 y4 y5 y6 y7 y8 y9 r12.1 r12.2.1 r12.2.2.1 r12.2.2.2.1 r12.2.2.2.2.1 r12.2.2.2.2.2.1)) ((spec_l19In n y6 r12.2.2.1).bind fun r13 => cond r13 (K (.p21 true y3 y4 y5 y6 y7 y8 y9 r12.1 r12.2.1 r12.2.2.1 r12.2.2.2.1 r12.2.2.2.2.1 r12.2.2.2.2.2.1)) ((spec_l19In n y6 (IntKind.wrap .i64 ((IntKind.wrap .i64 (r12.2.2.1 - r12.2.2.2.1)) - (1 : Int)))).bind fun r14 => K (.p21 r14 y3 y4 y5 y6 y7 y8 y9 r12.1 r12.2.1 r12.2.2.1 r12.2.2.2.1 r12.2.2.2.2.1 r12.2.2.2.2.2.1)))))
  | .p21 y1 y2 y3 y4 y5 y6 y7 y8 y9 y10 y11 y12 y13 y14 => cond y1 ((spec_l19In n y3 y14).bind fun r17 => cond r17 ((spec_l19In n y4 y13).bind fun r18 => cond r18 ((spec_l19In n y6 y10).bind fun r19 => cond r19 ((spec_l19In n y7 y9).bind fun r20 => cond r20 ((spec_DayNumber n y9 y10 y11).bind fun (r21 : Int) => (spec_l9In n y8 r21).bind fun r22 => some (!r22)) (some false)) (some false)) (some false)) (some false)) (some false)
def spec_InInterval (n : Nat) (a0 : (Int) × ((List ((Int) × ((Int) × (Unit)))) × ((List ((Int) × ((Int) × (Unit)))) × ((List ((Int) × ((Int) × (Unit)))) × ((List ((Int) × ((Int) × (Unit)))) × ((List ((Int) × ((Int) × (Unit)))) × ((List (Int)) × (Unit)))))))) (a1 : Int) : Option (Tup [.bool]) := goRec spec_InInterval.step n (.p0 a0 a1)
def spec_InInterval.spec : Ctr := ⟨14, [.v (.pair (.int .i64) (.pair (.sl false (.pair (.int .i64) (.pair (.int .i64) .unit))) (.pair (.sl false (.pair (.int .i64) (.pair (.int .i64) .unit))) (.pair (.sl false (.pair (.int .i64) (.pair (.int .i64) .unit))) (.pair (.sl false (.pair (.int .i64) (.pair (.int .i64) .unit))) (.pair (.sl false (.pair (.int .i64) (.pair (.int .i64) .unit))) (.pair (.sl false (.int .i64)) .unit))))))), .v (.int .i64)], [.bool], [], fun n x => spec_InInterval n x.1 x.2.1⟩
theorem spec_InInterval.seg_eq (n : Nat) (goto : Nat → St → Option (Tup [.bool])) (y : spec_InInterval.Pt) : seg ⟨ty, gl, spec_InInterval.md, calOf spec_InInterval.T n⟩ spec_InInterval.F.np spec_InInterval.F.ks goto (spec_InInterval.F.fin ⟨ty, gl, spec_InInterval.md, calOf spec_InInterval.T 0⟩ [.bool]) spec_InInterval.F.c (spec_InInterval.lb y) (spec_InInterval.st y) = spec_InInterval.step n (fun z => goto (spec_InInterval.lb z) (spec_InInterval.st z)) y := by
  cases y <;> kernel_rfl
theorem spec_InInterval.text : Text Go.Proofs.Try.prog spec_InInterval.F spec_InInterval.spec := ⟨⟨Go.Proofs.Try.f14, by kernel_rfl, by kernel_rfl, by decide +kernel, by kernel_rfl, by kernel_rfl, of_decide_eq_true (by kernel_rfl)⟩, fun _ => rfl, fun _ => rfl, rfl⟩
theorem spec_InInterval.ok : CtrOK Go.Proofs.Try.prog gl spec_InInterval.spec :=
  ctr_ok (T := spec_InInterval.T) (F := spec_InInterval.F) (lb := spec_InInterval.lb) (st := spec_InInterval.st) (step := spec_InInterval.step) (md := spec_InInterval.md) tabs spec_InInterval.text spec_InInterval.seg_eq (fun n x => ⟨.p0 x.1 x.2.1, rfl, rfl, rfl⟩) (consC spec_GoodInterval.ok (consC spec_l3Time.ok (consC spec_DateOf.ok (consC spec_l19In.ok (consC spec_DayNumber.ok (consC spec_l9In.ok (nilC)))))))

/-! loop.example/g00039/impl.goodRanges$1 -/
def impl_goodRanges_1.T : List Ctr := []
def impl_goodRanges_1.md : List (Nat × List Md) := []
noncomputable def impl_goodRanges_1.F : Fun := ⟨(Go.Proofs.Try.f106.body).getD .skip, [.v (.pair (.int .i64) (.pair (.int .i64) .unit)), .q (.int .i64), .q (.int .i64)], [(.tmp 4, .bool)], [], 0, []⟩
inductive impl_goodRanges_1.Pt where
  | p0 (a0 : (Int) × ((Int) × (Unit))) (a1 : Int) (a2 : Int)
def impl_goodRanges_1.lb : impl_goodRanges_1.Pt → Nat
  | .p0 _ _ _ => 0
def impl_goodRanges_1.st : impl_goodRanges_1.Pt → St
  | .p0 a0 a1 a2 => enter [.v (.pair (.int .i64) (.pair (.int .i64) .unit)) a0, .q (.int .i64) a1, .q (.int .i64) a2] 0
def impl_goodRanges_1.step (n : Nat) (K : impl_goodRanges_1.Pt → Option (Tup [.bool])) : impl_goodRanges_1.Pt → Option (Tup [.bool])
  | .p0 a0 a1 a2 => cond (decide (a0.2.1 < a0.1)) (some true) (cond (decide (a0.1 < (List.getD [a1] 0 default))) (some true) (some (decide ((List.getD [a2] 0 default) < a0.2.1))))
def impl_goodRanges_1 (n : Nat) (a0 : (Int) × ((Int) × (Unit))) (a1 : Int) (a2 : Int) : Option (Tup [.bool]) := goRec impl_goodRanges_1.step n (.p0 a0 a1 a2)
def impl_goodRanges_1.spec : Ctr := ⟨106, [.v (.pair (.int .i64) (.pair (.int .i64) .unit)), .q (.int .i64), .q (.int .i64)], [.bool], [], fun n x => impl_goodRanges_1 n x.1 x.2.1 x.2.2.1⟩
theorem impl_goodRanges_1.seg_eq (n : Nat) (goto : Nat → St → Option (Tup [.bool])) (y : impl_goodRanges_1.Pt) : seg ⟨ty, gl, impl_goodRanges_1.md, calOf impl_goodRanges_1.T n⟩ impl_goodRanges_1.F.np impl_goodRanges_1.F.ks goto (impl_goodRanges_1.F.fin ⟨ty, gl, impl_goodRanges_1.md, calOf impl_goodRanges_1.T 0⟩ [.bool]) impl_goodRanges_1.F.c (impl_goodRanges_1.lb y) (impl_goodRanges_1.st y) = impl_goodRanges_1.step n (fun z => goto (impl_goodRanges_1.lb z) (impl_goodRanges_1.st z)) y := by
  cases y <;> kernel_rfl
theorem impl_goodRanges_1.text : Text Go.Proofs.Try.prog impl_goodRanges_1.F impl_goodRanges_1.spec := ⟨⟨Go.Proofs.Try.f106, by kernel_rfl, by kernel_rfl, by decide +kernel, by kernel_rfl, by kernel_rfl, of_decide_eq_true (by kernel_rfl)⟩, fun _ => rfl, fun _ => rfl, rfl⟩
theorem impl_goodRanges_1.ok : CtrOK Go.Proofs.Try.prog gl impl_goodRanges_1.spec :=
  ctr_ok (T := impl_goodRanges_1.T) (F := impl_goodRanges_1.F) (lb := impl_goodRanges_1.lb) (st := impl_goodRanges_1.st) (step := impl_goodRanges_1.step) (md := impl_goodRanges_1.md) tabs impl_goodRanges_1.text impl_goodRanges_1.seg_eq (fun n x => ⟨.p0 x.1 x.2.1 x.2.2.1, rfl, rfl, rfl⟩) (nilC)

/-! slices.IndexFunc[[]loop.example/g00039/impl.Range,loop.example/g00039/impl.Range] -/
def slices_IndexFunc_Range_impl_goodRanges_1.T : List Ctr := [impl_goodRanges_1.spec]
def slices_IndexFunc_Range_impl_goodRanges_1.md : List (Nat × List Md) := [(106, [.v, .q (.int .i64), .q (.int .i64)]), (1000106, [.q (.int .i64), .q (.int .i64)])]
noncomputable def slices_IndexFunc_Range_impl_goodRanges_1.F : Fun := ⟨(Go.Proofs.Try.f110.body).getD .skip, [.v (.sl false (.pair (.int .i64) (.pair (.int .i64) .unit))), .fn 106 [.q (.int .i64), .q (.int .i64)]], [(.tmp 4, (.int .i64))], [], 0, [(7, ⟨[0, 1, 7, 8], [], []⟩)]⟩
inductive slices_IndexFunc_Range_impl_goodRanges_1.Pt where
  | p0 (a0 : List ((Int) × ((Int) × (Unit)))) (a1 : Int) (a2 : Int)
  | p7 (y1 : List ((Int) × ((Int) × (Unit)))) (y2 : List (Int)) (y3 : Nat) (y4 : List (Int)) (y5 : Nat) (y6 : Int) (y7 : Int)
def slices_IndexFunc_Range_impl_goodRanges_1.lb : slices_IndexFunc_Range_impl_goodRanges_1.Pt → Nat
  | .p0 _ _ _ => 0
  | .p7 _ _ _ _ _ _ _ => 7
def slices_IndexFunc_Range_impl_goodRanges_1.st : slices_IndexFunc_Range_impl_goodRanges_1.Pt → St
  | .p0 a0 a1 a2 => enter [.v (.sl false (.pair (.int .i64) (.pair (.int .i64) .unit))) a0, .fn 106 [.q (.int .i64) a1, .q (.int .i64) a2]] 0
  | .p7 y1 y2 y3 y4 y5 y6 y7 => ⟨[(0, .im (.sl false (.pair (.int .i64) (.pair (.int .i64) .unit))) y1), (1, .fn 106 [.pi (.int .i64) y2 y3 0, .pi (.int .i64) y4 y5 0]), (7, .im (.int .i64) y6), (8, .im (.int .i64) y7)], [], 0⟩
def slices_IndexFunc_Range_impl_goodRanges_1.step (n : Nat) (K : slices_IndexFunc_Range_impl_goodRanges_1.Pt → Option (Tup [(.int .i64)])) : slices_IndexFunc_Range_impl_goodRanges_1.Pt → Option (Tup [(.int .i64)])
  | .p0 a0 a1 a2 => K (.p7 a0 [a1] 0 [a2] 0 ((List.length a0) : Int) (0 : Int))
  | .p7 y1 y2 y3 y4 y5 y6 y7 => cond (decide (y7 < y6)) (cond (inB y7 (List.length y1)) ((impl_goodRanges_1 n (List.getD y1 (Int.toNat y7) default) (List.getD y2 y3 default) (List.getD y4 y5 default)).bind fun r10 => cond r10 (some y7) (K (.p7 y1 y2 y3 y4 y5 y6 (IntKind.wrap .i64 (y7 + (1 : Int)))))) (none)) (some (-(1 : Int)))
def slices_IndexFunc_Range_impl_goodRanges_1 (n : Nat) (a0 : List ((Int) × ((Int) × (Unit)))) (a1 : Int) (a2 : Int) : Option (Tup [(.int .i64)]) := goRec slices_IndexFunc_Range_impl_goodRanges_1.step n (.p0 a0 a1 a2)
def slices_IndexFunc_Range_impl_goodRanges_1.spec : Ctr := ⟨110, [.v (.sl false (.pair (.int .i64) (.pair (.int .i64) .unit))), .fn 106 [.q (.int .i64), .q (.int .i64)]], [(.int .i64)], [], fun n x => slices_IndexFunc_Range_impl_goodRanges_1 n x.1 x.2.1.1 x.2.1.2.1⟩
theorem slices_IndexFunc_Range_impl_goodRanges_1.seg_eq (n : Nat) (goto : Nat → St → Option (Tup [(.int .i64)])) (y : slices_IndexFunc_Range_impl_goodRanges_1.Pt) : seg ⟨ty, gl, slices_IndexFunc_Range_impl_goodRanges_1.md, calOf slices_IndexFunc_Range_impl_goodRanges_1.T n⟩ slices_IndexFunc_Range_impl_goodRanges_1.F.np slices_IndexFunc_Range_impl_goodRanges_1.F.ks goto (slices_IndexFunc_Range_impl_goodRanges_1.F.fin ⟨ty, gl, slices_IndexFunc_Range_impl_goodRanges_1.md, calOf slices_IndexFunc_Range_impl_goodRanges_1.T 0⟩ [(.int .i64)]) slices_IndexFunc_Range_impl_goodRanges_1.F.c (slices_IndexFunc_Range_impl_goodRanges_1.lb y) (slices_IndexFunc_Range_impl_goodRanges_1.st y) = slices_IndexFunc_Range_impl_goodRanges_1.step n (fun z => goto (slices_IndexFunc_Range_impl_goodRanges_1.lb z) (slices_IndexFunc_Range_impl_goodRanges_1.st z)) y := by
  cases y <;> kernel_rfl
theorem slices_IndexFunc_Range_impl_goodRanges_1.text : Text Go.Proofs.Try.prog slices_IndexFunc_Range_impl_goodRanges_1.F slices_IndexFunc_Range_impl_goodRanges_1.spec := ⟨⟨Go.Proofs.Try.f110, by kernel_rfl, by kernel_rfl, by decide +kernel, by kernel_rfl, by kernel_rfl, of_decide_eq_true (by kernel_rfl)⟩, fun _ => rfl, fun _ => rfl, rfl⟩
theorem slices_IndexFunc_Range_impl_goodRanges_1.ok : CtrOK Go.Proofs.Try.prog gl slices_IndexFunc_Range_impl_goodRanges_1.spec :=
  ctr_ok (T := slices_IndexFunc_Range_impl_goodRanges_1.T) (F := slices_IndexFunc_Range_impl_goodRanges_1.F) (lb := slices_IndexFunc_Range_impl_goodRanges_1.lb) (st := slices_IndexFunc_Range_impl_goodRanges_1.st) (step := slices_IndexFunc_Range_impl_goodRanges_1.step) (md := slices_IndexFunc_Range_impl_goodRanges_1.md) tabs slices_IndexFunc_Range_impl_goodRanges_1.text slices_IndexFunc_Range_impl_goodRanges_1.seg_eq (fun n x => ⟨.p0 x.1 x.2.1.1 x.2.1.2.1, rfl, rfl, rfl⟩) (consC impl_goodRanges_1.ok (nilC))

/-! slices.ContainsFunc[[]loop.example/g00039/impl.Range,loop.example/g00039/impl.Range] -/
def slices_ContainsFunc_Range_impl_goodRanges_1.T : List Ctr := [slices_IndexFunc_Range_impl_goodRanges_1.spec]
def slices_ContainsFunc_Range_impl_goodRanges_1.md : List (Nat × List Md) := [(110, [.v, .fn]), (106, [.v, .q (.int .i64), .q (.int .i64)]), (1000106, [.q (.int .i64), .q (.int .i64)])]
noncomputable def slices_ContainsFunc_Range_impl_goodRanges_1.F : Fun := ⟨(Go.Proofs.Try.f105.body).getD .skip, [.v (.sl false (.pair (.int .i64) (.pair (.int .i64) .unit))), .fn 106 [.q (.int .i64), .q (.int .i64)]], [(.tmp 4, .bool)], [], 0, []⟩
inductive slices_ContainsFunc_Range_impl_goodRanges_1.Pt where
  | p0 (a0 : List ((Int) × ((Int) × (Unit)))) (a1 : Int) (a2 : Int)
def slices_ContainsFunc_Range_impl_goodRanges_1.lb : slices_ContainsFunc_Range_impl_goodRanges_1.Pt → Nat
  | .p0 _ _ _ => 0
def slices_ContainsFunc_Range_impl_goodRanges_1.st : slices_ContainsFunc_Range_impl_goodRanges_1.Pt → St
  | .p0 a0 a1 a2 => enter [.v (.sl false (.pair (.int .i64) (.pair (.int .i64) .unit))) a0, .fn 106 [.q (.int .i64) a1, .q (.int .i64) a2]] 0
def slices_ContainsFunc_Range_impl_goodRanges_1.step (n : Nat) (K : slices_ContainsFunc_Range_impl_goodRanges_1.Pt → Option (Tup [.bool])) : slices_ContainsFunc_Range_impl_goodRanges_1.Pt → Option (Tup [.bool])
  | .p0 a0 a1 a2 => (slices_IndexFunc_Range_impl_goodRanges_1 n a0 (List.getD [a1] 0 default) (List.getD [a2] 0 default)).bind fun (r6 : Int) => some (decide ((0 : Int) ≤ r6))
def slices_ContainsFunc_Range_impl_goodRanges_1 (n : Nat) (a0 : List ((Int) × ((Int) × (Unit)))) (a1 : Int) (a2 : Int) : Option (Tup [.bool]) := goRec slices_ContainsFunc_Range_impl_goodRanges_1.step n (.p0 a0 a1 a2)
def slices_ContainsFunc_Range_impl_goodRanges_1.spec : Ctr := ⟨105, [.v (.sl false (.pair (.int .i64) (.pair (.int .i64) .unit))), .fn 106 [.q (.int .i64), .q (.int .i64)]], [.bool], [], fun n x => slices_ContainsFunc_Range_impl_goodRanges_1 n x.1 x.2.1.1 x.2.1.2.1⟩
theorem slices_ContainsFunc_Range_impl_goodRanges_1.seg_eq (n : Nat) (goto : Nat → St → Option (Tup [.bool])) (y : slices_ContainsFunc_Range_impl_goodRanges_1.Pt) : seg ⟨ty, gl, slices_ContainsFunc_Range_impl_goodRanges_1.md, calOf slices_ContainsFunc_Range_impl_goodRanges_1.T n⟩ slices_ContainsFunc_Range_impl_goodRanges_1.F.np slices_ContainsFunc_Range_impl_goodRanges_1.F.ks goto (slices_ContainsFunc_Range_impl_goodRanges_1.F.fin ⟨ty, gl, slices_ContainsFunc_Range_impl_goodRanges_1.md, calOf slices_ContainsFunc_Range_impl_goodRanges_1.T 0⟩ [.bool]) slices_ContainsFunc_Range_impl_goodRanges_1.F.c (slices_ContainsFunc_Range_impl_goodRanges_1.lb y) (slices_ContainsFunc_Range_impl_goodRanges_1.st y) = slices_ContainsFunc_Range_impl_goodRanges_1.step n (fun z => goto (slices_ContainsFunc_Range_impl_goodRanges_1.lb z) (slices_ContainsFunc_Range_impl_goodRanges_1.st z)) y := by
  cases y <;> kernel_rfl
theorem slices_ContainsFunc_Range_impl_goodRanges_1.text : Text Go.Proofs.Try.prog slices_ContainsFunc_Range_impl_goodRanges_1.F slices_ContainsFunc_Range_impl_goodRanges_1.spec := ⟨⟨Go.Proofs.Try.f105, by kernel_rfl, by kernel_rfl, by decide +kernel, by kernel_rfl, by kernel_rfl, of_decide_eq_true (by kernel_rfl)⟩, fun _ => rfl, fun _ => rfl, rfl⟩
theorem slices_ContainsFunc_Range_impl_goodRanges_1.ok : CtrOK Go.Proofs.Try.prog gl slices_ContainsFunc_Range_impl_goodRanges_1.spec :=
  ctr_ok (T := slices_ContainsFunc_Range_impl_goodRanges_1.T) (F := slices_ContainsFunc_Range_impl_goodRanges_1.F) (lb := slices_ContainsFunc_Range_impl_goodRanges_1.lb) (st := slices_ContainsFunc_Range_impl_goodRanges_1.st) (step := slices_ContainsFunc_Range_impl_goodRanges_1.step) (md := slices_ContainsFunc_Range_impl_goodRanges_1.md) tabs slices_ContainsFunc_Range_impl_goodRanges_1.text slices_ContainsFunc_Range_impl_goodRanges_1.seg_eq (fun n x => ⟨.p0 x.1 x.2.1.1 x.2.1.2.1, rfl, rfl, rfl⟩) (consC slices_IndexFunc_Range_impl_goodRanges_1.ok (nilC))

/-! loop.example/g00039/impl.goodRanges -/
def impl_goodRanges.T : List Ctr := [impl_goodRanges_1.spec, slices_ContainsFunc_Range_impl_goodRanges_1.spec]
def impl_goodRanges.md : List (Nat × List Md) := [(106, [.v, .q (.int .i64), .q (.int .i64)]), (1000106, [.q (.int .i64), .q (.int .i64)]), (105, [.v, .fn])]
noncomputable def impl_goodRanges.F : Fun := ⟨(Go.Proofs.Try.f80.body).getD .skip, [.v (.sl false (.pair (.int .i64) (.pair (.int .i64) .unit))), .v (.int .i64), .v (.int .i64)], [(.tmp 6, .bool)], [], 0, []⟩
inductive impl_goodRanges.Pt where
  | p0 (a0 : List ((Int) × ((Int) × (Unit)))) (a1 : Int) (a2 : Int)
def impl_goodRanges.lb : impl_goodRanges.Pt → Nat
  | .p0 _ _ _ => 0
def impl_goodRanges.st : impl_goodRanges.Pt → St
  | .p0 a0 a1 a2 => enter [.v (.sl false (.pair (.int .i64) (.pair (.int .i64) .unit))) a0, .v (.int .i64) a1, .v (.int .i64) a2] 0
def impl_goodRanges.step (n : Nat) (K : impl_goodRanges.Pt → Option (Tup [.bool])) : impl_goodRanges.Pt → Option (Tup [.bool])
  | .p0 a0 a1 a2 => cond (decide (((List.length a0) : Int) ≤ (10 : Int))) ((slices_ContainsFunc_Range_impl_goodRanges_1 n a0 a1 a2).bind fun r6 => some (!r6)) (some false)
def impl_goodRanges (n : Nat) (a0 : List ((Int) × ((Int) × (Unit)))) (a1 : Int) (a2 : Int) : Option (Tup [.bool]) := goRec impl_goodRanges.step n (.p0 a0 a1 a2)
def impl_goodRanges.spec : Ctr := ⟨80, [.v (.sl false (.pair (.int .i64) (.pair (.int .i64) .unit))), .v (.int .i64), .v (.int .i64)], [.bool], [], fun n x => impl_goodRanges n x.1 x.2.1 x.2.2.1⟩
theorem impl_goodRanges.seg_eq (n : Nat) (goto : Nat → St → Option (Tup [.bool])) (y : impl_goodRanges.Pt) : seg ⟨ty, gl, impl_goodRanges.md, calOf impl_goodRanges.T n⟩ impl_goodRanges.F.np impl_goodRanges.F.ks goto (impl_goodRanges.F.fin ⟨ty, gl, impl_goodRanges.md, calOf impl_goodRanges.T 0⟩ [.bool]) impl_goodRanges.F.c (impl_goodRanges.lb y) (impl_goodRanges.st y) = impl_goodRanges.step n (fun z => goto (impl_goodRanges.lb z) (impl_goodRanges.st z)) y := by
  cases y <;> kernel_rfl
theorem impl_goodRanges.text : Text Go.Proofs.Try.prog impl_goodRanges.F impl_goodRanges.spec := ⟨⟨Go.Proofs.Try.f80, by kernel_rfl, by kernel_rfl, by decide +kernel, by kernel_rfl, by kernel_rfl, of_decide_eq_true (by kernel_rfl)⟩, fun _ => rfl, fun _ => rfl, rfl⟩
theorem impl_goodRanges.ok : CtrOK Go.Proofs.Try.prog gl impl_goodRanges.spec :=
  ctr_ok (T := impl_goodRanges.T) (F := impl_goodRanges.F) (lb := impl_goodRanges.lb) (st := impl_goodRanges.st) (step := impl_goodRanges.step) (md := impl_goodRanges.md) tabs impl_goodRanges.text impl_goodRanges.seg_eq (fun n x => ⟨.p0 x.1 x.2.1 x.2.2.1, rfl, rfl, rfl⟩) (consC impl_goodRanges_1.ok (consC slices_ContainsFunc_Range_impl_goodRanges_1.ok (nilC)))

/-! loop.example/g00039/impl.rising[int] -/
def impl_rising_int.T : List Ctr := []
def impl_rising_int.md : List (Nat × List Md) := []
noncomputable def impl_rising_int.F : Fun := ⟨(Go.Proofs.Try.f81.body).getD .skip, [.v (.sl false (.int .i64))], [(.tmp 2, .bool)], [], 0, [(7, ⟨[0, 3], [], []⟩)]⟩
inductive impl_rising_int.Pt where
  | p0 (a0 : List (Int))
  | p7 (y1 : List (Int)) (y2 : Int)
def impl_rising_int.lb : impl_rising_int.Pt → Nat
  | .p0 _ => 0
  | .p7 _ _ => 7
def impl_rising_int.st : impl_rising_int.Pt → St
  | .p0 a0 => enter [.v (.sl false (.int .i64)) a0] 0
  | .p7 y1 y2 => ⟨[(0, .im (.sl false (.int .i64)) y1), (3, .im (.int .i64) y2)], [], 0⟩
def impl_rising_int.step (n : Nat) (K : impl_rising_int.Pt → Option (Tup [.bool])) : impl_rising_int.Pt → Option (Tup [.bool])
  | .p0 a0 => K (.p7 a0 (1 : Int))
  | .p7 y1 y2 => cond (decide (y2 < ((List.length y1) : Int))) (cond (inB (IntKind.wrap .i64 (y2 - (1 : Int))) (List.length y1)) (cond (inB y2 (List.length y1)) (cond (decide ((List.getD y1 (Int.toNat y2) default) ≤ (List.getD y1 (Int.toNat (IntKind.wrap .i64 (y2 - (1 : Int)))) default))) (some false) (K (.p7 y1 (IntKind.wrap .i64 (y2 + (1 : Int)))))) (none)) (none)) (some true)
def impl_rising_int (n : Nat) (a0 : List (Int)) : Option (Tup [.bool]) := goRec impl_rising_int.step n (.p0 a0)
def impl_rising_int.spec : Ctr := ⟨81, [.v (.sl false (.int .i64))], [.bool], [], fun n x => impl_rising_int n x.1⟩
theorem impl_rising_int.seg_eq (n : Nat) (goto : Nat → St → Option (Tup [.bool])) (y : impl_rising_int.Pt) : seg ⟨ty, gl, impl_rising_int.md, calOf impl_rising_int.T n⟩ impl_rising_int.F.np impl_rising_int.F.ks goto (impl_rising_int.F.fin ⟨ty, gl, impl_rising_int.md, calOf impl_rising_int.T 0⟩ [.bool]) impl_rising_int.F.c (impl_rising_int.lb y) (impl_rising_int.st y) = impl_rising_int.step n (fun z => goto (impl_rising_int.lb z) (impl_rising_int.st z)) y := by
  cases y <;> kernel_rfl
theorem impl_rising_int.text : Text Go.Proofs.Try.prog impl_rising_int.F impl_rising_int.spec := ⟨⟨Go.Proofs.Try.f81, by kernel_rfl, by kernel_rfl, by decide +kernel, by kernel_rfl, by kernel_rfl, of_decide_eq_true (by kernel_rfl)⟩, fun _ => rfl, fun _ => rfl, rfl⟩
theorem impl_rising_int.ok : CtrOK Go.Proofs.Try.prog gl impl_rising_int.spec :=
  ctr_ok (T := impl_rising_int.T) (F := impl_rising_int.F) (lb := impl_rising_int.lb) (st := impl_rising_int.st) (step := impl_rising_int.step) (md := impl_rising_int.md) tabs impl_rising_int.text impl_rising_int.seg_eq (fun n x => ⟨.p0 x.1, rfl, rfl, rfl⟩) (nilC)

/-! loop.example/g00039/impl.GoodInterval -/
def impl_GoodInterval.T : List Ctr := [impl_goodRanges.spec, impl_rising_int.spec]
def impl_GoodInterval.md : List (Nat × List Md) := []
noncomputable def impl_GoodInterval.F : Fun := ⟨(Go.Proofs.Try.f40.body).getD .skip, [.v (.pair (.int .i64) (.pair (.sl false (.pair (.int .i64) (.pair (.int .i64) .unit))) (.pair (.sl false (.pair (.int .i64) (.pair (.int .i64) .unit))) (.pair (.sl false (.pair (.int .i64) (.pair (.int .i64) .unit))) (.pair (.sl false (.pair (.int .i64) (.pair (.int .i64) .unit))) (.pair (.sl false (.pair (.int .i64) (.pair (.int .i64) .unit))) (.pair (.sl false (.int .i64)) .unit)))))))], [(.tmp 2, .bool)], [], 0, [(3, ⟨[1, 3], [], [(1, 1, (.pair (.int .i64) (.pair (.int .i64) .unit))), (1, 2, (.pair (.int .i64) (.pair (.int .i64) .unit))), (1, 3, (.pair (.int .i64) (.pair (.int .i64) .unit))), (1, 4, (.pair (.int .i64) (.pair (.int .i64) .unit))), (1, 5, (.pair (.int .i64) (.pair (.int .i64) .unit))), (1, 6, (.int .i64))]⟩), (9, ⟨[1, 3, 53, 54, 55], [(53, (.pair (.int .i64) (.pair (.int .i64) .unit)))], [(1, 1, (.pair (.int .i64) (.pair (.int .i64) .unit))), (1, 2, (.pair (.int .i64) (.pair (.int .i64) .unit))), (1, 3, (.pair (.int .i64) (.pair (.int .i64) .unit))), (1, 4, (.pair (.int .i64) (.pair (.int .i64) .unit))), (1, 5, (.pair (.int .i64) (.pair (.int .i64) .unit))), (1, 6, (.int .i64))]⟩), (26, ⟨[3, 72, 73, 74], [(72, (.int .i64))], []⟩)]⟩
inductive impl_GoodInterval.Pt where
  | p0 (a0 : (Int) × ((List ((Int) × ((Int) × (Unit)))) × ((List ((Int) × ((Int) × (Unit)))) × ((List ((Int) × ((Int) × (Unit)))) × ((List ((Int) × ((Int) × (Unit)))) × ((List ((Int) × ((Int) × (Unit)))) × ((List (Int)) × (Unit))))))))
  | p3 (y1 : Bool) (y2 : Int) (y3 : List ((Int) × ((Int) × (Unit)))) (y4 : List ((Int) × ((Int) × (Unit)))) (y5 : List ((Int) × ((Int) × (Unit)))) (y6 : List ((Int) × ((Int) × (Unit)))) (y7 : List ((Int) × ((Int) × (Unit)))) (y8 : List (Int))
  | p9 (y1 : Bool) (y2 : List ((Int) × ((Int) × (Unit)))) (y3 : Int) (y4 : Int) (y5 : Int) (y6 : List ((Int) × ((Int) × (Unit)))) (y7 : List ((Int) × ((Int) × (Unit)))) (y8 : List ((Int) × ((Int) × (Unit)))) (y9 : List ((Int) × ((Int) × (Unit)))) (y10 : List ((Int) × ((Int) × (Unit)))) (y11 : List (Int))
  | p26 (y1 : Bool) (y2 : List (Int)) (y3 : Int) (y4 : Int)
def impl_GoodInterval.lb : impl_GoodInterval.Pt → Nat
  | .p0 _ => 0
  | .p3 _ _ _ _ _ _ _ _ => 3
  | .p9 _ _ _ _ _ _ _ _ _ _ _ => 9
  | .p26 _ _ _ _ => 26
def impl_GoodInterval.st : impl_GoodInterval.Pt → St
  | .p0 a0 => enter [.v (.pair (.int .i64) (.pair (.sl false (.pair (.int .i64) (.pair (.int .i64) .unit))) (.pair (.sl false (.pair (.int .i64) (.pair (.int .i64) .unit))) (.pair (.sl false (.pair (.int .i64) (.pair (.int .i64) .unit))) (.pair (.sl false (.pair (.int .i64) (.pair (.int .i64) .unit))) (.pair (.sl false (.pair (.int .i64) (.pair (.int .i64) .unit))) (.pair (.sl false (.int .i64)) .unit))))))) a0] 0
  | .p3 y1 y2 y3 y4 y5 y6 y7 y8 => ⟨[(1, .po 0 0), (3, .im .bool y1)], [(0, .obj [.im (.int .i64) y2, .im (.sl false (.pair (.int .i64) (.pair (.int .i64) .unit))) y3, .im (.sl false (.pair (.int .i64) (.pair (.int .i64) .unit))) y4, .im (.sl false (.pair (.int .i64) (.pair (.int .i64) .unit))) y5, .im (.sl false (.pair (.int .i64) (.pair (.int .i64) .unit))) y6, .im (.sl false (.pair (.int .i64) (.pair (.int .i64) .unit))) y7, .im (.sl false (.int .i64)) y8])], 1⟩
  | .p9 y1 y2 y3 y4 y5 y6 y7 y8 y9 y10 y11 => ⟨[(1, .po 0 0), (3, .im .bool y1), (53, .im (.sl false (.pair (.int .i64) (.pair (.int .i64) .unit))) y2), (54, .im (.int .i64) y3), (55, .im (.int .i64) y4)], [(0, .obj [.im (.int .i64) y5, .im (.sl false (.pair (.int .i64) (.pair (.int .i64) .unit))) y6, .im (.sl false (.pair (.int .i64) (.pair (.int .i64) .unit))) y7, .im (.sl false (.pair (.int .i64) (.pair (.int .i64) .unit))) y8, .im (.sl false (.pair (.int .i64) (.pair (.int .i64) .unit))) y9, .im (.sl false (.pair (.int .i64) (.pair (.int .i64) .unit))) y10, .im (.sl false (.int .i64)) y11])], 1⟩
  | .p26 y1 y2 y3 y4 => ⟨[(3, .im .bool y1), (72, .im (.sl false (.int .i64)) y2), (73, .im (.int .i64) y3), (74, .im (.int .i64) y4)], [], 0⟩
def impl_GoodInterval.step (n : Nat) (K : impl_GoodInterval.Pt → Option (Tup [.bool])) : impl_GoodInterval.Pt → Option (Tup [.bool])
  | .p0 a0 => cond (decide ((-(1440 : Int)) ≤ a0.1)) (cond (decide (a0.1 ≤ (1440 : Int))) ((impl_goodRanges n a0.2.1 (0 : Int) (1439 : Int)).bind fun r4 => cond r4 ((impl_goodRanges n a0.2.2.1 (0 : Int) (6 : Int)).bind fun r5 => cond r5 ((impl_goodRanges n a0.2.2.2.1 (-(31 : Int)) (31 : Int)).bind fun r6 => cond r6 ((impl_goodRanges n a0.2.2.2.2.1 (1 : Int) (12 : Int)).bind fun r7 => cond r7 ((impl_goodRanges n a0.2.2.2.2.2.1 (1970 : Int) (40000 : Int)).bind fun r8 => cond r8 (cond (decide (((List.length a0.2.2.2.2.2.2.1) : Int) ≤ (10 : Int))) ((impl_rising_int n a0.2.2.2.2.2.2.1).bind fun r9 => K (.p3 r9 a0.1 a0.2.1 a0.2.2.1 a0.2.2.2.1 a0.2.2.2.2.1 a0.2.2.2.2.2.1 a0.2.2.2.2.2.2.1)) (K (.p3 false a0.1 a0.2.1 a0.2.2.1 a0.2.2.2.1 a0.2.2.2.2.1 a0.2.2.2.2.2.1 a0.2.2.2.2.2.2.1))) (K (.p3 false a0.1 a0.2.1 a0.2.2.1 a0.2.2.2.1 a0.2.2.2.2.1 a0.2.2.2.2.2.1 a0.2.2.2.2.2.2.1))) (K (.p3 false a0.1 a0.2.1 a0.2.2.1 a0.2.2.2.1 a0.2.2.2.2.1 a0.2.2.2.2.2.1 a0.2.2.2.2.2.2.1))) (K (.p3 false a0.1 a0.2.1 a0.2.2.1 a0.2.2.2.1 a0.2.2.2.2.1 a0.2.2.2.2.2.1 a0.2.2.2.2.2.2.1))) (K (.p3 false a0.1 a0.2.1 a0.2.2.1 a0.2.2.2.1 a0.2.2.2.2.1 a0.2.2.2.2.2.1 a0.2.2.2.2.2.2.1))) (K (.p3 false a0.1 a0.2.1 a0.2.2.1 a0.2.2.2.1 a0.2.2.2.2.1 a0.2.2.2.2.2.1 a0.2.2.2.2.2.2.1))) (K (.p3 false a0.1 a0.2.1 a0.2.2.1 a0.2.2.2.1 a0.2.2.2.2.1 a0.2.2.2.2.2.1 a0.2.2.2.2.2.2.1))) (K (.p3 false a0.1 a0.2.1 a0.2.2.1 a0.2.2.2.1 a0.2.2.2.2.1 a0.2.2.2.2.2.1 a0.2.2.2.2.2.2.1))
  | .p3 y1 y2 y3 y4 y5 y6 y7 y8 => K (.p9 y1 y5 ((List.length y5) : Int) (0 : Int) y2 y3 y4 y5 y6 y7 y8)
  | .p9 y1 y2 y3 y4 y5 y6 y7 y8 y9 y10 y11 => cond (decide (y4 < y3)) (cond (inB y4 (List.length y2)) (cond y1 (cond (decide ((0 : Int) < (List.getD y2 (Int.toNat y4) default).1)) (K (.p9 true y2 y3 (IntKind.wrap .i64 (y4 + (1 : Int))) y5 y6 y7 y8 y9 y10 y11)) (K (.p9 (decide ((List.getD y2 (Int.toNat y4) default).2.1 < (0 : Int))) y2 y3 (IntKind.wrap .i64 (y4 + (1 : Int))) y5 y6 y7 y8 y9 y10 y11))) (K (.p9 false y2 y3 (IntKind.wrap .i64 (y4 + (1 : Int))) y5 y6 y7 y8 y9 y10 y11))) (none)) (K (.p26 y1 y11 ((List.length y11) : Int) (0 : Int)))
  | .p26 y1 y2 y3 y4 => cond (decide (y4 < y3)) (cond (inB y4 (List.length y2)) (cond y1 (cond (decide ((0 : Int) ≤ (List.getD y2 (Int.toNat y4) default))) (K (.p26 (decide ((List.getD y2 (Int.toNat y4) default) ≤ (20000000 : Int))) y2 y3 (IntKind.wrap .i64 (y4 + (1 : Int))))) (K (.p26 false y2 y3 (IntKind.wrap .i64 (y4 + (1 : Int)))))) (K (.p26 false y2 y3 (IntKind.wrap .i64 (y4 + (1 : Int)))))) (none)) (some y1)
def impl_GoodInterval (n : Nat) (a0 : (Int) × ((List ((Int) × ((Int) × (Unit)))) × ((List ((Int) × ((Int) × (Unit)))) × ((List ((Int) × ((Int) × (Unit)))) × ((List ((Int) × ((Int) × (Unit)))) × ((List ((Int) × ((Int) × (Unit)))) × ((List (Int)) × (Unit)))))))) : Option (Tup [.bool]) := goRec impl_GoodInterval.step n (.p0 a0)
def impl_GoodInterval.spec : Ctr := ⟨40, [.v (.pair (.int .i64) (.pair (.sl false (.pair (.int .i64) (.pair (.int .i64) .unit))) (.pair (.sl false (.pair (.int .i64) (.pair (.int .i64) .unit))) (.pair (.sl false (.pair (.int .i64) (.pair (.int .i64) .unit))) (.pair (.sl false (.pair (.int .i64) (.pair (.int .i64) .unit))) (.pair (.sl false (.pair (.int .i64) (.pair (.int .i64) .unit))) (.pair (.sl false (.int .i64)) .unit)))))))], [.bool], [], fun n x => impl_GoodInterval n x.1⟩
theorem impl_GoodInterval.seg_eq (n : Nat) (goto : Nat → St → Option (Tup [.bool])) (y : impl_GoodInterval.Pt) : seg ⟨ty, gl, impl_GoodInterval.md, calOf impl_GoodInterval.T n⟩ impl_GoodInterval.F.np impl_GoodInterval.F.ks goto (impl_GoodInterval.F.fin ⟨ty, gl, impl_GoodInterval.md, calOf impl_GoodInterval.T 0⟩ [.bool]) impl_GoodInterval.F.c (impl_GoodInterval.lb y) (impl_GoodInterval.st y) = impl_GoodInterval.step n (fun z => goto (impl_GoodInterval.lb z) (impl_GoodInterval.st z)) y := by
  cases y <;> kernel_rfl
theorem impl_GoodInterval.text : Text Go.Proofs.Try.prog impl_GoodInterval.F impl_GoodInterval.spec := ⟨⟨Go.Proofs.Try.f40, by kernel_rfl, by kernel_rfl, by decide +kernel, by kernel_rfl, by kernel_rfl, of_decide_eq_true (by kernel_rfl)⟩, fun _ => rfl, fun _ => rfl, rfl⟩
theorem impl_GoodInterval.ok : CtrOK Go.Proofs.Try.prog gl impl_GoodInterval.spec :=
  ctr_ok (T := impl_GoodInterval.T) (F := impl_GoodInterval.F) (lb := impl_GoodInterval.lb) (st := impl_GoodInterval.st) (step := impl_GoodInterval.step) (md := impl_GoodInterval.md) tabs impl_GoodInterval.text impl_GoodInterval.seg_eq (fun n x => ⟨.p0 x.1, rfl, rfl, rfl⟩) (consC impl_goodRanges.ok (consC impl_rising_int.ok (nilC)))

/-! loop.example/g00039/impl.isTime -/
def impl_isTime.T : List Ctr := []
def impl_isTime.md : List (Nat × List Md) := []
noncomputable def impl_isTime.F : Fun := ⟨(Go.Proofs.Try.f34.body).getD .skip, [.v (.int .i64)], [(.tmp 2, .bool)], [], 0, []⟩
inductive impl_isTime.Pt where
  | p0 (a0 : Int)
def impl_isTime.lb : impl_isTime.Pt → Nat
  | .p0 _ => 0
def impl_isTime.st : impl_isTime.Pt → St
  | .p0 a0 => enter [.v (.int .i64) a0] 0
def impl_isTime.step (n : Nat) (K : impl_isTime.Pt → Option (Tup [.bool])) : impl_isTime.Pt → Option (Tup [.bool])
  | .p0 a0 => cond (decide ((0 : Int) ≤ a0)) (some (decide (a0 ≤ (1000000000000 : Int)))) (some false)
def impl_isTime (n : Nat) (a0 : Int) : Option (Tup [.bool]) := goRec impl_isTime.step n (.p0 a0)
def impl_isTime.spec : Ctr := ⟨34, [.v (.int .i64)], [.bool], [], fun n x => impl_isTime n x.1⟩
theorem impl_isTime.seg_eq (n : Nat) (goto : Nat → St → Option (Tup [.bool])) (y : impl_isTime.Pt) : seg ⟨ty, gl, impl_isTime.md, calOf impl_isTime.T n⟩ impl_isTime.F.np impl_isTime.F.ks goto (impl_isTime.F.fin ⟨ty, gl, impl_isTime.md, calOf impl_isTime.T 0⟩ [.bool]) impl_isTime.F.c (impl_isTime.lb y) (impl_isTime.st y) = impl_isTime.step n (fun z => goto (impl_isTime.lb z) (impl_isTime.st z)) y := by
  cases y <;> kernel_rfl
theorem impl_isTime.text : Text Go.Proofs.Try.prog impl_isTime.F impl_isTime.spec := ⟨⟨Go.Proofs.Try.f34, by kernel_rfl, by kernel_rfl, by decide +kernel, by kernel_rfl, by kernel_rfl, of_decide_eq_true (by kernel_rfl)⟩, fun _ => rfl, fun _ => rfl, rfl⟩
theorem impl_isTime.ok : CtrOK Go.Proofs.Try.prog gl impl_isTime.spec :=
  ctr_ok (T := impl_isTime.T) (F := impl_isTime.F) (lb := impl_isTime.lb) (st := impl_isTime.st) (step := impl_isTime.step) (md := impl_isTime.md) tabs impl_isTime.text impl_isTime.seg_eq (fun n x => ⟨.p0 x.1, rfl, rfl, rfl⟩) (nilC)

/-! loop.example/g00039/impl.daysTo -/
def impl_daysTo.T : List Ctr := []
def impl_daysTo.md : List (Nat × List Md) := []
noncomputable def impl_daysTo.F : Fun := ⟨(Go.Proofs.Try.f82.body).getD .skip, [.v (.int .i64)], [(.tmp 2, (.int .i64))], [], 0, []⟩
inductive impl_daysTo.Pt where
  | p0 (a0 : Int)
def impl_daysTo.lb : impl_daysTo.Pt → Nat
  | .p0 _ => 0
def impl_daysTo.st : impl_daysTo.Pt → St
  | .p0 a0 => enter [.v (.int .i64) a0] 0
def impl_daysTo.step (n : Nat) (K : impl_daysTo.Pt → Option (Tup [(.int .i64)])) : impl_daysTo.Pt → Option (Tup [(.int .i64)])
  | .p0 a0 => some (IntKind.wrap .i64 ((IntKind.wrap .i64 ((IntKind.wrap .i64 ((IntKind.wrap .i64 (a0 - (1970 : Int))) * (365 : Int))) + (IntKind.wrap .i64 ((IntKind.wrap .i64 ((IntKind.wrap .i64 (Int.tdiv (IntKind.wrap .i64 (a0 - (1 : Int))) (4 : Int))) - (IntKind.wrap .i64 (Int.tdiv (IntKind.wrap .i64 (a0 - (1 : Int))) (100 : Int))))) + (IntKind.wrap .i64 (Int.tdiv (IntKind.wrap .i64 (a0 - (1 : Int))) (400 : Int))))))) - (477 : Int)))
def impl_daysTo (n : Nat) (a0 : Int) : Option (Tup [(.int .i64)]) := goRec impl_daysTo.step n (.p0 a0)
def impl_daysTo.spec : Ctr := ⟨82, [.v (.int .i64)], [(.int .i64)], [], fun n x => impl_daysTo n x.1⟩
theorem impl_daysTo.seg_eq (n : Nat) (goto : Nat → St → Option (Tup [(.int .i64)])) (y : impl_daysTo.Pt) : seg ⟨ty, gl, impl_daysTo.md, calOf impl_daysTo.T n⟩ impl_daysTo.F.np impl_daysTo.F.ks goto (impl_daysTo.F.fin ⟨ty, gl, impl_daysTo.md, calOf impl_daysTo.T 0⟩ [(.int .i64)]) impl_daysTo.F.c (impl_daysTo.lb y) (impl_daysTo.st y) = impl_daysTo.step n (fun z => goto (impl_daysTo.lb z) (impl_daysTo.st z)) y := by
  cases y <;> kernel_rfl
theorem impl_daysTo.text : Text Go.Proofs.Try.prog impl_daysTo.F impl_daysTo.spec := ⟨⟨Go.Proofs.Try.f82, by kernel_rfl, by kernel_rfl, by decide +kernel, by kernel_rfl, by kernel_rfl, of_decide_eq_true (by kernel_rfl)⟩, fun _ => rfl, fun _ => rfl, rfl⟩
theorem impl_daysTo.ok : CtrOK Go.Proofs.Try.prog gl impl_daysTo.spec :=
  ctr_ok (T := impl_daysTo.T) (F := impl_daysTo.F) (lb := impl_daysTo.lb) (st := impl_daysTo.st) (step := impl_daysTo.step) (md := impl_daysTo.md) tabs impl_daysTo.text impl_daysTo.seg_eq (fun n x => ⟨.p0 x.1, rfl, rfl, rfl⟩) (nilC)

/-! loop.example/g00039/impl.leap -/
def impl_leap.T : List Ctr := []
def impl_leap.md : List (Nat × List Md) := []
noncomputable def impl_leap.F : Fun := ⟨(Go.Proofs.Try.f107.body).getD .skip, [.v (.int .i64)], [(.tmp 2, .bool)], [], 0, []⟩
inductive impl_leap.Pt where
  | p0 (a0 : Int)
def impl_leap.lb : impl_leap.Pt → Nat
  | .p0 _ => 0
def impl_leap.st : impl_leap.Pt → St
  | .p0 a0 => enter [.v (.int .i64) a0] 0
def impl_leap.step (n : Nat) (K : impl_leap.Pt → Option (Tup [.bool])) : impl_leap.Pt → Option (Tup [.bool])
  | .p0 a0 => cond (decide ((Int.tmod a0 (4 : Int)) = (0 : Int))) (cond (!(decide ((Int.tmod a0 (100 : Int)) = (0 : Int)))) (some true) (some (decide ((Int.tmod a0 (400 : Int)) = (0 : Int))))) (some false)
def impl_leap (n : Nat) (a0 : Int) : Option (Tup [.bool]) := goRec impl_leap.step n (.p0 a0)
def impl_leap.spec : Ctr := ⟨107, [.v (.int .i64)], [.bool], [], fun n x => impl_leap n x.1⟩
theorem impl_leap.seg_eq (n : Nat) (goto : Nat → St → Option (Tup [.bool])) (y : impl_leap.Pt) : seg ⟨ty, gl, impl_leap.md, calOf impl_leap.T n⟩ impl_leap.F.np impl_leap.F.ks goto (impl_leap.F.fin ⟨ty, gl, impl_leap.md, calOf impl_leap.T 0⟩ [.bool]) impl_leap.F.c (impl_leap.lb y) (impl_leap.st y) = impl_leap.step n (fun z => goto (impl_leap.lb z) (impl_leap.st z)) y := by
  cases y <;> kernel_rfl
theorem impl_leap.text : Text Go.Proofs.Try.prog impl_leap.F impl_leap.spec := ⟨⟨Go.Proofs.Try.f107, by kernel_rfl, by kernel_rfl, by decide +kernel, by kernel_rfl, by kernel_rfl, of_decide_eq_true (by kernel_rfl)⟩, fun _ => rfl, fun _ => rfl, rfl⟩
theorem impl_leap.ok : CtrOK Go.Proofs.Try.prog gl impl_leap.spec :=
  ctr_ok (T := impl_leap.T) (F := impl_leap.F) (lb := impl_leap.lb) (st := impl_leap.st) (step := impl_leap.step) (md := impl_leap.md) tabs impl_leap.text impl_leap.seg_eq (fun n x => ⟨.p0 x.1, rfl, rfl, rfl⟩) (nilC)

/-! loop.example/g00039/impl.daysIn -/
def impl_daysIn.T : List Ctr := [impl_leap.spec]
def impl_daysIn.md : List (Nat × List Md) := []
noncomputable def impl_daysIn.F : Fun := ⟨(Go.Proofs.Try.f83.body).getD .skip, [.v (.int .i64), .v (.int .i64)], [(.tmp 4, (.int .i64))], [], 0, []⟩
inductive impl_daysIn.Pt where
  | p0 (a0 : Int) (a1 : Int)
def impl_daysIn.lb : impl_daysIn.Pt → Nat
  | .p0 _ _ => 0
def impl_daysIn.st : impl_daysIn.Pt → St
  | .p0 a0 a1 => enter [.v (.int .i64) a0, .v (.int .i64) a1] 0
def impl_daysIn.step (n : Nat) (K : impl_daysIn.Pt → Option (Tup [(.int .i64)])) : impl_daysIn.Pt → Option (Tup [(.int .i64)])
  | .p0 a0 a1 => cond (decide (a1 = (2 : Int))) ((impl_leap n a0).bind fun r5 => cond r5 (some (29 : Int)) (cond (inB a1 13) (some (List.getD (List.set (List.set (List.set (List.set (List.set (List.set (List.set (List.set (List.set (List.set (List.set (List.set (List.set (List.replicate 13 (default : Int)) 0 (0 : Int)) 1 (31 : Int)) 2 (28 : Int)) 3 (31 : Int)) 4 (30 : Int)) 5 (31 : Int)) 6 (30 : Int)) 7 (31 : Int)) 8 (31 : Int)) 9 (30 : Int)) 10 (31 : Int)) 11 (30 : Int)) 12 (31 : Int)) (Int.toNat a1) default)) (none))) (cond (inB a1 13) (some (List.getD (List.set (List.set (List.set (List.set (List.set (List.set (List.set (List.set (List.set (List.set (List.set (List.set (List.set (List.replicate 13 (default : Int)) 0 (0 : Int)) 1 (31 : Int)) 2 (28 : Int)) 3 (31 : Int)) 4 (30 : Int)) 5 (31 : Int)) 6 (30 : Int)) 7 (31 : Int)) 8 (31 : Int)) 9 (30 : Int)) 10 (31 : Int)) 11 (30 : Int)) 12 (31 : Int)) (Int.toNat a1) default)) (none))
def impl_daysIn (n : Nat) (a0 : Int) (a1 : Int) : Option (Tup [(.int .i64)]) := goRec impl_daysIn.step n (.p0 a0 a1)
def impl_daysIn.spec : Ctr := ⟨83, [.v (.int .i64), .v (.int .i64)], [(.int .i64)], [], fun n x => impl_daysIn n x.1 x.2.1⟩
theorem impl_daysIn.seg_eq (n : Nat) (goto : Nat → St → Option (Tup [(.int .i64)])) (y : impl_daysIn.Pt) : seg ⟨ty, gl, impl_daysIn.md, calOf impl_daysIn.T n⟩ impl_daysIn.F.np impl_daysIn.F.ks goto (impl_daysIn.F.fin ⟨ty, gl, impl_daysIn.md, calOf impl_daysIn.T 0⟩ [(.int .i64)]) impl_daysIn.F.c (impl_daysIn.lb y) (impl_daysIn.st y) = impl_daysIn.step n (fun z => goto (impl_daysIn.lb z) (impl_daysIn.st z)) y := by
  cases y <;> kernel_rfl
theorem impl_daysIn.text : Text Go.Proofs.Try.prog impl_daysIn.F impl_daysIn.spec := ⟨⟨Go.Proofs.Try.f83, by kernel_rfl, by kernel_rfl, by decide +kernel, by kernel_rfl, by kernel_rfl, of_decide_eq_true (by kernel_rfl)⟩, fun _ => rfl, fun _ => rfl, rfl⟩
theorem impl_daysIn.ok : CtrOK Go.Proofs.Try.prog gl impl_daysIn.spec :=
  ctr_ok (T := impl_daysIn.T) (F := impl_daysIn.F) (lb := impl_daysIn.lb) (st := impl_daysIn.st) (step := impl_daysIn.step) (md := impl_daysIn.md) tabs impl_daysIn.text impl_daysIn.seg_eq (fun n x => ⟨.p0 x.1 x.2.1, rfl, rfl, rfl⟩) (consC impl_leap.ok (nilC))

/-! loop.example/g00039/impl.DateOf -/
def impl_DateOf.T : List Ctr := [impl_isTime.spec, impl_daysTo.spec, impl_daysIn.spec]
def impl_DateOf.md : List (Nat × List Md) := []
noncomputable def impl_DateOf.F : Fun := ⟨(Go.Proofs.Try.f41.body).getD .skip, [.v (.int .i64), .v (.int .i64)], [(.cell 4 39, (.pair (.int .i64) (.pair (.int .i64) (.pair (.int .i64) (.pair (.int .i64) (.pair (.int .i64) (.pair (.int .i64) .unit)))))))], [], 0, [(4, ⟨[0, 1, 4, 26], [], []⟩), (19, ⟨[0, 4, 5, 6], [], []⟩), (34, ⟨[0, 4, 5, 6, 7, 8], [], []⟩)]⟩
inductive impl_DateOf.Pt where
  | p0 (a0 : Int) (a1 : Int)
  | p4 (y1 : Int) (y2 : Int) (y3 : Bool) (y4 : Int) (y5 : Int) (y6 : Int) (y7 : Int) (y8 : Int) (y9 : Int)
  | p19 (y1 : Int) (y2 : Int) (y3 : Int) (y4 : Int) (y5 : Int) (y6 : Int) (y7 : Int) (y8 : Int) (y9 : Int)
  | p34 (y1 : Int) (y2 : Int) (y3 : Int) (y4 : Int) (y5 : Int) (y6 : Int) (y7 : Int) (y8 : Int) (y9 : Int) (y10 : Int) (y11 : Int)
def impl_DateOf.lb : impl_DateOf.Pt → Nat
  | .p0 _ _ => 0
  | .p4 _ _ _ _ _ _ _ _ _ => 4
  | .p19 _ _ _ _ _ _ _ _ _ => 19
  | .p34 _ _ _ _ _ _ _ _ _ _ _ => 34
def impl_DateOf.st : impl_DateOf.Pt → St
  | .p0 a0 a1 => enter [.v (.int .i64) a0, .v (.int .i64) a1] 0
  | .p4 y1 y2 y3 y4 y5 y6 y7 y8 y9 => ⟨[(0, .im (.int .i64) y1), (1, .im (.int .i64) y2), (4, .po 0 0), (26, .im .bool y3)], [(0, .obj [.im (.int .i64) y4, .im (.int .i64) y5, .im (.int .i64) y6, .im (.int .i64) y7, .im (.int .i64) y8, .im (.int .i64) y9])], 1⟩
  | .p19 y1 y2 y3 y4 y5 y6 y7 y8 y9 => ⟨[(0, .im (.int .i64) y1), (4, .po 0 0), (5, .im (.int .i64) y2), (6, .im (.int .i64) y3)], [(0, .obj [.im (.int .i64) y4, .im (.int .i64) y5, .im (.int .i64) y6, .im (.int .i64) y7, .im (.int .i64) y8, .im (.int .i64) y9])], 1⟩
  | .p34 y1 y2 y3 y4 y5 y6 y7 y8 y9 y10 y11 => ⟨[(0, .im (.int .i64) y1), (4, .po 0 0), (5, .im (.int .i64) y2), (6, .im (.int .i64) y3), (7, .im (.int .i64) y4), (8, .im (.int .i64) y5)], [(0, .obj [.im (.int .i64) y6, .im (.int .i64) y7, .im (.int .i64) y8, .im (.int .i64) y9, .im (.int .i64) y10, .im (.int .i64) y11])], 1⟩
def impl_DateOf.step (n : Nat) (K : impl_DateOf.Pt → Option (Tup [(.pair (.int .i64) (.pair (.int .i64) (.pair (.int .i64) (.pair (.int .i64) (.pair (.int .i64) (.pair (.int .i64) .unit))))))])) : impl_DateOf.Pt → Option (Tup [(.pair (.int .i64) (.pair (.int .i64) (.pair (.int .i64) (.pair (.int .i64) (.pair (.int .i64) (.pair (.int .i64) .unit))))))])
  | .p0 a0 a1 => (impl_isTime n a0).bind fun r5 => cond (!r5) (K (.p4 a0 a1 true (default : Int) (default : Int) (default : Int) (default : Int) (default : Int) (default : Int))) (cond (decide (a1 < (-(1440 : Int)))) (K (.p4 a0 a1 true (default : Int) (default : Int) (default : Int) (default : Int) (default : Int) (default : Int))) (cond (decide ((1440 : Int) < a1)) (K (.p4 a0 a1 true (default : Int) (default : Int) (default : Int) (default : Int) (default : Int) (default : Int))) (K (.p4 a0 a1 (decide ((IntKind.wrap .i64 (a0 + (IntKind.wrap .i64 ((60 : Int) * a1)))) < (0 : Int))) (default : Int) (default : Int) (default : Int) (default : Int) (default : Int) (default : Int)))))
  | .p4 y1 y2 y3 y4 y5 y6 y7 y8 y9 => cond y3 (some (default : (Int) × ((Int) × ((Int) × ((Int) × ((Int) × ((Int) × (Unit)))))))) (K (.p19 (IntKind.wrap .i64 (y1 + (IntKind.wrap .i64 ((60 : Int) * y2)))) (IntKind.wrap .i64 (Int.tdiv (IntKind.wrap .i64 (y1 + (IntKind.wrap .i64 ((60 : Int) * y2)))) (86400 : Int))) (IntKind.wrap .i64 ((1970 : Int) + (IntKind.wrap .i64 (Int.tdiv (IntKind.wrap .i64 (Int.tdiv (IntKind.wrap .i64 (y1 + (IntKind.wrap .i64 ((60 : Int) * y2)))) (86400 : Int))) (366 : Int))))) y4 y5 y6 y7 y8 y9))
  | .p19 y1 y2 y3 y4 y5 y6 y7 y8 y9 => (impl_daysTo n (IntKind.wrap .i64 (y3 + (1 : Int)))).bind fun (r12 : Int) => cond (decide (r12 ≤ y2)) (K (.p19 y1 y2 (IntKind.wrap .i64 (y3 + (1 : Int))) y4 y5 y6 y7 y8 y9)) ((impl_daysTo n y3).bind fun (r13 : Int) => K (.p34 y1 y2 y3 (IntKind.wrap .i64 (y2 - r13)) (1 : Int) y4 y5 y6 y7 y8 y9))
  | .p34 y1 y2 y3 y4 y5 y6 y7 y8 y9 y10 y11 => (impl_daysIn n y3 y5).bind fun (r14 : Int) => cond (decide (r14 ≤ y4)) ((impl_daysIn n y3 y5).bind fun (r15 : Int) => K (.p34 y1 y2 y3 (IntKind.wrap .i64 (y4 - r15)) (IntKind.wrap .i64 (y5 + (1 : Int))) y6 y7 y8 y9 y10 y11)) ((impl_daysIn n y3 y5).bind fun (r15 : Int) => some (y3, (y5, ((IntKind.wrap .i64 (y4 + (1 : Int))), (r15, ((Int.tmod (IntKind.wrap .i64 (y2 + (4 : Int))) (7 : Int)), ((IntKind.wrap .i64 (Int.tdiv (Int.tmod y1 (86400 : Int)) (60 : Int))), ())))))))
def impl_DateOf (n : Nat) (a0 : Int) (a1 : Int) : Option (Tup [(.pair (.int .i64) (.pair (.int .i64) (.pair (.int .i64) (.pair (.int .i64) (.pair (.int .i64) (.pair (.int .i64) .unit))))))]) := goRec impl_DateOf.step n (.p0 a0 a1)
def impl_DateOf.spec : Ctr := ⟨41, [.v (.int .i64), .v (.int .i64)], [(.pair (.int .i64) (.pair (.int .i64) (.pair (.int .i64) (.pair (.int .i64) (.pair (.int .i64) (.pair (.int .i64) .unit))))))], [], fun n x => impl_DateOf n x.1 x.2.1⟩
theorem impl_DateOf.seg_eq (n : Nat) (goto : Nat → St → Option (Tup [(.pair (.int .i64) (.pair (.int .i64) (.pair (.int .i64) (.pair (.int .i64) (.pair (.int .i64) (.pair (.int .i64) .unit))))))])) (y : impl_DateOf.Pt) : seg ⟨ty, gl, impl_DateOf.md, calOf impl_DateOf.T n⟩ impl_DateOf.F.np impl_DateOf.F.ks goto (impl_DateOf.F.fin ⟨ty, gl, impl_DateOf.md, calOf impl_DateOf.T 0⟩ [(.pair (.int .i64) (.pair (.int .i64) (.pair (.int .i64) (.pair (.int .i64) (.pair (.int .i64) (.pair (.int .i64) .unit))))))]) impl_DateOf.F.c (impl_DateOf.lb y) (impl_DateOf.st y) = impl_DateOf.step n (fun z => goto (impl_DateOf.lb z) (impl_DateOf.st z)) y := by
  cases y <;> kernel_rfl
theorem impl_DateOf.text : Text Go.Proofs.Try.prog impl_DateOf.F impl_DateOf.spec := ⟨⟨Go.Proofs.Try.f41, by kernel_rfl, by kernel_rfl, by decide +kernel, by kernel_rfl, by kernel_rfl, of_decide_eq_true (by kernel_rfl)⟩, fun _ => rfl, fun _ => rfl, rfl⟩
theorem impl_DateOf.ok : CtrOK Go.Proofs.Try.prog gl impl_DateOf.spec :=
  ctr_ok (T := impl_DateOf.T) (F := impl_DateOf.F) (lb := impl_DateOf.lb) (st := impl_DateOf.st) (step := impl_DateOf.step) (md := impl_DateOf.md) tabs impl_DateOf.text impl_DateOf.seg_eq (fun n x => ⟨.p0 x.1 x.2.1, rfl, rfl, rfl⟩) (consC impl_isTime.ok (consC impl_daysTo.ok (consC impl_daysIn.ok (nilC))))

/-! loop.example/g00039/impl.inRanges -/
def impl_inRanges.T : List Ctr := []
def impl_inRanges.md : List (Nat × List Md) := []
noncomputable def impl_inRanges.F : Fun := ⟨(Go.Proofs.Try.f42.body).getD .skip, [.v (.sl false (.pair (.int .i64) (.pair (.int .i64) .unit))), .v (.sl false (.int .i64))], [(.tmp 4, .bool)], [], 0, [(15, ⟨[1, 12, 13, 14], [(12, (.pair (.int .i64) (.pair (.int .i64) .unit)))], []⟩), (29, ⟨[1, 6, 12, 13, 14, 18, 19, 20], [(12, (.pair (.int .i64) (.pair (.int .i64) .unit))), (18, (.int .i64))], []⟩)]⟩
inductive impl_inRanges.Pt where
  | p0 (a0 : List ((Int) × ((Int) × (Unit)))) (a1 : List (Int))
  | p15 (y1 : List (Int)) (y2 : List ((Int) × ((Int) × (Unit)))) (y3 : Int) (y4 : Int)
  | p29 (y1 : List (Int)) (y2 : List ((Int) × ((Int) × (Unit)))) (y3 : Int) (y4 : Int) (y5 : List (Int)) (y6 : Int) (y7 : Int) (y8 : Int) (y9 : Int)
def impl_inRanges.lb : impl_inRanges.Pt → Nat
  | .p0 _ _ => 0
  | .p15 _ _ _ _ => 15
  | .p29 _ _ _ _ _ _ _ _ _ => 29
def impl_inRanges.st : impl_inRanges.Pt → St
  | .p0 a0 a1 => enter [.v (.sl false (.pair (.int .i64) (.pair (.int .i64) .unit))) a0, .v (.sl false (.int .i64)) a1] 0
  | .p15 y1 y2 y3 y4 => ⟨[(1, .im (.sl false (.int .i64)) y1), (12, .im (.sl false (.pair (.int .i64) (.pair (.int .i64) .unit))) y2), (13, .im (.int .i64) y3), (14, .im (.int .i64) y4)], [], 0⟩
  | .p29 y1 y2 y3 y4 y5 y6 y7 y8 y9 => ⟨[(1, .im (.sl false (.int .i64)) y1), (6, .po 0 0), (12, .im (.sl false (.pair (.int .i64) (.pair (.int .i64) .unit))) y2), (13, .im (.int .i64) y3), (14, .im (.int .i64) y4), (18, .im (.sl false (.int .i64)) y5), (19, .im (.int .i64) y6), (20, .im (.int .i64) y7)], [(0, .obj [.im (.int .i64) y8, .im (.int .i64) y9])], 1⟩
def impl_inRanges.step (n : Nat) (K : impl_inRanges.Pt → Option (Tup [.bool])) : impl_inRanges.Pt → Option (Tup [.bool])
  | .p0 a0 a1 => cond (decide (((List.length a0) : Int) = (0 : Int))) (some true) (K (.p15 a1 a0 ((List.length a0) : Int) (0 : Int)))
  | .p15 y1 y2 y3 y4 => cond (decide (y4 < y3)) (cond (inB y4 (List.length y2)) (K (.p29 y1 y2 y3 y4 y1 ((List.length y1) : Int) (0 : Int) (List.getD y2 (Int.toNat y4) default).1 (List.getD y2 (Int.toNat y4) default).2.1)) (none)) (some false)
  | .p29 y1 y2 y3 y4 y5 y6 y7 y8 y9 => cond (decide (y7 < y6)) (cond (inB y7 (List.length y5)) (cond (decide (y8 ≤ (List.getD y5 (Int.toNat y7) default))) (cond (decide ((List.getD y5 (Int.toNat y7) default) ≤ y9)) (some true) (K (.p29 y1 y2 y3 y4 y5 y6 (IntKind.wrap .i64 (y7 + (1 : Int))) y8 y9))) (K (.p29 y1 y2 y3 y4 y5 y6 (IntKind.wrap .i64 (y7 + (1 : Int))) y8 y9))) (none)) (K (.p15 y1 y2 y3 (IntKind.wrap .i64 (y4 + (1 : Int)))))
def impl_inRanges (n : Nat) (a0 : List ((Int) × ((Int) × (Unit)))) (a1 : List (Int)) : Option (Tup [.bool]) := goRec impl_inRanges.step n (.p0 a0 a1)
def impl_inRanges.spec : Ctr := ⟨42, [.v (.sl false (.pair (.int .i64) (.pair (.int .i64) .unit))), .v (.sl false (.int .i64))], [.bool], [], fun n x => impl_inRanges n x.1 x.2.1⟩
theorem impl_inRanges.seg_eq (n : Nat) (goto : Nat → St → Option (Tup [.bool])) (y : impl_inRanges.Pt) : seg ⟨ty, gl, impl_inRanges.md, calOf impl_inRanges.T n⟩ impl_inRanges.F.np impl_inRanges.F.ks goto (impl_inRanges.F.fin ⟨ty, gl, impl_inRanges.md, calOf impl_inRanges.T 0⟩ [.bool]) impl_inRanges.F.c (impl_inRanges.lb y) (impl_inRanges.st y) = impl_inRanges.step n (fun z => goto (impl_inRanges.lb z) (impl_inRanges.st z)) y := by
  cases y <;> kernel_rfl
theorem impl_inRanges.text : Text Go.Proofs.Try.prog impl_inRanges.F impl_inRanges.spec := ⟨⟨Go.Proofs.Try.f42, by kernel_rfl, by kernel_rfl, by decide +kernel, by kernel_rfl, by kernel_rfl, of_decide_eq_true (by kernel_rfl)⟩, fun _ => rfl, fun _ => rfl, rfl⟩
theorem impl_inRanges.ok : CtrOK Go.Proofs.Try.prog gl impl_inRanges.spec :=
  ctr_ok (T := impl_inRanges.T) (F := impl_inRanges.F) (lb := impl_inRanges.lb) (st := impl_inRanges.st) (step := impl_inRanges.step) (md := impl_inRanges.md) tabs impl_inRanges.text impl_inRanges.seg_eq (fun n x => ⟨.p0 x.1 x.2.1, rfl, rfl, rfl⟩) (nilC)

/-! loop.example/g00039/impl.DayNumber -/
def impl_DayNumber.T : List Ctr := [impl_daysTo.spec, impl_daysIn.spec]
def impl_DayNumber.md : List (Nat × List Md) := []
noncomputable def impl_DayNumber.F : Fun := ⟨(Go.Proofs.Try.f44.body).getD .skip, [.v (.int .i64), .v (.int .i64), .v (.int .i64)], [(.tmp 6, (.int .i64))], [], 0, [(4, ⟨[0, 1, 2, 33], [], []⟩), (17, ⟨[0, 1, 7, 8], [], []⟩)]⟩
inductive impl_DayNumber.Pt where
  | p0 (a0 : Int) (a1 : Int) (a2 : Int)
  | p4 (y1 : Int) (y2 : Int) (y3 : Int) (y4 : Bool)
  | p17 (y1 : Int) (y2 : Int) (y3 : Int) (y4 : Int)
def impl_DayNumber.lb : impl_DayNumber.Pt → Nat
  | .p0 _ _ _ => 0
  | .p4 _ _ _ _ => 4
  | .p17 _ _ _ _ => 17
def impl_DayNumber.st : impl_DayNumber.Pt → St
  | .p0 a0 a1 a2 => enter [.v (.int .i64) a0, .v (.int .i64) a1, .v (.int .i64) a2] 0
  | .p4 y1 y2 y3 y4 => ⟨[(0, .im (.int .i64) y1), (1, .im (.int .i64) y2), (2, .im (.int .i64) y3), (33, .im .bool y4)], [], 0⟩
  | .p17 y1 y2 y3 y4 => ⟨[(0, .im (.int .i64) y1), (1, .im (.int .i64) y2), (7, .im (.int .i64) y3), (8, .im (.int .i64) y4)], [], 0⟩
def impl_DayNumber.step (n : Nat) (K : impl_DayNumber.Pt → Option (Tup [(.int .i64)])) : impl_DayNumber.Pt → Option (Tup [(.int .i64)])
  | .p0 a0 a1 a2 => cond (decide (a0 < (1970 : Int))) (K (.p4 a0 a1 a2 true)) (cond (decide ((40000 : Int) < a0)) (K (.p4 a0 a1 a2 true)) (cond (decide (a1 < (1 : Int))) (K (.p4 a0 a1 a2 true)) (cond (decide ((12 : Int) < a1)) (K (.p4 a0 a1 a2 true)) (cond (decide (a2 < (1 : Int))) (K (.p4 a0 a1 a2 true)) ((impl_daysIn n a0 a1).bind fun (r6 : Int) => K (.p4 a0 a1 a2 (decide (r6 < a2))))))))
  | .p4 y1 y2 y3 y4 => cond y4 (some (-(1 : Int))) ((impl_daysTo n y1).bind fun (r7 : Int) => K (.p17 y1 y2 (IntKind.wrap .i64 ((IntKind.wrap .i64 (r7 + y3)) - (1 : Int))) (1 : Int)))
  | .p17 y1 y2 y3 y4 => cond (decide (y4 < y2)) ((impl_daysIn n y1 y4).bind fun (r7 : Int) => K (.p17 y1 y2 (IntKind.wrap .i64 (y3 + r7)) (IntKind.wrap .i64 (y4 + (1 : Int))))) (some y3)
def impl_DayNumber (n : Nat) (a0 : Int) (a1 : Int) (a2 : Int) : Option (Tup [(.int .i64)]) := goRec impl_DayNumber.step n (.p0 a0 a1 a2)
def impl_DayNumber.spec : Ctr := ⟨44, [.v (.int .i64), .v (.int .i64), .v (.int .i64)], [(.int .i64)], [], fun n x => impl_DayNumber n x.1 x.2.1 x.2.2.1⟩
theorem impl_DayNumber.seg_eq (n : Nat) (goto : Nat → St → Option (Tup [(.int .i64)])) (y : impl_DayNumber.Pt) : seg ⟨ty, gl, impl_DayNumber.md, calOf impl_DayNumber.T n⟩ impl_DayNumber.F.np impl_DayNumber.F.ks goto (impl_DayNumber.F.fin ⟨ty, gl, impl_DayNumber.md, calOf impl_DayNumber.T 0⟩ [(.int .i64)]) impl_DayNumber.F.c (impl_DayNumber.lb y) (impl_DayNumber.st y) = impl_DayNumber.step n (fun z => goto (impl_DayNumber.lb z) (impl_DayNumber.st z)) y := by
  cases y <;> kernel_rfl
theorem impl_DayNumber.text : Text Go.Proofs.Try.prog impl_DayNumber.F impl_DayNumber.spec := ⟨⟨Go.Proofs.Try.f44, by kernel_rfl, by kernel_rfl, by decide +kernel, by kernel_rfl, by kernel_rfl, of_decide_eq_true (by kernel_rfl)⟩, fun _ => rfl, fun _ => rfl, rfl⟩
theorem impl_DayNumber.ok : CtrOK Go.Proofs.Try.prog gl impl_DayNumber.spec :=
  ctr_ok (T := impl_DayNumber.T) (F := impl_DayNumber.F) (lb := impl_DayNumber.lb) (st := impl_DayNumber.st) (step := impl_DayNumber.step) (md := impl_DayNumber.md) tabs impl_DayNumber.text impl_DayNumber.seg_eq (fun n x => ⟨.p0 x.1 x.2.1 x.2.2.1, rfl, rfl, rfl⟩) (consC impl_daysTo.ok (consC impl_daysIn.ok (nilC)))

/-! slices.Index[[]int,int] -/
def slices_Index_int.T : List Ctr := []
def slices_Index_int.md : List (Nat × List Md) := []
noncomputable def slices_Index_int.F : Fun := ⟨(Go.Proofs.Try.f84.body).getD .skip, [.v (.sl false (.int .i64)), .v (.int .i64)], [(.tmp 4, (.int .i64))], [], 0, [(7, ⟨[0, 1, 7, 8], [], []⟩)]⟩
inductive slices_Index_int.Pt where
  | p0 (a0 : List (Int)) (a1 : Int)
  | p7 (y1 : List (Int)) (y2 : Int) (y3 : Int) (y4 : Int)
def slices_Index_int.lb : slices_Index_int.Pt → Nat
  | .p0 _ _ => 0
  | .p7 _ _ _ _ => 7
def slices_Index_int.st : slices_Index_int.Pt → St
  | .p0 a0 a1 => enter [.v (.sl false (.int .i64)) a0, .v (.int .i64) a1] 0
  | .p7 y1 y2 y3 y4 => ⟨[(0, .im (.sl false (.int .i64)) y1), (1, .im (.int .i64) y2), (7, .im (.int .i64) y3), (8, .im (.int .i64) y4)], [], 0⟩
def slices_Index_int.step (n : Nat) (K : slices_Index_int.Pt → Option (Tup [(.int .i64)])) : slices_Index_int.Pt → Option (Tup [(.int .i64)])
  | .p0 a0 a1 => K (.p7 a0 a1 ((List.length a0) : Int) (0 : Int))
  | .p7 y1 y2 y3 y4 => cond (decide (y4 < y3)) (cond (inB y4 (List.length y1)) (cond (decide (y2 = (List.getD y1 (Int.toNat y4) default))) (some y4) (K (.p7 y1 y2 y3 (IntKind.wrap .i64 (y4 + (1 : Int)))))) (none)) (some (-(1 : Int)))
def slices_Index_int (n : Nat) (a0 : List (Int)) (a1 : Int) : Option (Tup [(.int .i64)]) := goRec slices_Index_int.step n (.p0 a0 a1)
def slices_Index_int.spec : Ctr := ⟨84, [.v (.sl false (.int .i64)), .v (.int .i64)], [(.int .i64)], [], fun n x => slices_Index_int n x.1 x.2.1⟩
theorem slices_Index_int.seg_eq (n : Nat) (goto : Nat → St → Option (Tup [(.int .i64)])) (y : slices_Index_int.Pt) : seg ⟨ty, gl, slices_Index_int.md, calOf slices_Index_int.T n⟩ slices_Index_int.F.np slices_Index_int.F.ks goto (slices_Index_int.F.fin ⟨ty, gl, slices_Index_int.md, calOf slices_Index_int.T 0⟩ [(.int .i64)]) slices_Index_int.F.c (slices_Index_int.lb y) (slices_Index_int.st y) = slices_Index_int.step n (fun z => goto (slices_Index_int.lb z) (slices_Index_int.st z)) y := by
  cases y <;> kernel_rfl
theorem slices_Index_int.text : Text Go.Proofs.Try.prog slices_Index_int.F slices_Index_int.spec := ⟨⟨Go.Proofs.Try.f84, by kernel_rfl, by kernel_rfl, by decide +kernel, by kernel_rfl, by kernel_rfl, of_decide_eq_true (by kernel_rfl)⟩, fun _ => rfl, fun _ => rfl, rfl⟩
theorem slices_Index_int.ok : CtrOK Go.Proofs.Try.prog gl slices_Index_int.spec :=
  ctr_ok (T := slices_Index_int.T) (F := slices_Index_int.F) (lb := slices_Index_int.lb) (st := slices_Index_int.st) (step := slices_Index_int.step) (md := slices_Index_int.md) tabs slices_Index_int.text slices_Index_int.seg_eq (fun n x => ⟨.p0 x.1 x.2.1, rfl, rfl, rfl⟩) (nilC)

/-! slices.Contains[[]int,int] -/
def slices_Contains_int.T : List Ctr := [slices_Index_int.spec]
def slices_Contains_int.md : List (Nat × List Md) := []
noncomputable def slices_Contains_int.F : Fun := ⟨(Go.Proofs.Try.f43.body).getD .skip, [.v (.sl false (.int .i64)), .v (.int .i64)], [(.tmp 4, .bool)], [], 0, []⟩
inductive slices_Contains_int.Pt where
  | p0 (a0 : List (Int)) (a1 : Int)
def slices_Contains_int.lb : slices_Contains_int.Pt → Nat
  | .p0 _ _ => 0
def slices_Contains_int.st : slices_Contains_int.Pt → St
  | .p0 a0 a1 => enter [.v (.sl false (.int .i64)) a0, .v (.int .i64) a1] 0
def slices_Contains_int.step (n : Nat) (K : slices_Contains_int.Pt → Option (Tup [.bool])) : slices_Contains_int.Pt → Option (Tup [.bool])
  | .p0 a0 a1 => (slices_Index_int n a0 a1).bind fun (r5 : Int) => some (decide ((0 : Int) ≤ r5))
def slices_Contains_int (n : Nat) (a0 : List (Int)) (a1 : Int) : Option (Tup [.bool]) := goRec slices_Contains_int.step n (.p0 a0 a1)
def slices_Contains_int.spec : Ctr := ⟨43, [.v (.sl false (.int .i64)), .v (.int .i64)], [.bool], [], fun n x => slices_Contains_int n x.1 x.2.1⟩
theorem slices_Contains_int.seg_eq (n : Nat) (goto : Nat → St → Option (Tup [.bool])) (y : slices_Contains_int.Pt) : seg ⟨ty, gl, slices_Contains_int.md, calOf slices_Contains_int.T n⟩ slices_Contains_int.F.np slices_Contains_int.F.ks goto (slices_Contains_int.F.fin ⟨ty, gl, slices_Contains_int.md, calOf slices_Contains_int.T 0⟩ [.bool]) slices_Contains_int.F.c (slices_Contains_int.lb y) (slices_Contains_int.st y) = slices_Contains_int.step n (fun z => goto (slices_Contains_int.lb z) (slices_Contains_int.st z)) y := by
  cases y <;> kernel_rfl
theorem slices_Contains_int.text : Text Go.Proofs.Try.prog slices_Contains_int.F slices_Contains_int.spec := ⟨⟨Go.Proofs.Try.f43, by kernel_rfl, by kernel_rfl, by decide +kernel, by kernel_rfl, by kernel_rfl, of_decide_eq_true (by kernel_rfl)⟩, fun _ => rfl, fun _ => rfl, rfl⟩
theorem slices_Contains_int.ok : CtrOK Go.Proofs.Try.prog gl slices_Contains_int.spec :=
  ctr_ok (T := slices_Contains_int.T) (F := slices_Contains_int.F) (lb := slices_Contains_int.lb) (st := slices_Contains_int.st) (step := slices_Contains_int.step) (md := slices_Contains_int.md) tabs slices_Contains_int.text slices_Contains_int.seg_eq (fun n x => ⟨.p0 x.1 x.2.1, rfl, rfl, rfl⟩) (consC slices_Index_int.ok (nilC))

/-! loop.example/g00039/impl.InInterval -/
def impl_InInterval.T : List Ctr := [impl_GoodInterval.spec, impl_isTime.spec, impl_DateOf.spec, impl_inRanges.spec, impl_DayNumber.spec, slices_Contains_int.spec]
def impl_InInterval.md : List (Nat × List Md) := []
noncomputable def impl_InInterval.F : Fun := ⟨(Go.Proofs.Try.f13.body).getD .skip, [.v (.pair (.int .i64) (.pair (.sl false (.pair (.int .i64) (.pair (.int .i64) .unit))) (.pair (.sl false (.pair (.int .i64) (.pair (.int .i64) .unit))) (.pair (.sl false (.pair (.int .i64) (.pair (.int .i64) .unit))) (.pair (.sl false (.pair (.int .i64) (.pair (.int .i64) .unit))) (.pair (.sl false (.pair (.int .i64) (.pair (.int .i64) .unit))) (.pair (.sl false (.int .i64)) .unit))))))), .v (.int .i64)], [(.tmp 4, .bool)], [], 0, [(4, ⟨[1, 2, 13], [], [(2, 1, (.pair (.int .i64) (.pair (.int .i64) .unit))), (2, 2, (.pair (.int .i64) (.pair (.int .i64) .unit))), (2, 3, (.pair (.int .i64) (.pair (.int .i64) .unit))), (2, 4, (.pair (.int .i64) (.pair (.int .i64) .unit))), (2, 5, (.pair (.int .i64) (.pair (.int .i64) .unit))), (2, 6, (.int .i64))]⟩)]⟩
inductive impl_InInterval.Pt where
  | p0 (a0 : (Int) × ((List ((Int) × ((Int) × (Unit)))) × ((List ((Int) × ((Int) × (Unit)))) × ((List ((Int) × ((Int) × (Unit)))) × ((List ((Int) × ((Int) × (Unit)))) × ((List ((Int) × ((Int) × (Unit)))) × ((List (Int)) × (Unit)))))))) (a1 : Int)
  | p4 (y1 : Int) (y2 : Bool) (y3 : Int) (y4 : List ((Int) × ((Int) × (Unit)))) (y5 : List ((Int) × ((Int) × (Unit)))) (y6 : List ((Int) × ((Int) × (Unit)))) (y7 : List ((Int) × ((Int) × (Unit)))) (y8 : List ((Int) × ((Int) × (Unit)))) (y9 : List (Int))
def impl_InInterval.lb : impl_InInterval.Pt → Nat
  | .p0 _ _ => 0
  | .p4 _ _ _ _ _ _ _ _ _ => 4
def impl_InInterval.st : impl_InInterval.Pt → St
  | .p0 a0 a1 => enter [.v (.pair (.int .i64) (.pair (.sl false (.pair (.int .i64) (.pair (.int .i64) .unit))) (.pair (.sl false (.pair (.int .i64) (.pair (.int .i64) .unit))) (.pair (.sl false (.pair (.int .i64) (.pair (.int .i64) .unit))) (.pair (.sl false (.pair (.int .i64) (.pair (.int .i64) .unit))) (.pair (.sl false (.pair (.int .i64) (.pair (.int .i64) .unit))) (.pair (.sl false (.int .i64)) .unit))))))) a0, .v (.int .i64) a1] 0
  | .p4 y1 y2 y3 y4 y5 y6 y7 y8 y9 => ⟨[(1, .im (.int .i64) y1), (2, .po 0 0), (13, .im .bool y2)], [(0, .obj [.im (.int .i64) y3, .im (.sl false (.pair (.int .i64) (.pair (.int .i64) .unit))) y4, .im (.sl false (.pair (.int .i64) (.pair (.int .i64) .unit))) y5, .im (.sl false (.pair (.int .i64) (.pair (.int .i64) .unit))) y6, .im (.sl false (.pair (.int .i64) (.pair (.int .i64) .unit))) y7, .im (.sl false (.pair (.int .i64) (.pair (.int .i64) .unit))) y8, .im (.sl false (.int .i64)) y9])], 1⟩
def impl_InInterval.step (n : Nat) (K : impl_InInterval.Pt → Option (Tup [.bool])) : impl_InInterval.Pt → Option (Tup [.bool])
  | .p0 a0 a1 => (impl_GoodInterval n a0).bind fun r5 => cond (!r5) (K (.p4 a1 true a0.1 a0.2.1 a0.2.2.1 a0.2.2.2.1 a0.2.2.2.2.1 a0.2.2.2.2.2.1 a0.2.2.2.2.2.2.1)) ((impl_isTime n a1).bind fun r6 => K (.p4 a1 (!r6) a0.1 a0.2.1 a0.2.2.1 a0.2.2.2.1 a0.2.2.2.2.1 a0.2.2.2.2.2.1 a0.2.2.2.2.2.2.1))
  | .p4 y1 y2 y3 y4 y5 y6 y7 y8 y9 => cond y2 (some false) ((impl_DateOf n y1 y3).bind fun r12 => cond (decide (r12.1 = (0 : Int))) (some false) ((impl_inRanges n y4 [r12.2.2.2.2.2.1]).bind fun r13 => cond r13 ((impl_inRanges n y5 [r12.2.2.2.2.1]).bind fun r14 => cond r14 ((impl_inRanges n y6 [r12.2.2.1, (IntKind.wrap .i64 ((IntKind.wrap .i64 (r12.2.2.1 - r12.2.2.2.1)) - (1 : Int)))]).bind fun r15 => cond r15 ((impl_inRanges n y7 [r12.2.1]).bind fun r16 => cond r16 ((impl_inRanges n y8 [r12.1]).bind fun r17 => cond r17 ((impl_DayNumber n r12.1 r12.2.1 r12.2.2.1).bind fun (r18 : Int) => (slices_Contains_int n y9 r18).bind fun r19 => some (!r19)) (some false)) (some false)) (some false)) (some false)) (some false)))
def impl_InInterval (n : Nat) (a0 : (Int) × ((List ((Int) × ((Int) × (Unit)))) × ((List ((Int) × ((Int) × (Unit)))) × ((List ((Int) × ((Int) × (Unit)))) × ((List ((Int) × ((Int) × (Unit)))) × ((List ((Int) × ((Int) × (Unit)))) × ((List (Int)) × (Unit)))))))) (a1 : Int) : Option (Tup [.bool]) := goRec impl_InInterval.step n (.p0 a0 a1)
def impl_InInterval.spec : Ctr := ⟨13, [.v (.pair (.int .i64) (.pair (.sl false (.pair (.int .i64) (.pair (.int .i64) .unit))) (.pair (.sl false (.pair (.int .i64) (.pair (.int .i64) .unit))) (.pair (.sl false (.pair (.int .i64) (.pair (.int .i64) .unit))) (.pair (.sl false (.pair (.int .i64) (.pair (.int .i64) .unit))) (.pair (.sl false (.pair (.int .i64) (.pair (.int .i64) .unit))) (.pair (.sl false (.int .i64)) .unit))))))), .v (.int .i64)], [.bool], [], fun n x => impl_InInterval n x.1 x.2.1⟩
theorem impl_InInterval.seg_eq (n : Nat) (goto : Nat → St → Option (Tup [.bool])) (y : impl_InInterval.Pt) : seg ⟨ty, gl, impl_InInterval.md, calOf impl_InInterval.T n⟩ impl_InInterval.F.np impl_InInterval.F.ks goto (impl_InInterval.F.fin ⟨ty, gl, impl_InInterval.md, calOf impl_InInterval.T 0⟩ [.bool]) impl_InInterval.F.c (impl_InInterval.lb y) (impl_InInterval.st y) = impl_InInterval.step n (fun z => goto (impl_InInterval.lb z) (impl_InInterval.st z)) y := by
  cases y <;> kernel_rfl
theorem impl_InInterval.text : Text Go.Proofs.Try.prog impl_InInterval.F impl_InInterval.spec := ⟨⟨Go.Proofs.Try.f13, by kernel_rfl, by kernel_rfl, by decide +kernel, by kernel_rfl, by kernel_rfl, of_decide_eq_true (by kernel_rfl)⟩, fun _ => rfl, fun _ => rfl, rfl⟩
theorem impl_InInterval.ok : CtrOK Go.Proofs.Try.prog gl impl_InInterval.spec :=
  ctr_ok (T := impl_InInterval.T) (F := impl_InInterval.F) (lb := impl_InInterval.lb) (st := impl_InInterval.st) (step := impl_InInterval.step) (md := impl_InInterval.md) tabs impl_InInterval.text impl_InInterval.seg_eq (fun n x => ⟨.p0 x.1 x.2.1, rfl, rfl, rfl⟩) (consC impl_GoodInterval.ok (consC impl_isTime.ok (consC impl_DateOf.ok (consC impl_inRanges.ok (consC impl_DayNumber.ok (consC slices_Contains_int.ok (nilC)))))))

/-! loop.example/g00039/laws.eqRange -/
def laws_eqRange.T : List Ctr := []
def laws_eqRange.md : List (Nat × List Md) := []
noncomputable def laws_eqRange.F : Fun := ⟨(Go.Proofs.Try.f87.body).getD .skip, [.v (.pair (.int .i64) (.pair (.int .i64) .unit)), .v (.pair (.int .i64) (.pair (.int .i64) .unit))], [(.tmp 4, .bool)], [], 0, []⟩
inductive laws_eqRange.Pt where
  | p0 (a0 : (Int) × ((Int) × (Unit))) (a1 : (Int) × ((Int) × (Unit)))
def laws_eqRange.lb : laws_eqRange.Pt → Nat
  | .p0 _ _ => 0
def laws_eqRange.st : laws_eqRange.Pt → St
  | .p0 a0 a1 => enter [.v (.pair (.int .i64) (.pair (.int .i64) .unit)) a0, .v (.pair (.int .i64) (.pair (.int .i64) .unit)) a1] 0
def laws_eqRange.step (n : Nat) (K : laws_eqRange.Pt → Option (Tup [.bool])) : laws_eqRange.Pt → Option (Tup [.bool])
  | .p0 a0 a1 => cond (!(decide (a0.1 = a1.1))) (some false) (cond (!(decide (a0.2.1 = a1.2.1))) (some false) (some true))
def laws_eqRange (n : Nat) (a0 : (Int) × ((Int) × (Unit))) (a1 : (Int) × ((Int) × (Unit))) : Option (Tup [.bool]) := goRec laws_eqRange.step n (.p0 a0 a1)
def laws_eqRange.spec : Ctr := ⟨87, [.v (.pair (.int .i64) (.pair (.int .i64) .unit)), .v (.pair (.int .i64) (.pair (.int .i64) .unit))], [.bool], [], fun n x => laws_eqRange n x.1 x.2.1⟩
theorem laws_eqRange.seg_eq (n : Nat) (goto : Nat → St → Option (Tup [.bool])) (y : laws_eqRange.Pt) : seg ⟨ty, gl, laws_eqRange.md, calOf laws_eqRange.T n⟩ laws_eqRange.F.np laws_eqRange.F.ks goto (laws_eqRange.F.fin ⟨ty, gl, laws_eqRange.md, calOf laws_eqRange.T 0⟩ [.bool]) laws_eqRange.F.c (laws_eqRange.lb y) (laws_eqRange.st y) = laws_eqRange.step n (fun z => goto (laws_eqRange.lb z) (laws_eqRange.st z)) y := by
  cases y <;> kernel_rfl
theorem laws_eqRange.text : Text Go.Proofs.Try.prog laws_eqRange.F laws_eqRange.spec := ⟨⟨Go.Proofs.Try.f87, by kernel_rfl, by kernel_rfl, by decide +kernel, by kernel_rfl, by kernel_rfl, of_decide_eq_true (by kernel_rfl)⟩, fun _ => rfl, fun _ => rfl, rfl⟩
theorem laws_eqRange.ok : CtrOK Go.Proofs.Try.prog gl laws_eqRange.spec :=
  ctr_ok (T := laws_eqRange.T) (F := laws_eqRange.F) (lb := laws_eqRange.lb) (st := laws_eqRange.st) (step := laws_eqRange.step) (md := laws_eqRange.md) tabs laws_eqRange.text laws_eqRange.seg_eq (fun n x => ⟨.p0 x.1 x.2.1, rfl, rfl, rfl⟩) (nilC)

/-! loop.example/g00039/laws.eqRangeS -/
def laws_eqRangeS.T : List Ctr := [laws_eqRange.spec]
def laws_eqRangeS.md : List (Nat × List Md) := []
noncomputable def laws_eqRangeS.F : Fun := ⟨(Go.Proofs.Try.f55.body).getD .skip, [.v (.sl false (.pair (.int .i64) (.pair (.int .i64) .unit))), .v (.sl false (.pair (.int .i64) (.pair (.int .i64) .unit)))], [(.tmp 4, .bool)], [], 0, [(15, ⟨[0, 1, 5], [], []⟩)]⟩
inductive laws_eqRangeS.Pt where
  | p0 (a0 : List ((Int) × ((Int) × (Unit)))) (a1 : List ((Int) × ((Int) × (Unit))))
  | p15 (y1 : List ((Int) × ((Int) × (Unit)))) (y2 : List ((Int) × ((Int) × (Unit)))) (y3 : Int)
def laws_eqRangeS.lb : laws_eqRangeS.Pt → Nat
  | .p0 _ _ => 0
  | .p15 _ _ _ => 15
def laws_eqRangeS.st : laws_eqRangeS.Pt → St
  | .p0 a0 a1 => enter [.v (.sl false (.pair (.int .i64) (.pair (.int .i64) .unit))) a0, .v (.sl false (.pair (.int .i64) (.pair (.int .i64) .unit))) a1] 0
  | .p15 y1 y2 y3 => ⟨[(0, .im (.sl false (.pair (.int .i64) (.pair (.int .i64) .unit))) y1), (1, .im (.sl false (.pair (.int .i64) (.pair (.int .i64) .unit))) y2), (5, .im (.int .i64) y3)], [], 0⟩
def laws_eqRangeS.step (n : Nat) (K : laws_eqRangeS.Pt → Option (Tup [.bool])) : laws_eqRangeS.Pt → Option (Tup [.bool])
  | .p0 a0 a1 => cond (!(decide (((List.length a0) : Int) = ((List.length a1) : Int)))) (some false) (K (.p15 a0 a1 (0 : Int)))
  | .p15 y1 y2 y3 => cond (decide (y3 < ((List.length y1) : Int))) (cond (inB y3 (List.length y1)) (cond (inB y3 (List.length y2)) ((laws_eqRange n (List.getD y1 (Int.toNat y3) default) (List.getD y2 (Int.toNat y3) default)).bind fun r6 => cond (!r6) (some false) (K (.p15 y1 y2 (IntKind.wrap .i64 (y3 + (1 : Int)))))) (none)) (none)) (some true)
def laws_eqRangeS (n : Nat) (a0 : List ((Int) × ((Int) × (Unit)))) (a1 : List ((Int) × ((Int) × (Unit)))) : Option (Tup [.bool]) := goRec laws_eqRangeS.step n (.p0 a0 a1)
def laws_eqRangeS.spec : Ctr := ⟨55, [.v (.sl false (.pair (.int .i64) (.pair (.int .i64) .unit))), .v (.sl false (.pair (.int .i64) (.pair (.int .i64) .unit)))], [.bool], [], fun n x => laws_eqRangeS n x.1 x.2.1⟩
theorem laws_eqRangeS.seg_eq (n : Nat) (goto : Nat → St → Option (Tup [.bool])) (y : laws_eqRangeS.Pt) : seg ⟨ty, gl, laws_eqRangeS.md, calOf laws_eqRangeS.T n⟩ laws_eqRangeS.F.np laws_eqRangeS.F.ks goto (laws_eqRangeS.F.fin ⟨ty, gl, laws_eqRangeS.md, calOf laws_eqRangeS.T 0⟩ [.bool]) laws_eqRangeS.F.c (laws_eqRangeS.lb y) (laws_eqRangeS.st y) = laws_eqRangeS.step n (fun z => goto (laws_eqRangeS.lb z) (laws_eqRangeS.st z)) y := by
  cases y <;> kernel_rfl
theorem laws_eqRangeS.text : Text Go.Proofs.Try.prog laws_eqRangeS.F laws_eqRangeS.spec := ⟨⟨Go.Proofs.Try.f55, by kernel_rfl, by kernel_rfl, by decide +kernel, by kernel_rfl, by kernel_rfl, of_decide_eq_true (by kernel_rfl)⟩, fun _ => rfl, fun _ => rfl, rfl⟩
theorem laws_eqRangeS.ok : CtrOK Go.Proofs.Try.prog gl laws_eqRangeS.spec :=
  ctr_ok (T := laws_eqRangeS.T) (F := laws_eqRangeS.F) (lb := laws_eqRangeS.lb) (st := laws_eqRangeS.st) (step := laws_eqRangeS.step) (md := laws_eqRangeS.md) tabs laws_eqRangeS.text laws_eqRangeS.seg_eq (fun n x => ⟨.p0 x.1 x.2.1, rfl, rfl, rfl⟩) (consC laws_eqRange.ok (nilC))

/-! loop.example/g00039/laws.eqIntS -/
def laws_eqIntS.T : List Ctr := []
def laws_eqIntS.md : List (Nat × List Md) := []
noncomputable def laws_eqIntS.F : Fun := ⟨(Go.Proofs.Try.f56.body).getD .skip, [.v (.sl false (.int .i64)), .v (.sl false (.int .i64))], [(.tmp 4, .bool)], [], 0, [(15, ⟨[0, 1, 5], [], []⟩)]⟩
inductive laws_eqIntS.Pt where
  | p0 (a0 : List (Int)) (a1 : List (Int))
  | p15 (y1 : List (Int)) (y2 : List (Int)) (y3 : Int)
def laws_eqIntS.lb : laws_eqIntS.Pt → Nat
  | .p0 _ _ => 0
  | .p15 _ _ _ => 15
def laws_eqIntS.st : laws_eqIntS.Pt → St
  | .p0 a0 a1 => enter [.v (.sl false (.int .i64)) a0, .v (.sl false (.int .i64)) a1] 0
  | .p15 y1 y2 y3 => ⟨[(0, .im (.sl false (.int .i64)) y1), (1, .im (.sl false (.int .i64)) y2), (5, .im (.int .i64) y3)], [], 0⟩
def laws_eqIntS.step (n : Nat) (K : laws_eqIntS.Pt → Option (Tup [.bool])) : laws_eqIntS.Pt → Option (Tup [.bool])
  | .p0 a0 a1 => cond (!(decide (((List.length a0) : Int) = ((List.length a1) : Int)))) (some false) (K (.p15 a0 a1 (0 : Int)))
  | .p15 y1 y2 y3 => cond (decide (y3 < ((List.length y1) : Int))) (cond (inB y3 (List.length y1)) (cond (inB y3 (List.length y2)) (cond (!(decide ((List.getD y1 (Int.toNat y3) default) = (List.getD y2 (Int.toNat y3) default)))) (some false) (K (.p15 y1 y2 (IntKind.wrap .i64 (y3 + (1 : Int)))))) (none)) (none)) (some true)
def laws_eqIntS (n : Nat) (a0 : List (Int)) (a1 : List (Int)) : Option (Tup [.bool]) := goRec laws_eqIntS.step n (.p0 a0 a1)
def laws_eqIntS.spec : Ctr := ⟨56, [.v (.sl false (.int .i64)), .v (.sl false (.int .i64))], [.bool], [], fun n x => laws_eqIntS n x.1 x.2.1⟩
theorem laws_eqIntS.seg_eq (n : Nat) (goto : Nat → St → Option (Tup [.bool])) (y : laws_eqIntS.Pt) : seg ⟨ty, gl, laws_eqIntS.md, calOf laws_eqIntS.T n⟩ laws_eqIntS.F.np laws_eqIntS.F.ks goto (laws_eqIntS.F.fin ⟨ty, gl, laws_eqIntS.md, calOf laws_eqIntS.T 0⟩ [.bool]) laws_eqIntS.F.c (laws_eqIntS.lb y) (laws_eqIntS.st y) = laws_eqIntS.step n (fun z => goto (laws_eqIntS.lb z) (laws_eqIntS.st z)) y := by
  cases y <;> kernel_rfl
theorem laws_eqIntS.text : Text Go.Proofs.Try.prog laws_eqIntS.F laws_eqIntS.spec := ⟨⟨Go.Proofs.Try.f56, by kernel_rfl, by kernel_rfl, by decide +kernel, by kernel_rfl, by kernel_rfl, of_decide_eq_true (by kernel_rfl)⟩, fun _ => rfl, fun _ => rfl, rfl⟩
theorem laws_eqIntS.ok : CtrOK Go.Proofs.Try.prog gl laws_eqIntS.spec :=
  ctr_ok (T := laws_eqIntS.T) (F := laws_eqIntS.F) (lb := laws_eqIntS.lb) (st := laws_eqIntS.st) (step := laws_eqIntS.step) (md := laws_eqIntS.md) tabs laws_eqIntS.text laws_eqIntS.seg_eq (fun n x => ⟨.p0 x.1 x.2.1, rfl, rfl, rfl⟩) (nilC)

/-! loop.example/g00039/laws.eqInterval -/
def laws_eqInterval.T : List Ctr := [laws_eqRangeS.spec, laws_eqIntS.spec]
def laws_eqInterval.md : List (Nat × List Md) := []
noncomputable def laws_eqInterval.F : Fun := ⟨(Go.Proofs.Try.f20.body).getD .skip, [.v (.pair (.int .i64) (.pair (.sl false (.pair (.int .i64) (.pair (.int .i64) .unit))) (.pair (.sl false (.pair (.int .i64) (.pair (.int .i64) .unit))) (.pair (.sl false (.pair (.int .i64) (.pair (.int .i64) .unit))) (.pair (.sl false (.pair (.int .i64) (.pair (.int .i64) .unit))) (.pair (.sl false (.pair (.int .i64) (.pair (.int .i64) .unit))) (.pair (.sl false (.int .i64)) .unit))))))), .v (.pair (.int .i64) (.pair (.sl false (.pair (.int .i64) (.pair (.int .i64) .unit))) (.pair (.sl false (.pair (.int .i64) (.pair (.int .i64) .unit))) (.pair (.sl false (.pair (.int .i64) (.pair (.int .i64) .unit))) (.pair (.sl false (.pair (.int .i64) (.pair (.int .i64) .unit))) (.pair (.sl false (.pair (.int .i64) (.pair (.int .i64) .unit))) (.pair (.sl false (.int .i64)) .unit)))))))], [(.tmp 4, .bool)], [], 0, []⟩
inductive laws_eqInterval.Pt where
  | p0 (a0 : (Int) × ((List ((Int) × ((Int) × (Unit)))) × ((List ((Int) × ((Int) × (Unit)))) × ((List ((Int) × ((Int) × (Unit)))) × ((List ((Int) × ((Int) × (Unit)))) × ((List ((Int) × ((Int) × (Unit)))) × ((List (Int)) × (Unit)))))))) (a1 : (Int) × ((List ((Int) × ((Int) × (Unit)))) × ((List ((Int) × ((Int) × (Unit)))) × ((List ((Int) × ((Int) × (Unit)))) × ((List ((Int) × ((Int) × (Unit)))) × ((List ((Int) × ((Int) × (Unit)))) × ((List (Int)) × (Unit))))))))
def laws_eqInterval.lb : laws_eqInterval.Pt → Nat
  | .p0 _ _ => 0
def laws_eqInterval.st : laws_eqInterval.Pt → St
  | .p0 a0 a1 => enter [.v (.pair (.int .i64) (.pair (.sl false (.pair (.int .i64) (.pair (.int .i64) .unit))) (.pair (.sl false (.pair (.int .i64) (.pair (.int .i64) .unit))) (.pair (.sl false (.pair (.int .i64) (.pair (.int .i64) .unit))) (.pair (.sl false (.pair (.int .i64) (.pair (.int .i64) .unit))) (.pair (.sl false (.pair (.int .i64) (.pair (.int .i64) .unit))) (.pair (.sl false (.int .i64)) .unit))))))) a0, .v (.pair (.int .i64) (.pair (.sl false (.pair (.int .i64) (.pair (.int .i64) .unit))) (.pair (.sl false (.pair (.int .i64) (.pair (.int .i64) .unit))) (.pair (.sl false (.pair (.int .i64) (.pair (.int .i64) .unit))) (.pair (.sl false (.pair (.int .i64) (.pair (.int .i64) .unit))) (.pair (.sl false (.pair (.int .i64) (.pair (.int .i64) .unit))) (.pair (.sl false (.int .i64)) .unit))))))) a1] 0
def laws_eqInterval.step (n : Nat) (K : laws_eqInterval.Pt → Option (Tup [.bool])) : laws_eqInterval.Pt → Option (Tup [.bool])
  | .p0 a0 a1 => cond (!(decide (a0.1 = a1.1))) (some false) ((laws_eqRangeS n a0.2.1 a1.2.1).bind fun r5 => cond (!r5) (some false) ((laws_eqRangeS n a0.2.2.1 a1.2.2.1).bind fun r6 => cond (!r6) (some false) ((laws_eqRangeS n a0.2.2.2.1 a1.2.2.2.1).bind fun r7 => cond (!r7) (some false) ((laws_eqRangeS n a0.2.2.2.2.1 a1.2.2.2.2.1).bind fun r8 => cond (!r8) (some false) ((laws_eqRangeS n a0.2.2.2.2.2.1 a1.2.2.2.2.2.1).bind fun r9 => cond (!r9) (some false) ((laws_eqIntS n a0.2.2.2.2.2.2.1 a1.2.2.2.2.2.2.1).bind fun r10 => cond (!r10) (some false) (some true)))))))
def laws_eqInterval (n : Nat) (a0 : (Int) × ((List ((Int) × ((Int) × (Unit)))) × ((List ((Int) × ((Int) × (Unit)))) × ((List ((Int) × ((Int) × (Unit)))) × ((List ((Int) × ((Int) × (Unit)))) × ((List ((Int) × ((Int) × (Unit)))) × ((List (Int)) × (Unit)))))))) (a1 : (Int) × ((List ((Int) × ((Int) × (Unit)))) × ((List ((Int) × ((Int) × (Unit)))) × ((List ((Int) × ((Int) × (Unit)))) × ((List ((Int) × ((Int) × (Unit)))) × ((List ((Int) × ((Int) × (Unit)))) × ((List (Int)) × (Unit)))))))) : Option (Tup [.bool]) := goRec laws_eqInterval.step n (.p0 a0 a1)
def laws_eqInterval.spec : Ctr := ⟨20, [.v (.pair (.int .i64) (.pair (.sl false (.pair (.int .i64) (.pair (.int .i64) .unit))) (.pair (.sl false (.pair (.int .i64) (.pair (.int .i64) .unit))) (.pair (.sl false (.pair (.int .i64) (.pair (.int .i64) .unit))) (.pair (.sl false (.pair (.int .i64) (.pair (.int .i64) .unit))) (.pair (.sl false (.pair (.int .i64) (.pair (.int .i64) .unit))) (.pair (.sl false (.int .i64)) .unit))))))), .v (.pair (.int .i64) (.pair (.sl false (.pair (.int .i64) (.pair (.int .i64) .unit))) (.pair (.sl false (.pair (.int .i64) (.pair (.int .i64) .unit))) (.pair (.sl false (.pair (.int .i64) (.pair (.int .i64) .unit))) (.pair (.sl false (.pair (.int .i64) (.pair (.int .i64) .unit))) (.pair (.sl false (.pair (.int .i64) (.pair (.int .i64) .unit))) (.pair (.sl false (.int .i64)) .unit)))))))], [.bool], [], fun n x => laws_eqInterval n x.1 x.2.1⟩
theorem laws_eqInterval.seg_eq (n : Nat) (goto : Nat → St → Option (Tup [.bool])) (y : laws_eqInterval.Pt) : seg ⟨ty, gl, laws_eqInterval.md, calOf laws_eqInterval.T n⟩ laws_eqInterval.F.np laws_eqInterval.F.ks goto (laws_eqInterval.F.fin ⟨ty, gl, laws_eqInterval.md, calOf laws_eqInterval.T 0⟩ [.bool]) laws_eqInterval.F.c (laws_eqInterval.lb y) (laws_eqInterval.st y) = laws_eqInterval.step n (fun z => goto (laws_eqInterval.lb z) (laws_eqInterval.st z)) y := by
  cases y <;> kernel_rfl
theorem laws_eqInterval.text : Text Go.Proofs.Try.prog laws_eqInterval.F laws_eqInterval.spec := ⟨⟨Go.Proofs.Try.f20, by kernel_rfl, by kernel_rfl, by decide +kernel, by kernel_rfl, by kernel_rfl, of_decide_eq_true (by kernel_rfl)⟩, fun _ => rfl, fun _ => rfl, rfl⟩
theorem laws_eqInterval.ok : CtrOK Go.Proofs.Try.prog gl laws_eqInterval.spec :=
  ctr_ok (T := laws_eqInterval.T) (F := laws_eqInterval.F) (lb := laws_eqInterval.lb) (st := laws_eqInterval.st) (step := laws_eqInterval.step) (md := laws_eqInterval.md) tabs laws_eqInterval.text laws_eqInterval.seg_eq (fun n x => ⟨.p0 x.1 x.2.1, rfl, rfl, rfl⟩) (consC laws_eqRangeS.ok (consC laws_eqIntS.ok (nilC)))

/-! loop.example/g00039/laws.FnExactInInterval -/
def laws_FnExactInInterval.T : List Ctr := [laws_szInterval.spec, laws_toInterval.spec, spec_InInterval.spec, impl_InInterval.spec, laws_eqInterval.spec]
def laws_FnExactInInterval.md : List (Nat × List Md) := []
noncomputable def laws_FnExactInInterval.F : Fun := ⟨(Go.Proofs.Try.f5.body).getD .skip, [.v (.pair (.int .i64) (.pair (.sl false (.pair (.int .i64) (.pair (.int .i64) .unit))) (.pair (.sl false (.pair (.int .i64) (.pair (.int .i64) .unit))) (.pair (.sl false (.pair (.int .i64) (.pair (.int .i64) .unit))) (.pair (.sl false (.pair (.int .i64) (.pair (.int .i64) .unit))) (.pair (.sl false (.pair (.int .i64) (.pair (.int .i64) .unit))) (.pair (.sl false (.int .i64)) .unit))))))), .v (.int .i64)], [(.tmp 4, .bool)], [], 0, []⟩
inductive laws_FnExactInInterval.Pt where
  | p0 (a0 : (Int) × ((List ((Int) × ((Int) × (Unit)))) × ((List ((Int) × ((Int) × (Unit)))) × ((List ((Int) × ((Int) × (Unit)))) × ((List ((Int) × ((Int) × (Unit)))) × ((List ((Int) × ((Int) × (Unit)))) × ((List (Int)) × (Unit)))))))) (a1 : Int)
def laws_FnExactInInterval.lb : laws_FnExactInInterval.Pt → Nat
  | .p0 _ _ => 0
def laws_FnExactInInterval.st : laws_FnExactInInterval.Pt → St
  | .p0 a0 a1 => enter [.v (.pair (.int .i64) (.pair (.sl false (.pair (.int .i64) (.pair (.int .i64) .unit))) (.pair (.sl false (.pair (.int .i64) (.pair (.int .i64) .unit))) (.pair (.sl false (.pair (.int .i64) (.pair (.int .i64) .unit))) (.pair (.sl false (.pair (.int .i64) (.pair (.int .i64) .unit))) (.pair (.sl false (.pair (.int .i64) (.pair (.int .i64) .unit))) (.pair (.sl false (.int .i64)) .unit))))))) a0, .v (.int .i64) a1] 0
def laws_FnExactInInterval.step (n : Nat) (K : laws_FnExactInInterval.Pt → Option (Tup [.bool])) : laws_FnExactInInterval.Pt → Option (Tup [.bool])
  | .p0 a0 a1 => (laws_szInterval n a0 (1048576 : Int)).bind fun (r5 : Int) => cond (decide (r5 < (0 : Int))) (some true) ((laws_toInterval n a0).bind fun r6 => (spec_InInterval n r6 a1).bind fun r7 => (laws_toInterval n a0).bind fun r8 => (impl_InInterval n r8 a1).bind fun r9 => cond (r9 != r7) (some false) ((laws_toInterval n a0).bind fun r10 => (laws_eqInterval n r8 r10).bind fun r11 => cond (!r11) (some false) (some true)))
def laws_FnExactInInterval (n : Nat) (a0 : (Int) × ((List ((Int) × ((Int) × (Unit)))) × ((List ((Int) × ((Int) × (Unit)))) × ((List ((Int) × ((Int) × (Unit)))) × ((List ((Int) × ((Int) × (Unit)))) × ((List ((Int) × ((Int) × (Unit)))) × ((List (Int)) × (Unit)))))))) (a1 : Int) : Option (Tup [.bool]) := goRec laws_FnExactInInterval.step n (.p0 a0 a1)
def laws_FnExactInInterval.spec : Ctr := ⟨5, [.v (.pair (.int .i64) (.pair (.sl false (.pair (.int .i64) (.pair (.int .i64) .unit))) (.pair (.sl false (.pair (.int .i64) (.pair (.int .i64) .unit))) (.pair (.sl false (.pair (.int .i64) (.pair (.int .i64) .unit))) (.pair (.sl false (.pair (.int .i64) (.pair (.int .i64) .unit))) (.pair (.sl false (.pair (.int .i64) (.pair (.int .i64) .unit))) (.pair (.sl false (.int .i64)) .unit))))))), .v (.int .i64)], [.bool], [], fun n x => laws_FnExactInInterval n x.1 x.2.1⟩
theorem laws_FnExactInInterval.seg_eq (n : Nat) (goto : Nat → St → Option (Tup [.bool])) (y : laws_FnExactInInterval.Pt) : seg ⟨ty, gl, laws_FnExactInInterval.md, calOf laws_FnExactInInterval.T n⟩ laws_FnExactInInterval.F.np laws_FnExactInInterval.F.ks goto (laws_FnExactInInterval.F.fin ⟨ty, gl, laws_FnExactInInterval.md, calOf laws_FnExactInInterval.T 0⟩ [.bool]) laws_FnExactInInterval.F.c (laws_FnExactInInterval.lb y) (laws_FnExactInInterval.st y) = laws_FnExactInInterval.step n (fun z => goto (laws_FnExactInInterval.lb z) (laws_FnExactInInterval.st z)) y := by
  cases y <;> kernel_rfl
theorem laws_FnExactInInterval.text : Text Go.Proofs.Try.prog laws_FnExactInInterval.F laws_FnExactInInterval.spec := ⟨⟨Go.Proofs.Try.f5, by kernel_rfl, by kernel_rfl, by decide +kernel, by kernel_rfl, by kernel_rfl, of_decide_eq_true (by kernel_rfl)⟩, fun _ => rfl, fun _ => rfl, rfl⟩
theorem laws_FnExactInInterval.ok : CtrOK Go.Proofs.Try.prog gl laws_FnExactInInterval.spec :=
  ctr_ok (T := laws_FnExactInInterval.T) (F := laws_FnExactInInterval.F) (lb := laws_FnExactInInterval.lb) (st := laws_FnExactInInterval.st) (step := laws_FnExactInInterval.step) (md := laws_FnExactInInterval.md) tabs laws_FnExactInInterval.text laws_FnExactInInterval.seg_eq (fun n x => ⟨.p0 x.1 x.2.1, rfl, rfl, rfl⟩) (consC laws_szInterval.ok (consC laws_toInterval.ok (consC spec_InInterval.ok (consC impl_InInterval.ok (consC laws_eqInterval.ok (nilC))))))
end Go.II
