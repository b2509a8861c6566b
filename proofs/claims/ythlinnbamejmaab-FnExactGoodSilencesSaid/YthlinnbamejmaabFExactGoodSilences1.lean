/- The functions that the law reaches, each as a Lean function and with its contract, part 1. -/
import Derived.Test.YthlinnbamejmaabV1
import Derived.Test.YthlinnbamejmaabV2
import Derived.Test.YthlinnbamejmaabV3
import Derived.Lib.Bytealg
import Derived.Shelf.Lays
import Derived.Shelf.Small.Strs
import Derived.Test.YthlinnbamejmaabProg
open Go Go.VM
namespace Go.GS
set_option maxRecDepth 100000
set_option linter.unusedVariables false
set_option linter.unusedSimpArgs false
def ty : List (Nat × U) := [(0, .oth), (1, .oth), (2, (.int .i64)), (3, (.int .i64)), (4, .bool), (5, (.int .u8)), (6, (.int .u8)), (7, (.pair (.int .i64) (.pair (.int .i64) (.pair .bool (.pair (.int .u8) .unit))))), (8, (.pair (.int .i64) (.pair (.int .i64) (.pair .bool (.pair (.int .u8) .unit))))), (9, .str), (10, .str), (11, .str), (12, (.int .u64)), (13, (.pair .str (.pair (.int .u64) .unit))), (14, (.pair .str (.pair (.int .u64) .unit))), (15, .oth), (16, .oth), (17, .oth), (18, (.pair .oth .unit)), (19, (.pair .oth .unit)), (20, .oth), (21, (.int .i32)), (22, (.sl false (.pair .str (.pair (.sl false (.pair .str (.pair (.int .i64) (.pair .str .unit)))) (.pair (.int .i64) (.pair (.int .i64) .unit)))))), (23, .oth), (24, .oth), (25, (.sl false (.pair .str (.pair (.sl false (.pair .str (.pair (.int .i64) (.pair .str .unit)))) (.pair (.int .i64) (.pair (.int .i64) .unit)))))), (26, .oth), (27, .oth), (28, .oth), (29, (.sl false (.int .u8))), (30, (.sl false (.pair (.int .i64) (.pair (.int .i64) .unit)))), (31, (.sl false (.int .i64))), (32, (.pair (.int .i64) (.pair (.sl false (.pair (.int .i64) (.pair (.int .i64) .unit))) (.pair (.sl false (.pair (.int .i64) (.pair (.int .i64) .unit))) (.pair (.sl false (.pair (.int .i64) (.pair (.int .i64) .unit))) (.pair (.sl false (.pair (.int .i64) (.pair (.int .i64) .unit))) (.pair (.sl false (.pair (.int .i64) (.pair (.int .i64) .unit))) (.pair (.sl false (.int .i64)) .unit)))))))), (33, (.pair (.int .i64) (.pair (.sl false (.pair (.int .i64) (.pair (.int .i64) .unit))) (.pair (.sl false (.pair (.int .i64) (.pair (.int .i64) .unit))) (.pair (.sl false (.pair (.int .i64) (.pair (.int .i64) .unit))) (.pair (.sl false (.pair (.int .i64) (.pair (.int .i64) .unit))) (.pair (.sl false (.pair (.int .i64) (.pair (.int .i64) .unit))) (.pair (.sl false (.int .i64)) .unit)))))))), (34, .oth), (35, .oth), (36, .oth), (37, .oth), (38, (.pair (.int .i64) (.pair (.int .i64) (.pair (.int .i64) (.pair (.int .i64) (.pair (.int .i64) (.pair (.int .i64) .unit))))))), (39, (.pair (.int .i64) (.pair (.int .i64) (.pair (.int .i64) (.pair (.int .i64) (.pair (.int .i64) (.pair (.int .i64) .unit))))))), (40, .oth), (41, .oth), (42, .oth), (43, (.sl false (.pair (.int .i64) (.pair (.int .i64) .unit)))), (44, (.pair (.int .i64) (.pair (.sl false (.pair (.int .i64) (.pair (.int .i64) .unit))) (.pair (.sl false (.pair (.int .i64) (.pair (.int .i64) .unit))) (.pair (.sl false (.pair (.int .i64) (.pair (.int .i64) .unit))) (.pair (.sl false (.pair (.int .i64) (.pair (.int .i64) .unit))) (.pair (.sl false (.pair (.int .i64) (.pair (.int .i64) .unit))) (.pair (.sl false (.int .i64)) .unit)))))))), (45, (.pair (.int .i64) (.pair (.sl false (.pair (.int .i64) (.pair (.int .i64) .unit))) (.pair (.sl false (.pair (.int .i64) (.pair (.int .i64) .unit))) (.pair (.sl false (.pair (.int .i64) (.pair (.int .i64) .unit))) (.pair (.sl false (.pair (.int .i64) (.pair (.int .i64) .unit))) (.pair (.sl false (.pair (.int .i64) (.pair (.int .i64) .unit))) (.pair (.sl false (.int .i64)) .unit)))))))), (46, .oth), (47, .oth), (48, .oth), (49, .oth), (50, (.sl false (.pair (.sl false (.pair .str (.pair (.int .i64) (.pair .str .unit)))) (.pair (.sl false (.pair .str (.pair (.int .i64) (.pair .str .unit)))) (.pair (.sl false .str) .unit))))), (51, .oth), (52, .oth), (53, (.sl false (.pair (.sl false (.pair .str (.pair (.int .i64) (.pair .str .unit)))) (.pair (.sl false (.pair .str (.pair (.int .i64) (.pair .str .unit)))) (.pair (.sl false .str) .unit))))), (54, .oth), (55, .oth), (56, .oth), (57, .oth), (58, (.sl false (.pair .str (.pair (.int .i64) (.pair .str .unit))))), (59, (.pair .str (.pair (.sl false (.pair .str (.pair (.int .i64) (.pair .str .unit)))) (.pair (.int .i64) (.pair (.int .i64) .unit))))), (60, (.pair .str (.pair (.sl false (.pair .str (.pair (.int .i64) (.pair .str .unit)))) (.pair (.int .i64) (.pair (.int .i64) .unit))))), (61, (.sl false (.pair .str (.pair (.int .i64) (.pair .str .unit))))), (62, (.pair .str (.pair (.sl false (.pair .str (.pair (.int .i64) (.pair .str .unit)))) (.pair (.int .i64) (.pair (.int .i64) .unit))))), (63, (.pair .str (.pair (.sl false (.pair .str (.pair (.int .i64) (.pair .str .unit)))) (.pair (.int .i64) (.pair (.int .i64) .unit))))), (64, .oth), (65, .oth), (66, .oth), (67, .oth), (68, .oth), (69, .oth), (70, .oth), (71, (.int .u64)), (72, (.pair (.sl false (.int .u8)) (.pair (.int .i64) (.pair (.int .u64) .unit)))), (73, (.pair (.sl false (.int .u8)) (.pair (.int .i64) (.pair (.int .u64) .unit)))), (74, .oth), (75, .oth), (76, .oth), (77, .oth), (78, .oth), (79, .oth), (80, (.pair (.int .i64) (.pair (.int .i64) .unit))), (81, (.pair (.int .i64) (.pair (.int .i64) .unit))), (82, .oth), (83, .oth), (84, .oth), (85, .oth), (86, .oth), (87, .oth), (88, .oth), (89, .oth), (90, .oth), (91, .oth), (92, .oth), (93, (.sl false .str)), (94, (.pair (.sl false (.pair .str (.pair (.int .i64) (.pair .str .unit)))) (.pair (.sl false (.pair .str (.pair (.int .i64) (.pair .str .unit)))) (.pair (.sl false .str) .unit)))), (95, (.pair (.sl false (.pair .str (.pair (.int .i64) (.pair .str .unit)))) (.pair (.sl false (.pair .str (.pair (.int .i64) (.pair .str .unit)))) (.pair (.sl false .str) .unit)))), (96, (.pair (.sl false (.pair .str (.pair (.int .i64) (.pair .str .unit)))) (.pair (.sl false (.pair .str (.pair (.int .i64) (.pair .str .unit)))) (.pair (.sl false .str) .unit)))), (97, (.pair (.sl false (.pair .str (.pair (.int .i64) (.pair .str .unit)))) (.pair (.sl false (.pair .str (.pair (.int .i64) (.pair .str .unit)))) (.pair (.sl false .str) .unit)))), (98, .oth), (99, .oth), (100, .oth), (101, .oth), (102, .oth), (103, .oth), (104, .oth), (105, (.pair .str (.pair (.int .i64) (.pair .str .unit)))), (106, (.pair .str (.pair (.int .i64) (.pair .str .unit)))), (107, .oth), (108, .oth), (109, .oth), (110, .oth), (111, .oth), (112, .oth), (113, (.pair (.int .i64) (.pair (.int .i64) .unit))), (114, .oth), (115, .oth), (116, .oth), (117, .oth), (118, .oth), (119, .oth), (120, .oth), (121, (.pair .str (.pair (.int .i64) (.pair .str .unit)))), (122, (.sl false (.sl false (.int .i64)))), (123, .oth), (124, .oth), (125, .oth), (126, .oth), (127, .oth), (128, .oth), (129, .oth), (130, .oth), (131, (.ar 13 (.int .i64))), (132, .oth), (133, (.sl false (.sl false (.pair (.int .u8) (.pair .bool (.pair .bool .unit)))))), (134, .oth), (135, .oth), (136, (.int .u64)), (137, .oth), (138, (.pair (.int .u8) (.pair .bool (.pair .bool .unit)))), (139, (.pair (.int .u8) (.pair .bool (.pair .bool .unit)))), (140, (.sl false (.pair (.int .u8) (.pair .bool (.pair .bool .unit))))), (141, .oth), (142, .oth), (143, .oth), (144, (.pair .oth (.pair .oth (.pair .oth (.pair .str .unit))))), (145, (.pair .oth (.pair .oth (.pair .oth (.pair .str .unit))))), (146, (.ar 0 .oth)), (149, (.int .u32)), (150, (.int .u8)), (151, (.int .u8)), (152, .oth), (153, .oth), (154, (.int .i32)), (155, (.int .i32)), (156, (.pair (.int .u64) (.pair (.int .u64) (.pair (.int .u32) (.pair (.int .u8) (.pair (.int .u8) (.pair (.int .u8) (.pair (.int .u8) (.pair .oth (.pair .oth (.pair (.int .i32) (.pair (.int .i32) .unit)))))))))))), (157, (.pair (.int .u64) (.pair (.int .u64) (.pair (.int .u32) (.pair (.int .u8) (.pair (.int .u8) (.pair (.int .u8) (.pair (.int .u8) (.pair .oth (.pair .oth (.pair (.int .i32) (.pair (.int .i32) .unit)))))))))))), (158, .oth)]
def gl : List (Nat × TV) := []
theorem tabs : Tabs Go.Proofs.Try.prog ty gl := tabs_of (by kernel_rfl) (by kernel_rfl)
/-! loop.example/g00039/laws.szMatcher -/
def laws_szMatcher.T : List Ctr := []
def laws_szMatcher.md : List (Nat × List Md) := []
noncomputable def laws_szMatcher.F : Fun := ⟨(Go.Proofs.Try.f96.body).getD .skip, [.v (.pair .str (.pair (.int .i64) (.pair .str .unit))), .v (.int .i64)], [(.tmp 4, (.int .i64))], [], 0, []⟩
inductive laws_szMatcher.Pt where
  | p0 (a0 : (ByteArray) × ((Int) × ((ByteArray) × (Unit)))) (a1 : Int)
def laws_szMatcher.lb : laws_szMatcher.Pt → Nat
  | .p0 _ _ => 0
def laws_szMatcher.st : laws_szMatcher.Pt → St
  | .p0 a0 a1 => enter [.v (.pair .str (.pair (.int .i64) (.pair .str .unit))) a0, .v (.int .i64) a1] 0
def laws_szMatcher.step (n : Nat) (K : laws_szMatcher.Pt → Option (Tup [(.int .i64)])) : laws_szMatcher.Pt → Option (Tup [(.int .i64)])
  | .p0 a0 a1 => cond (decide ((IntKind.wrap .i64 (a1 - ((ByteArray.size a0.1) : Int))) < (0 : Int))) (some (-(1 : Int))) (cond (decide ((IntKind.wrap .i64 ((IntKind.wrap .i64 (a1 - ((ByteArray.size a0.1) : Int))) - ((ByteArray.size a0.2.2.1) : Int))) < (0 : Int))) (some (-(1 : Int))) (some (IntKind.wrap .i64 ((IntKind.wrap .i64 (a1 - ((ByteArray.size a0.1) : Int))) - ((ByteArray.size a0.2.2.1) : Int)))))
def laws_szMatcher (n : Nat) (a0 : (ByteArray) × ((Int) × ((ByteArray) × (Unit)))) (a1 : Int) : Option (Tup [(.int .i64)]) := goRec laws_szMatcher.step n (.p0 a0 a1)
def laws_szMatcher.spec : Ctr := ⟨96, [.v (.pair .str (.pair (.int .i64) (.pair .str .unit))), .v (.int .i64)], [(.int .i64)], [], fun n x => laws_szMatcher n x.1 x.2.1⟩
theorem laws_szMatcher.seg_eq (n : Nat) (goto : Nat → St → Option (Tup [(.int .i64)])) (y : laws_szMatcher.Pt) : seg ⟨ty, gl, laws_szMatcher.md, calOf laws_szMatcher.T n⟩ laws_szMatcher.F.np laws_szMatcher.F.ks goto (laws_szMatcher.F.fin ⟨ty, gl, laws_szMatcher.md, calOf laws_szMatcher.T 0⟩ [(.int .i64)]) laws_szMatcher.F.c (laws_szMatcher.lb y) (laws_szMatcher.st y) = laws_szMatcher.step n (fun z => goto (laws_szMatcher.lb z) (laws_szMatcher.st z)) y := by
  cases y <;> kernel_rfl
theorem laws_szMatcher.text : Text Go.Proofs.Try.prog laws_szMatcher.F laws_szMatcher.spec := ⟨⟨Go.Proofs.Try.f96, by kernel_rfl, by kernel_rfl, by decide +kernel, by kernel_rfl, by kernel_rfl, of_decide_eq_true (by kernel_rfl)⟩, fun _ => rfl, fun _ => rfl, rfl⟩
theorem laws_szMatcher.ok : CtrOK Go.Proofs.Try.prog gl laws_szMatcher.spec :=
  ctr_ok (T := laws_szMatcher.T) (F := laws_szMatcher.F) (lb := laws_szMatcher.lb) (st := laws_szMatcher.st) (step := laws_szMatcher.step) (md := laws_szMatcher.md) tabs laws_szMatcher.text laws_szMatcher.seg_eq (fun n x => ⟨.p0 x.1 x.2.1, rfl, rfl, rfl⟩) (nilC)

/-! loop.example/g00039/laws.szMatcherS -/
def laws_szMatcherS.T : List Ctr := [laws_szMatcher.spec]
def laws_szMatcherS.md : List (Nat × List Md) := []
noncomputable def laws_szMatcherS.F : Fun := ⟨(Go.Proofs.Try.f64.body).getD .skip, [.v (.sl false (.pair .str (.pair (.int .i64) (.pair .str .unit)))), .v (.int .i64)], [(.tmp 4, (.int .i64))], [], 0, [(17, ⟨[0, 1, 5], [], []⟩)]⟩
inductive laws_szMatcherS.Pt where
  | p0 (a0 : List ((ByteArray) × ((Int) × ((ByteArray) × (Unit))))) (a1 : Int)
  | p17 (y1 : List ((ByteArray) × ((Int) × ((ByteArray) × (Unit))))) (y2 : Int) (y3 : Int)
def laws_szMatcherS.lb : laws_szMatcherS.Pt → Nat
  | .p0 _ _ => 0
  | .p17 _ _ _ => 17
def laws_szMatcherS.st : laws_szMatcherS.Pt → St
  | .p0 a0 a1 => enter [.v (.sl false (.pair .str (.pair (.int .i64) (.pair .str .unit)))) a0, .v (.int .i64) a1] 0
  | .p17 y1 y2 y3 => ⟨[(0, .im (.sl false (.pair .str (.pair (.int .i64) (.pair .str .unit)))) y1), (1, .im (.int .i64) y2), (5, .im (.int .i64) y3)], [], 0⟩
def laws_szMatcherS.step (n : Nat) (K : laws_szMatcherS.Pt → Option (Tup [(.int .i64)])) : laws_szMatcherS.Pt → Option (Tup [(.int .i64)])
  | .p0 a0 a1 => cond (decide ((IntKind.wrap .i64 (a1 - ((List.length a0) : Int))) < (0 : Int))) (some (-(1 : Int))) (K (.p17 a0 (IntKind.wrap .i64 (a1 - ((List.length a0) : Int))) (0 : Int)))
  | .p17 y1 y2 y3 => cond (decide (y3 < ((List.length y1) : Int))) (cond (inB y3 (List.length y1)) ((laws_szMatcher n ((List.getD y1 (Int.toNat y3) default).1, ((List.getD y1 (Int.toNat y3) default).2.1, ((List.getD y1 (Int.toNat y3) default).2.2.1, ()))) y2).bind fun r6 => cond (decide (r6 < (0 : Int))) (some (-(1 : Int))) (K (.p17 y1 r6 (IntKind.wrap .i64 (y3 + (1 : Int)))))) (none)) (some y2)
def laws_szMatcherS (n : Nat) (a0 : List ((ByteArray) × ((Int) × ((ByteArray) × (Unit))))) (a1 : Int) : Option (Tup [(.int .i64)]) := goRec laws_szMatcherS.step n (.p0 a0 a1)
def laws_szMatcherS.spec : Ctr := ⟨64, [.v (.sl false (.pair .str (.pair (.int .i64) (.pair .str .unit)))), .v (.int .i64)], [(.int .i64)], [], fun n x => laws_szMatcherS n x.1 x.2.1⟩
theorem laws_szMatcherS.seg_eq (n : Nat) (goto : Nat → St → Option (Tup [(.int .i64)])) (y : laws_szMatcherS.Pt) : seg ⟨ty, gl, laws_szMatcherS.md, calOf laws_szMatcherS.T n⟩ laws_szMatcherS.F.np laws_szMatcherS.F.ks goto (laws_szMatcherS.F.fin ⟨ty, gl, laws_szMatcherS.md, calOf laws_szMatcherS.T 0⟩ [(.int .i64)]) laws_szMatcherS.F.c (laws_szMatcherS.lb y) (laws_szMatcherS.st y) = laws_szMatcherS.step n (fun z => goto (laws_szMatcherS.lb z) (laws_szMatcherS.st z)) y := by
  cases y <;> kernel_rfl
theorem laws_szMatcherS.text : Text Go.Proofs.Try.prog laws_szMatcherS.F laws_szMatcherS.spec := ⟨⟨Go.Proofs.Try.f64, by kernel_rfl, by kernel_rfl, by decide +kernel, by kernel_rfl, by kernel_rfl, of_decide_eq_true (by kernel_rfl)⟩, fun _ => rfl, fun _ => rfl, rfl⟩
theorem laws_szMatcherS.ok : CtrOK Go.Proofs.Try.prog gl laws_szMatcherS.spec :=
  ctr_ok (T := laws_szMatcherS.T) (F := laws_szMatcherS.F) (lb := laws_szMatcherS.lb) (st := laws_szMatcherS.st) (step := laws_szMatcherS.step) (md := laws_szMatcherS.md) tabs laws_szMatcherS.text laws_szMatcherS.seg_eq (fun n x => ⟨.p0 x.1 x.2.1, rfl, rfl, rfl⟩) (consC laws_szMatcher.ok (nilC))

/-! loop.example/g00039/laws.szSilence -/
def laws_szSilence.T : List Ctr := [laws_szMatcherS.spec]
def laws_szSilence.md : List (Nat × List Md) := []
noncomputable def laws_szSilence.F : Fun := ⟨(Go.Proofs.Try.f26.body).getD .skip, [.v (.pair .str (.pair (.sl false (.pair .str (.pair (.int .i64) (.pair .str .unit)))) (.pair (.int .i64) (.pair (.int .i64) .unit)))), .v (.int .i64)], [(.tmp 4, (.int .i64))], [], 0, []⟩
inductive laws_szSilence.Pt where
  | p0 (a0 : (ByteArray) × ((List ((ByteArray) × ((Int) × ((ByteArray) × (Unit))))) × ((Int) × ((Int) × (Unit))))) (a1 : Int)
def laws_szSilence.lb : laws_szSilence.Pt → Nat
  | .p0 _ _ => 0
def laws_szSilence.st : laws_szSilence.Pt → St
  | .p0 a0 a1 => enter [.v (.pair .str (.pair (.sl false (.pair .str (.pair (.int .i64) (.pair .str .unit)))) (.pair (.int .i64) (.pair (.int .i64) .unit)))) a0, .v (.int .i64) a1] 0
def laws_szSilence.step (n : Nat) (K : laws_szSilence.Pt → Option (Tup [(.int .i64)])) : laws_szSilence.Pt → Option (Tup [(.int .i64)])
  | .p0 a0 a1 => cond (decide ((IntKind.wrap .i64 (a1 - ((ByteArray.size a0.1) : Int))) < (0 : Int))) (some (-(1 : Int))) ((laws_szMatcherS n a0.2.1 (IntKind.wrap .i64 (a1 - ((ByteArray.size a0.1) : Int)))).bind fun r5 => cond (decide (r5 < (0 : Int))) (some (-(1 : Int))) (some r5))
def laws_szSilence (n : Nat) (a0 : (ByteArray) × ((List ((ByteArray) × ((Int) × ((ByteArray) × (Unit))))) × ((Int) × ((Int) × (Unit))))) (a1 : Int) : Option (Tup [(.int .i64)]) := goRec laws_szSilence.step n (.p0 a0 a1)
def laws_szSilence.spec : Ctr := ⟨26, [.v (.pair .str (.pair (.sl false (.pair .str (.pair (.int .i64) (.pair .str .unit)))) (.pair (.int .i64) (.pair (.int .i64) .unit)))), .v (.int .i64)], [(.int .i64)], [], fun n x => laws_szSilence n x.1 x.2.1⟩
theorem laws_szSilence.seg_eq (n : Nat) (goto : Nat → St → Option (Tup [(.int .i64)])) (y : laws_szSilence.Pt) : seg ⟨ty, gl, laws_szSilence.md, calOf laws_szSilence.T n⟩ laws_szSilence.F.np laws_szSilence.F.ks goto (laws_szSilence.F.fin ⟨ty, gl, laws_szSilence.md, calOf laws_szSilence.T 0⟩ [(.int .i64)]) laws_szSilence.F.c (laws_szSilence.lb y) (laws_szSilence.st y) = laws_szSilence.step n (fun z => goto (laws_szSilence.lb z) (laws_szSilence.st z)) y := by
  cases y <;> kernel_rfl
theorem laws_szSilence.text : Text Go.Proofs.Try.prog laws_szSilence.F laws_szSilence.spec := ⟨⟨Go.Proofs.Try.f26, by kernel_rfl, by kernel_rfl, by decide +kernel, by kernel_rfl, by kernel_rfl, of_decide_eq_true (by kernel_rfl)⟩, fun _ => rfl, fun _ => rfl, rfl⟩
theorem laws_szSilence.ok : CtrOK Go.Proofs.Try.prog gl laws_szSilence.spec :=
  ctr_ok (T := laws_szSilence.T) (F := laws_szSilence.F) (lb := laws_szSilence.lb) (st := laws_szSilence.st) (step := laws_szSilence.step) (md := laws_szSilence.md) tabs laws_szSilence.text laws_szSilence.seg_eq (fun n x => ⟨.p0 x.1 x.2.1, rfl, rfl, rfl⟩) (consC laws_szMatcherS.ok (nilC))

/-! loop.example/g00039/laws.szSilenceS -/
def laws_szSilenceS.T : List Ctr := [laws_szSilence.spec]
def laws_szSilenceS.md : List (Nat × List Md) := []
noncomputable def laws_szSilenceS.F : Fun := ⟨(Go.Proofs.Try.f7.body).getD .skip, [.v (.sl false (.pair .str (.pair (.sl false (.pair .str (.pair (.int .i64) (.pair .str .unit)))) (.pair (.int .i64) (.pair (.int .i64) .unit))))), .v (.int .i64)], [(.tmp 4, (.int .i64))], [], 0, [(17, ⟨[0, 1, 5], [], []⟩)]⟩
inductive laws_szSilenceS.Pt where
  | p0 (a0 : List ((ByteArray) × ((List ((ByteArray) × ((Int) × ((ByteArray) × (Unit))))) × ((Int) × ((Int) × (Unit)))))) (a1 : Int)
  | p17 (y1 : List ((ByteArray) × ((List ((ByteArray) × ((Int) × ((ByteArray) × (Unit))))) × ((Int) × ((Int) × (Unit)))))) (y2 : Int) (y3 : Int)
def laws_szSilenceS.lb : laws_szSilenceS.Pt → Nat
  | .p0 _ _ => 0
  | .p17 _ _ _ => 17
def laws_szSilenceS.st : laws_szSilenceS.Pt → St
  | .p0 a0 a1 => enter [.v (.sl false (.pair .str (.pair (.sl false (.pair .str (.pair (.int .i64) (.pair .str .unit)))) (.pair (.int .i64) (.pair (.int .i64) .unit))))) a0, .v (.int .i64) a1] 0
  | .p17 y1 y2 y3 => ⟨[(0, .im (.sl false (.pair .str (.pair (.sl false (.pair .str (.pair (.int .i64) (.pair .str .unit)))) (.pair (.int .i64) (.pair (.int .i64) .unit))))) y1), (1, .im (.int .i64) y2), (5, .im (.int .i64) y3)], [], 0⟩
def laws_szSilenceS.step (n : Nat) (K : laws_szSilenceS.Pt → Option (Tup [(.int .i64)])) : laws_szSilenceS.Pt → Option (Tup [(.int .i64)])
  | .p0 a0 a1 => cond (decide ((IntKind.wrap .i64 (a1 - ((List.length a0) : Int))) < (0 : Int))) (some (-(1 : Int))) (K (.p17 a0 (IntKind.wrap .i64 (a1 - ((List.length a0) : Int))) (0 : Int)))
  | .p17 y1 y2 y3 => cond (decide (y3 < ((List.length y1) : Int))) (cond (inB y3 (List.length y1)) ((laws_szSilence n ((List.getD y1 (Int.toNat y3) default).1, ((List.getD y1 (Int.toNat y3) default).2.1, ((List.getD y1 (Int.toNat y3) default).2.2.1, ((List.getD y1 (Int.toNat y3) default).2.2.2.1, ())))) y2).bind fun r6 => cond (decide (r6 < (0 : Int))) (some (-(1 : Int))) (K (.p17 y1 r6 (IntKind.wrap .i64 (y3 + (1 : Int)))))) (none)) (some y2)
def laws_szSilenceS (n : Nat) (a0 : List ((ByteArray) × ((List ((ByteArray) × ((Int) × ((ByteArray) × (Unit))))) × ((Int) × ((Int) × (Unit)))))) (a1 : Int) : Option (Tup [(.int .i64)]) := goRec laws_szSilenceS.step n (.p0 a0 a1)
def laws_szSilenceS.spec : Ctr := ⟨7, [.v (.sl false (.pair .str (.pair (.sl false (.pair .str (.pair (.int .i64) (.pair .str .unit)))) (.pair (.int .i64) (.pair (.int .i64) .unit))))), .v (.int .i64)], [(.int .i64)], [], fun n x => laws_szSilenceS n x.1 x.2.1⟩
theorem laws_szSilenceS.seg_eq (n : Nat) (goto : Nat → St → Option (Tup [(.int .i64)])) (y : laws_szSilenceS.Pt) : seg ⟨ty, gl, laws_szSilenceS.md, calOf laws_szSilenceS.T n⟩ laws_szSilenceS.F.np laws_szSilenceS.F.ks goto (laws_szSilenceS.F.fin ⟨ty, gl, laws_szSilenceS.md, calOf laws_szSilenceS.T 0⟩ [(.int .i64)]) laws_szSilenceS.F.c (laws_szSilenceS.lb y) (laws_szSilenceS.st y) = laws_szSilenceS.step n (fun z => goto (laws_szSilenceS.lb z) (laws_szSilenceS.st z)) y := by
  cases y <;> kernel_rfl
theorem laws_szSilenceS.text : Text Go.Proofs.Try.prog laws_szSilenceS.F laws_szSilenceS.spec := ⟨⟨Go.Proofs.Try.f7, by kernel_rfl, by kernel_rfl, by decide +kernel, by kernel_rfl, by kernel_rfl, of_decide_eq_true (by kernel_rfl)⟩, fun _ => rfl, fun _ => rfl, rfl⟩
theorem laws_szSilenceS.ok : CtrOK Go.Proofs.Try.prog gl laws_szSilenceS.spec :=
  ctr_ok (T := laws_szSilenceS.T) (F := laws_szSilenceS.F) (lb := laws_szSilenceS.lb) (st := laws_szSilenceS.st) (step := laws_szSilenceS.step) (md := laws_szSilenceS.md) tabs laws_szSilenceS.text laws_szSilenceS.seg_eq (fun n x => ⟨.p0 x.1 x.2.1, rfl, rfl, rfl⟩) (consC laws_szSilence.ok (nilC))

/-! loop.example/g00039/laws.toMatcher -/
def laws_toMatcher.T : List Ctr := []
def laws_toMatcher.md : List (Nat × List Md) := []
noncomputable def laws_toMatcher.F : Fun := ⟨(Go.Proofs.Try.f98.body).getD .skip, [.v (.pair .str (.pair (.int .i64) (.pair .str .unit)))], [(.cell 2 106, (.pair .str (.pair (.int .i64) (.pair .str .unit))))], [], 0, []⟩
inductive laws_toMatcher.Pt where
  | p0 (a0 : (ByteArray) × ((Int) × ((ByteArray) × (Unit))))
def laws_toMatcher.lb : laws_toMatcher.Pt → Nat
  | .p0 _ => 0
def laws_toMatcher.st : laws_toMatcher.Pt → St
  | .p0 a0 => enter [.v (.pair .str (.pair (.int .i64) (.pair .str .unit))) a0] 0
def laws_toMatcher.step (n : Nat) (K : laws_toMatcher.Pt → Option (Tup [(.pair .str (.pair (.int .i64) (.pair .str .unit)))])) : laws_toMatcher.Pt → Option (Tup [(.pair .str (.pair (.int .i64) (.pair .str .unit)))])
  | .p0 a0 => some (a0.1, (a0.2.1, (a0.2.2.1, ())))
def laws_toMatcher (n : Nat) (a0 : (ByteArray) × ((Int) × ((ByteArray) × (Unit)))) : Option (Tup [(.pair .str (.pair (.int .i64) (.pair .str .unit)))]) := goRec laws_toMatcher.step n (.p0 a0)
def laws_toMatcher.spec : Ctr := ⟨98, [.v (.pair .str (.pair (.int .i64) (.pair .str .unit)))], [(.pair .str (.pair (.int .i64) (.pair .str .unit)))], [], fun n x => laws_toMatcher n x.1⟩
theorem laws_toMatcher.seg_eq (n : Nat) (goto : Nat → St → Option (Tup [(.pair .str (.pair (.int .i64) (.pair .str .unit)))])) (y : laws_toMatcher.Pt) : seg ⟨ty, gl, laws_toMatcher.md, calOf laws_toMatcher.T n⟩ laws_toMatcher.F.np laws_toMatcher.F.ks goto (laws_toMatcher.F.fin ⟨ty, gl, laws_toMatcher.md, calOf laws_toMatcher.T 0⟩ [(.pair .str (.pair (.int .i64) (.pair .str .unit)))]) laws_toMatcher.F.c (laws_toMatcher.lb y) (laws_toMatcher.st y) = laws_toMatcher.step n (fun z => goto (laws_toMatcher.lb z) (laws_toMatcher.st z)) y := by
  cases y <;> kernel_rfl
theorem laws_toMatcher.text : Text Go.Proofs.Try.prog laws_toMatcher.F laws_toMatcher.spec := ⟨⟨Go.Proofs.Try.f98, by kernel_rfl, by kernel_rfl, by decide +kernel, by kernel_rfl, by kernel_rfl, of_decide_eq_true (by kernel_rfl)⟩, fun _ => rfl, fun _ => rfl, rfl⟩
theorem laws_toMatcher.ok : CtrOK Go.Proofs.Try.prog gl laws_toMatcher.spec :=
  ctr_ok (T := laws_toMatcher.T) (F := laws_toMatcher.F) (lb := laws_toMatcher.lb) (st := laws_toMatcher.st) (step := laws_toMatcher.step) (md := laws_toMatcher.md) tabs laws_toMatcher.text laws_toMatcher.seg_eq (fun n x => ⟨.p0 x.1, rfl, rfl, rfl⟩) (nilC)

/-! loop.example/g00039/laws.toMatcherS -/
def laws_toMatcherS.T : List Ctr := [laws_toMatcher.spec]
def laws_toMatcherS.md : List (Nat × List Md) := []
noncomputable def laws_toMatcherS.F : Fun := ⟨(Go.Proofs.Try.f70.body).getD .skip, [.v (.sl false (.pair .str (.pair (.int .i64) (.pair .str .unit))))], [(.tmp 2, (.sl false (.pair .str (.pair (.int .i64) (.pair .str .unit)))))], [], 0, [(9, ⟨[0, 3, 4], [(3, (.pair .str (.pair (.int .i64) (.pair .str .unit))))], []⟩)]⟩
inductive laws_toMatcherS.Pt where
  | p0 (a0 : List ((ByteArray) × ((Int) × ((ByteArray) × (Unit)))))
  | p9 (y1 : List ((ByteArray) × ((Int) × ((ByteArray) × (Unit))))) (y2 : Int) (y3 : List ((ByteArray) × ((Int) × ((ByteArray) × (Unit)))))
def laws_toMatcherS.lb : laws_toMatcherS.Pt → Nat
  | .p0 _ => 0
  | .p9 _ _ _ => 9
def laws_toMatcherS.st : laws_toMatcherS.Pt → St
  | .p0 a0 => enter [.v (.sl false (.pair .str (.pair (.int .i64) (.pair .str .unit)))) a0] 0
  | .p9 y1 y2 y3 => ⟨[(0, .im (.sl false (.pair .str (.pair (.int .i64) (.pair .str .unit)))) y1), (3, .hs 0 [] none 0), (4, .im (.int .i64) y2)], [(0, .arr false (.pair .str (.pair (.int .i64) (.pair .str .unit))) y3 0)], 1⟩
def laws_toMatcherS.step (n : Nat) (K : laws_toMatcherS.Pt → Option (Tup [(.sl false (.pair .str (.pair (.int .i64) (.pair .str .unit))))])) : laws_toMatcherS.Pt → Option (Tup [(.sl false (.pair .str (.pair (.int .i64) (.pair .str .unit))))])
  | .p0 a0 => cond (inC ((List.length a0) : Int) ((List.length a0) : Int) 1000000000) (K (.p9 a0 (0 : Int) (List.replicate (Int.toNat ((List.length a0) : Int)) (default : (ByteArray) × ((Int) × ((ByteArray) × (Unit))))))) (none)
  | .p9 y1 y2 y3 => cond (decide (y2 < ((List.length y1) : Int))) (cond (inB y2 (List.length y1)) ((laws_toMatcher n ((List.getD y1 (Int.toNat y2) default).1, ((List.getD y1 (Int.toNat y2) default).2.1, ((List.getD y1 (Int.toNat y2) default).2.2.1, ())))).bind fun r6 => cond (inB y2 (List.length y3)) (K (.p9 y1 (IntKind.wrap .i64 (y2 + (1 : Int))) (List.set y3 (0 + (Int.toNat y2)) (r6.1, (r6.2.1, (r6.2.2.1, ())))))) (none)) (none)) (some y3)
def laws_toMatcherS (n : Nat) (a0 : List ((ByteArray) × ((Int) × ((ByteArray) × (Unit))))) : Option (Tup [(.sl false (.pair .str (.pair (.int .i64) (.pair .str .unit))))]) := goRec laws_toMatcherS.step n (.p0 a0)
def laws_toMatcherS.spec : Ctr := ⟨70, [.v (.sl false (.pair .str (.pair (.int .i64) (.pair .str .unit))))], [(.sl false (.pair .str (.pair (.int .i64) (.pair .str .unit))))], [], fun n x => laws_toMatcherS n x.1⟩
theorem laws_toMatcherS.seg_eq (n : Nat) (goto : Nat → St → Option (Tup [(.sl false (.pair .str (.pair (.int .i64) (.pair .str .unit))))])) (y : laws_toMatcherS.Pt) : seg ⟨ty, gl, laws_toMatcherS.md, calOf laws_toMatcherS.T n⟩ laws_toMatcherS.F.np laws_toMatcherS.F.ks goto (laws_toMatcherS.F.fin ⟨ty, gl, laws_toMatcherS.md, calOf laws_toMatcherS.T 0⟩ [(.sl false (.pair .str (.pair (.int .i64) (.pair .str .unit))))]) laws_toMatcherS.F.c (laws_toMatcherS.lb y) (laws_toMatcherS.st y) = laws_toMatcherS.step n (fun z => goto (laws_toMatcherS.lb z) (laws_toMatcherS.st z)) y := by
  cases y <;> kernel_rfl
theorem laws_toMatcherS.text : Text Go.Proofs.Try.prog laws_toMatcherS.F laws_toMatcherS.spec := ⟨⟨Go.Proofs.Try.f70, by kernel_rfl, by kernel_rfl, by decide +kernel, by kernel_rfl, by kernel_rfl, of_decide_eq_true (by kernel_rfl)⟩, fun _ => rfl, fun _ => rfl, rfl⟩
theorem laws_toMatcherS.ok : CtrOK Go.Proofs.Try.prog gl laws_toMatcherS.spec :=
  ctr_ok (T := laws_toMatcherS.T) (F := laws_toMatcherS.F) (lb := laws_toMatcherS.lb) (st := laws_toMatcherS.st) (step := laws_toMatcherS.step) (md := laws_toMatcherS.md) tabs laws_toMatcherS.text laws_toMatcherS.seg_eq (fun n x => ⟨.p0 x.1, rfl, rfl, rfl⟩) (consC laws_toMatcher.ok (nilC))

/-! loop.example/g00039/laws.toSilence -/
def laws_toSilence.T : List Ctr := [laws_toMatcherS.spec]
def laws_toSilence.md : List (Nat × List Md) := []
noncomputable def laws_toSilence.F : Fun := ⟨(Go.Proofs.Try.f31.body).getD .skip, [.v (.pair .str (.pair (.sl false (.pair .str (.pair (.int .i64) (.pair .str .unit)))) (.pair (.int .i64) (.pair (.int .i64) .unit))))], [(.cell 2 63, (.pair .str (.pair (.sl false (.pair .str (.pair (.int .i64) (.pair .str .unit)))) (.pair (.int .i64) (.pair (.int .i64) .unit)))))], [], 0, []⟩
inductive laws_toSilence.Pt where
  | p0 (a0 : (ByteArray) × ((List ((ByteArray) × ((Int) × ((ByteArray) × (Unit))))) × ((Int) × ((Int) × (Unit)))))
def laws_toSilence.lb : laws_toSilence.Pt → Nat
  | .p0 _ => 0
def laws_toSilence.st : laws_toSilence.Pt → St
  | .p0 a0 => enter [.v (.pair .str (.pair (.sl false (.pair .str (.pair (.int .i64) (.pair .str .unit)))) (.pair (.int .i64) (.pair (.int .i64) .unit)))) a0] 0
def laws_toSilence.step (n : Nat) (K : laws_toSilence.Pt → Option (Tup [(.pair .str (.pair (.sl false (.pair .str (.pair (.int .i64) (.pair .str .unit)))) (.pair (.int .i64) (.pair (.int .i64) .unit))))])) : laws_toSilence.Pt → Option (Tup [(.pair .str (.pair (.sl false (.pair .str (.pair (.int .i64) (.pair .str .unit)))) (.pair (.int .i64) (.pair (.int .i64) .unit))))])
  | .p0 a0 => (laws_toMatcherS n a0.2.1).bind fun r4 => some (a0.1, (r4, (a0.2.2.1, (a0.2.2.2.1, ()))))
def laws_toSilence (n : Nat) (a0 : (ByteArray) × ((List ((ByteArray) × ((Int) × ((ByteArray) × (Unit))))) × ((Int) × ((Int) × (Unit))))) : Option (Tup [(.pair .str (.pair (.sl false (.pair .str (.pair (.int .i64) (.pair .str .unit)))) (.pair (.int .i64) (.pair (.int .i64) .unit))))]) := goRec laws_toSilence.step n (.p0 a0)
def laws_toSilence.spec : Ctr := ⟨31, [.v (.pair .str (.pair (.sl false (.pair .str (.pair (.int .i64) (.pair .str .unit)))) (.pair (.int .i64) (.pair (.int .i64) .unit))))], [(.pair .str (.pair (.sl false (.pair .str (.pair (.int .i64) (.pair .str .unit)))) (.pair (.int .i64) (.pair (.int .i64) .unit))))], [], fun n x => laws_toSilence n x.1⟩
theorem laws_toSilence.seg_eq (n : Nat) (goto : Nat → St → Option (Tup [(.pair .str (.pair (.sl false (.pair .str (.pair (.int .i64) (.pair .str .unit)))) (.pair (.int .i64) (.pair (.int .i64) .unit))))])) (y : laws_toSilence.Pt) : seg ⟨ty, gl, laws_toSilence.md, calOf laws_toSilence.T n⟩ laws_toSilence.F.np laws_toSilence.F.ks goto (laws_toSilence.F.fin ⟨ty, gl, laws_toSilence.md, calOf laws_toSilence.T 0⟩ [(.pair .str (.pair (.sl false (.pair .str (.pair (.int .i64) (.pair .str .unit)))) (.pair (.int .i64) (.pair (.int .i64) .unit))))]) laws_toSilence.F.c (laws_toSilence.lb y) (laws_toSilence.st y) = laws_toSilence.step n (fun z => goto (laws_toSilence.lb z) (laws_toSilence.st z)) y := by
  cases y <;> kernel_rfl
theorem laws_toSilence.text : Text Go.Proofs.Try.prog laws_toSilence.F laws_toSilence.spec := ⟨⟨Go.Proofs.Try.f31, by kernel_rfl, by kernel_rfl, by decide +kernel, by kernel_rfl, by kernel_rfl, of_decide_eq_true (by kernel_rfl)⟩, fun _ => rfl, fun _ => rfl, rfl⟩
theorem laws_toSilence.ok : CtrOK Go.Proofs.Try.prog gl laws_toSilence.spec :=
  ctr_ok (T := laws_toSilence.T) (F := laws_toSilence.F) (lb := laws_toSilence.lb) (st := laws_toSilence.st) (step := laws_toSilence.step) (md := laws_toSilence.md) tabs laws_toSilence.text laws_toSilence.seg_eq (fun n x => ⟨.p0 x.1, rfl, rfl, rfl⟩) (consC laws_toMatcherS.ok (nilC))

/-! loop.example/g00039/laws.toSilenceS -/
def laws_toSilenceS.T : List Ctr := [laws_toSilence.spec]
def laws_toSilenceS.md : List (Nat × List Md) := []
noncomputable def laws_toSilenceS.F : Fun := ⟨(Go.Proofs.Try.f9.body).getD .skip, [.v (.sl false (.pair .str (.pair (.sl false (.pair .str (.pair (.int .i64) (.pair .str .unit)))) (.pair (.int .i64) (.pair (.int .i64) .unit)))))], [(.tmp 2, (.sl false (.pair .str (.pair (.sl false (.pair .str (.pair (.int .i64) (.pair .str .unit)))) (.pair (.int .i64) (.pair (.int .i64) .unit))))))], [], 0, [(9, ⟨[0, 3, 4], [(3, (.pair .str (.pair (.sl false (.pair .str (.pair (.int .i64) (.pair .str .unit)))) (.pair (.int .i64) (.pair (.int .i64) .unit)))))], []⟩)]⟩
inductive laws_toSilenceS.Pt where
  | p0 (a0 : List ((ByteArray) × ((List ((ByteArray) × ((Int) × ((ByteArray) × (Unit))))) × ((Int) × ((Int) × (Unit))))))
  | p9 (y1 : List ((ByteArray) × ((List ((ByteArray) × ((Int) × ((ByteArray) × (Unit))))) × ((Int) × ((Int) × (Unit)))))) (y2 : Int) (y3 : List ((ByteArray) × ((List ((ByteArray) × ((Int) × ((ByteArray) × (Unit))))) × ((Int) × ((Int) × (Unit))))))
def laws_toSilenceS.lb : laws_toSilenceS.Pt → Nat
  | .p0 _ => 0
  | .p9 _ _ _ => 9
def laws_toSilenceS.st : laws_toSilenceS.Pt → St
  | .p0 a0 => enter [.v (.sl false (.pair .str (.pair (.sl false (.pair .str (.pair (.int .i64) (.pair .str .unit)))) (.pair (.int .i64) (.pair (.int .i64) .unit))))) a0] 0
  | .p9 y1 y2 y3 => ⟨[(0, .im (.sl false (.pair .str (.pair (.sl false (.pair .str (.pair (.int .i64) (.pair .str .unit)))) (.pair (.int .i64) (.pair (.int .i64) .unit))))) y1), (3, .hs 0 [] none 0), (4, .im (.int .i64) y2)], [(0, .arr false (.pair .str (.pair (.sl false (.pair .str (.pair (.int .i64) (.pair .str .unit)))) (.pair (.int .i64) (.pair (.int .i64) .unit)))) y3 0)], 1⟩
def laws_toSilenceS.step (n : Nat) (K : laws_toSilenceS.Pt → Option (Tup [(.sl false (.pair .str (.pair (.sl false (.pair .str (.pair (.int .i64) (.pair .str .unit)))) (.pair (.int .i64) (.pair (.int .i64) .unit)))))])) : laws_toSilenceS.Pt → Option (Tup [(.sl false (.pair .str (.pair (.sl false (.pair .str (.pair (.int .i64) (.pair .str .unit)))) (.pair (.int .i64) (.pair (.int .i64) .unit)))))])
  | .p0 a0 => cond (inC ((List.length a0) : Int) ((List.length a0) : Int) 1000000000) (K (.p9 a0 (0 : Int) (List.replicate (Int.toNat ((List.length a0) : Int)) (default : (ByteArray) × ((List ((ByteArray) × ((Int) × ((ByteArray) × (Unit))))) × ((Int) × ((Int) × (Unit)))))))) (none)
  | .p9 y1 y2 y3 => cond (decide (y2 < ((List.length y1) : Int))) (cond (inB y2 (List.length y1)) ((laws_toSilence n ((List.getD y1 (Int.toNat y2) default).1, ((List.getD y1 (Int.toNat y2) default).2.1, ((List.getD y1 (Int.toNat y2) default).2.2.1, ((List.getD y1 (Int.toNat y2) default).2.2.2.1, ()))))).bind fun r6 => cond (inB y2 (List.length y3)) (K (.p9 y1 (IntKind.wrap .i64 (y2 + (1 : Int))) (List.set y3 (0 + (Int.toNat y2)) (r6.1, (r6.2.1, (r6.2.2.1, (r6.2.2.2.1, ()))))))) (none)) (none)) (some y3)
def laws_toSilenceS (n : Nat) (a0 : List ((ByteArray) × ((List ((ByteArray) × ((Int) × ((ByteArray) × (Unit))))) × ((Int) × ((Int) × (Unit)))))) : Option (Tup [(.sl false (.pair .str (.pair (.sl false (.pair .str (.pair (.int .i64) (.pair .str .unit)))) (.pair (.int .i64) (.pair (.int .i64) .unit)))))]) := goRec laws_toSilenceS.step n (.p0 a0)
def laws_toSilenceS.spec : Ctr := ⟨9, [.v (.sl false (.pair .str (.pair (.sl false (.pair .str (.pair (.int .i64) (.pair .str .unit)))) (.pair (.int .i64) (.pair (.int .i64) .unit)))))], [(.sl false (.pair .str (.pair (.sl false (.pair .str (.pair (.int .i64) (.pair .str .unit)))) (.pair (.int .i64) (.pair (.int .i64) .unit)))))], [], fun n x => laws_toSilenceS n x.1⟩
theorem laws_toSilenceS.seg_eq (n : Nat) (goto : Nat → St → Option (Tup [(.sl false (.pair .str (.pair (.sl false (.pair .str (.pair (.int .i64) (.pair .str .unit)))) (.pair (.int .i64) (.pair (.int .i64) .unit)))))])) (y : laws_toSilenceS.Pt) : seg ⟨ty, gl, laws_toSilenceS.md, calOf laws_toSilenceS.T n⟩ laws_toSilenceS.F.np laws_toSilenceS.F.ks goto (laws_toSilenceS.F.fin ⟨ty, gl, laws_toSilenceS.md, calOf laws_toSilenceS.T 0⟩ [(.sl false (.pair .str (.pair (.sl false (.pair .str (.pair (.int .i64) (.pair .str .unit)))) (.pair (.int .i64) (.pair (.int .i64) .unit)))))]) laws_toSilenceS.F.c (laws_toSilenceS.lb y) (laws_toSilenceS.st y) = laws_toSilenceS.step n (fun z => goto (laws_toSilenceS.lb z) (laws_toSilenceS.st z)) y := by
  cases y <;> kernel_rfl
theorem laws_toSilenceS.text : Text Go.Proofs.Try.prog laws_toSilenceS.F laws_toSilenceS.spec := ⟨⟨Go.Proofs.Try.f9, by kernel_rfl, by kernel_rfl, by decide +kernel, by kernel_rfl, by kernel_rfl, of_decide_eq_true (by kernel_rfl)⟩, fun _ => rfl, fun _ => rfl, rfl⟩
theorem laws_toSilenceS.ok : CtrOK Go.Proofs.Try.prog gl laws_toSilenceS.spec :=
  ctr_ok (T := laws_toSilenceS.T) (F := laws_toSilenceS.F) (lb := laws_toSilenceS.lb) (st := laws_toSilenceS.st) (step := laws_toSilenceS.step) (md := laws_toSilenceS.md) tabs laws_toSilenceS.text laws_toSilenceS.seg_eq (fun n x => ⟨.p0 x.1, rfl, rfl, rfl⟩) (consC laws_toSilence.ok (nilC))

/-! loop.example/g00039/spec.l2Digit -/
def spec_l2Digit.T : List Ctr := []
def spec_l2Digit.md : List (Nat × List Md) := []
noncomputable def spec_l2Digit.F : Fun := ⟨(Go.Proofs.Try.f65.body).getD .skip, [.v (.int .u8)], [(.tmp 2, .bool)], [], 0, []⟩
inductive spec_l2Digit.Pt where
  | p0 (a0 : Int)
def spec_l2Digit.lb : spec_l2Digit.Pt → Nat
  | .p0 _ => 0
def spec_l2Digit.st : spec_l2Digit.Pt → St
  | .p0 a0 => enter [.v (.int .u8) a0] 0
def spec_l2Digit.step (n : Nat) (K : spec_l2Digit.Pt → Option (Tup [.bool])) : spec_l2Digit.Pt → Option (Tup [.bool])
  | .p0 a0 => cond (decide ((48 : Int) ≤ a0)) (some (decide (a0 ≤ (57 : Int)))) (some false)
def spec_l2Digit (n : Nat) (a0 : Int) : Option (Tup [.bool]) := goRec spec_l2Digit.step n (.p0 a0)
def spec_l2Digit.spec : Ctr := ⟨65, [.v (.int .u8)], [.bool], [], fun n x => spec_l2Digit n x.1⟩
theorem spec_l2Digit.seg_eq (n : Nat) (goto : Nat → St → Option (Tup [.bool])) (y : spec_l2Digit.Pt) : seg ⟨ty, gl, spec_l2Digit.md, calOf spec_l2Digit.T n⟩ spec_l2Digit.F.np spec_l2Digit.F.ks goto (spec_l2Digit.F.fin ⟨ty, gl, spec_l2Digit.md, calOf spec_l2Digit.T 0⟩ [.bool]) spec_l2Digit.F.c (spec_l2Digit.lb y) (spec_l2Digit.st y) = spec_l2Digit.step n (fun z => goto (spec_l2Digit.lb z) (spec_l2Digit.st z)) y := by
  cases y <;> kernel_rfl
theorem spec_l2Digit.text : Text Go.Proofs.Try.prog spec_l2Digit.F spec_l2Digit.spec := ⟨⟨Go.Proofs.Try.f65, by kernel_rfl, by kernel_rfl, by decide +kernel, by kernel_rfl, by kernel_rfl, of_decide_eq_true (by kernel_rfl)⟩, fun _ => rfl, fun _ => rfl, rfl⟩
theorem spec_l2Digit.ok : CtrOK Go.Proofs.Try.prog gl spec_l2Digit.spec :=
  ctr_ok (T := spec_l2Digit.T) (F := spec_l2Digit.F) (lb := spec_l2Digit.lb) (st := spec_l2Digit.st) (step := spec_l2Digit.step) (md := spec_l2Digit.md) tabs spec_l2Digit.text spec_l2Digit.seg_eq (fun n x => ⟨.p0 x.1, rfl, rfl, rfl⟩) (nilC)

/-! loop.example/g00039/spec.l2Letter -/
def spec_l2Letter.T : List Ctr := []
def spec_l2Letter.md : List (Nat × List Md) := []
noncomputable def spec_l2Letter.F : Fun := ⟨(Go.Proofs.Try.f66.body).getD .skip, [.v (.int .u8)], [(.tmp 2, .bool)], [], 0, []⟩
inductive spec_l2Letter.Pt where
  | p0 (a0 : Int)
def spec_l2Letter.lb : spec_l2Letter.Pt → Nat
  | .p0 _ => 0
def spec_l2Letter.st : spec_l2Letter.Pt → St
  | .p0 a0 => enter [.v (.int .u8) a0] 0
def spec_l2Letter.step (n : Nat) (K : spec_l2Letter.Pt → Option (Tup [.bool])) : spec_l2Letter.Pt → Option (Tup [.bool])
  | .p0 a0 => cond (decide ((97 : Int) ≤ a0)) (cond (decide (a0 ≤ (122 : Int))) (some true) (cond (decide ((65 : Int) ≤ a0)) (some (decide (a0 ≤ (90 : Int)))) (some false))) (cond (decide ((65 : Int) ≤ a0)) (some (decide (a0 ≤ (90 : Int)))) (some false))
def spec_l2Letter (n : Nat) (a0 : Int) : Option (Tup [.bool]) := goRec spec_l2Letter.step n (.p0 a0)
def spec_l2Letter.spec : Ctr := ⟨66, [.v (.int .u8)], [.bool], [], fun n x => spec_l2Letter n x.1⟩
theorem spec_l2Letter.seg_eq (n : Nat) (goto : Nat → St → Option (Tup [.bool])) (y : spec_l2Letter.Pt) : seg ⟨ty, gl, spec_l2Letter.md, calOf spec_l2Letter.T n⟩ spec_l2Letter.F.np spec_l2Letter.F.ks goto (spec_l2Letter.F.fin ⟨ty, gl, spec_l2Letter.md, calOf spec_l2Letter.T 0⟩ [.bool]) spec_l2Letter.F.c (spec_l2Letter.lb y) (spec_l2Letter.st y) = spec_l2Letter.step n (fun z => goto (spec_l2Letter.lb z) (spec_l2Letter.st z)) y := by
  cases y <;> kernel_rfl
theorem spec_l2Letter.text : Text Go.Proofs.Try.prog spec_l2Letter.F spec_l2Letter.spec := ⟨⟨Go.Proofs.Try.f66, by kernel_rfl, by kernel_rfl, by decide +kernel, by kernel_rfl, by kernel_rfl, of_decide_eq_true (by kernel_rfl)⟩, fun _ => rfl, fun _ => rfl, rfl⟩
theorem spec_l2Letter.ok : CtrOK Go.Proofs.Try.prog gl spec_l2Letter.spec :=
  ctr_ok (T := spec_l2Letter.T) (F := spec_l2Letter.F) (lb := spec_l2Letter.lb) (st := spec_l2Letter.st) (step := spec_l2Letter.step) (md := spec_l2Letter.md) tabs spec_l2Letter.text spec_l2Letter.seg_eq (fun n x => ⟨.p0 x.1, rfl, rfl, rfl⟩) (nilC)

/-! loop.example/g00039/spec.l2Name -/
def spec_l2Name.T : List Ctr := [spec_l2Digit.spec, spec_l2Letter.spec]
def spec_l2Name.md : List (Nat × List Md) := []
noncomputable def spec_l2Name.F : Fun := ⟨(Go.Proofs.Try.f27.body).getD .skip, [.v .str], [(.tmp 2, .bool)], [], 0, [(4, ⟨[0, 16], [], []⟩), (15, ⟨[0, 3], [], []⟩), (24, ⟨[0, 3, 40], [], []⟩)]⟩
inductive spec_l2Name.Pt where
  | p0 (a0 : ByteArray)
  | p4 (y1 : ByteArray) (y2 : Bool)
  | p15 (y1 : ByteArray) (y2 : Int)
  | p24 (y1 : ByteArray) (y2 : Int) (y3 : Bool)
def spec_l2Name.lb : spec_l2Name.Pt → Nat
  | .p0 _ => 0
  | .p4 _ _ => 4
  | .p15 _ _ => 15
  | .p24 _ _ _ => 24
def spec_l2Name.st : spec_l2Name.Pt → St
  | .p0 a0 => enter [.v .str a0] 0
  | .p4 y1 y2 => ⟨[(0, .im .str y1), (16, .im .bool y2)], [], 0⟩
  | .p15 y1 y2 => ⟨[(0, .im .str y1), (3, .im (.int .i64) y2)], [], 0⟩
  | .p24 y1 y2 y3 => ⟨[(0, .im .str y1), (3, .im (.int .i64) y2), (40, .im .bool y3)], [], 0⟩
def spec_l2Name.step (n : Nat) (K : spec_l2Name.Pt → Option (Tup [.bool])) : spec_l2Name.Pt → Option (Tup [.bool])
  | .p0 a0 => cond (decide (((ByteArray.size a0) : Int) < (1 : Int))) (K (.p4 a0 true)) (cond (decide ((40 : Int) < ((ByteArray.size a0) : Int))) (K (.p4 a0 true)) (cond (inB (0 : Int) (ByteArray.size a0)) ((spec_l2Digit n (bt a0 (0 : Int))).bind fun r4 => K (.p4 a0 r4)) (none)))
  | .p4 y1 y2 => cond y2 (some false) (K (.p15 y1 (0 : Int)))
  | .p15 y1 y2 => cond (decide (y2 < ((ByteArray.size y1) : Int))) (cond (inB y2 (ByteArray.size y1)) ((spec_l2Letter n (bt y1 y2)).bind fun r5 => cond (!r5) (cond (inB y2 (ByteArray.size y1)) ((spec_l2Digit n (bt y1 y2)).bind fun r6 => cond (!r6) (cond (inB y2 (ByteArray.size y1)) (K (.p24 y1 y2 (!(decide ((bt y1 y2) = (95 : Int)))))) (none)) (K (.p24 y1 y2 false))) (none)) (K (.p24 y1 y2 false))) (none)) (some true)
  | .p24 y1 y2 y3 => cond y3 (some false) (K (.p15 y1 (IntKind.wrap .i64 (y2 + (1 : Int)))))
def spec_l2Name (n : Nat) (a0 : ByteArray) : Option (Tup [.bool]) := goRec spec_l2Name.step n (.p0 a0)
def spec_l2Name.spec : Ctr := ⟨27, [.v .str], [.bool], [], fun n x => spec_l2Name n x.1⟩
theorem spec_l2Name.seg_eq (n : Nat) (goto : Nat → St → Option (Tup [.bool])) (y : spec_l2Name.Pt) : seg ⟨ty, gl, spec_l2Name.md, calOf spec_l2Name.T n⟩ spec_l2Name.F.np spec_l2Name.F.ks goto (spec_l2Name.F.fin ⟨ty, gl, spec_l2Name.md, calOf spec_l2Name.T 0⟩ [.bool]) spec_l2Name.F.c (spec_l2Name.lb y) (spec_l2Name.st y) = spec_l2Name.step n (fun z => goto (spec_l2Name.lb z) (spec_l2Name.st z)) y := by
  cases y <;> kernel_rfl
theorem spec_l2Name.text : Text Go.Proofs.Try.prog spec_l2Name.F spec_l2Name.spec := ⟨⟨Go.Proofs.Try.f27, by kernel_rfl, by kernel_rfl, by decide +kernel, by kernel_rfl, by kernel_rfl, of_decide_eq_true (by kernel_rfl)⟩, fun _ => rfl, fun _ => rfl, rfl⟩
theorem spec_l2Name.ok : CtrOK Go.Proofs.Try.prog gl spec_l2Name.spec :=
  ctr_ok (T := spec_l2Name.T) (F := spec_l2Name.F) (lb := spec_l2Name.lb) (st := spec_l2Name.st) (step := spec_l2Name.step) (md := spec_l2Name.md) tabs spec_l2Name.text spec_l2Name.seg_eq (fun n x => ⟨.p0 x.1, rfl, rfl, rfl⟩) (consC spec_l2Digit.ok (consC spec_l2Letter.ok (nilC)))

/-! loop.example/g00039/spec.l2Printed -/
def spec_l2Printed.T : List Ctr := []
def spec_l2Printed.md : List (Nat × List Md) := []
noncomputable def spec_l2Printed.F : Fun := ⟨(Go.Proofs.Try.f67.body).getD .skip, [.v .str], [(.tmp 2, .bool)], [], 0, [(7, ⟨[0, 3], [], []⟩)]⟩
inductive spec_l2Printed.Pt where
  | p0 (a0 : ByteArray)
  | p7 (y1 : ByteArray) (y2 : Int)
def spec_l2Printed.lb : spec_l2Printed.Pt → Nat
  | .p0 _ => 0
  | .p7 _ _ => 7
def spec_l2Printed.st : spec_l2Printed.Pt → St
  | .p0 a0 => enter [.v .str a0] 0
  | .p7 y1 y2 => ⟨[(0, .im .str y1), (3, .im (.int .i64) y2)], [], 0⟩
def spec_l2Printed.step (n : Nat) (K : spec_l2Printed.Pt → Option (Tup [.bool])) : spec_l2Printed.Pt → Option (Tup [.bool])
  | .p0 a0 => K (.p7 a0 (0 : Int))
  | .p7 y1 y2 => cond (decide (y2 < ((ByteArray.size y1) : Int))) (cond (inB y2 (ByteArray.size y1)) (cond (decide ((bt y1 y2) < (32 : Int))) (some false) (cond (inB y2 (ByteArray.size y1)) (cond (decide ((126 : Int) < (bt y1 y2))) (some false) (K (.p7 y1 (IntKind.wrap .i64 (y2 + (1 : Int)))))) (none))) (none)) (some true)
def spec_l2Printed (n : Nat) (a0 : ByteArray) : Option (Tup [.bool]) := goRec spec_l2Printed.step n (.p0 a0)
def spec_l2Printed.spec : Ctr := ⟨67, [.v .str], [.bool], [], fun n x => spec_l2Printed n x.1⟩
theorem spec_l2Printed.seg_eq (n : Nat) (goto : Nat → St → Option (Tup [.bool])) (y : spec_l2Printed.Pt) : seg ⟨ty, gl, spec_l2Printed.md, calOf spec_l2Printed.T n⟩ spec_l2Printed.F.np spec_l2Printed.F.ks goto (spec_l2Printed.F.fin ⟨ty, gl, spec_l2Printed.md, calOf spec_l2Printed.T 0⟩ [.bool]) spec_l2Printed.F.c (spec_l2Printed.lb y) (spec_l2Printed.st y) = spec_l2Printed.step n (fun z => goto (spec_l2Printed.lb z) (spec_l2Printed.st z)) y := by
  cases y <;> kernel_rfl
theorem spec_l2Printed.text : Text Go.Proofs.Try.prog spec_l2Printed.F spec_l2Printed.spec := ⟨⟨Go.Proofs.Try.f67, by kernel_rfl, by kernel_rfl, by decide +kernel, by kernel_rfl, by kernel_rfl, of_decide_eq_true (by kernel_rfl)⟩, fun _ => rfl, fun _ => rfl, rfl⟩
theorem spec_l2Printed.ok : CtrOK Go.Proofs.Try.prog gl spec_l2Printed.spec :=
  ctr_ok (T := spec_l2Printed.T) (F := spec_l2Printed.F) (lb := spec_l2Printed.lb) (st := spec_l2Printed.st) (step := spec_l2Printed.step) (md := spec_l2Printed.md) tabs spec_l2Printed.text spec_l2Printed.seg_eq (fun n x => ⟨.p0 x.1, rfl, rfl, rfl⟩) (nilC)

/-! loop.example/g00039/spec.l2Alternatives -/
def spec_l2Alternatives.T : List Ctr := [spec_l2Printed.spec]
def spec_l2Alternatives.md : List (Nat × List Md) := []
noncomputable def spec_l2Alternatives.F : Fun := ⟨(Go.Proofs.Try.f97.body).getD .skip, [.v .str], [(.tmp 2, (.sl false (.sl false (.int .i64)))), (.tmp 3, .bool)], [], 0, [(8, ⟨[0, 4, 5, 14], [(4, (.sl false (.int .i64))), (5, (.int .i64))], []⟩), (19, ⟨[0, 4, 5, 6], [(4, (.sl false (.int .i64))), (5, (.int .i64))], []⟩), (51, ⟨[0, 4, 5, 6, 78], [(4, (.sl false (.int .i64))), (5, (.int .i64))], []⟩)]⟩
inductive spec_l2Alternatives.Pt where
  | p0 (a0 : ByteArray)
  | p8 (y1 : ByteArray) (y2 : Bool) (y3 : List (List (Int))) (y4 : List (Int))
  | p19 (y1 : ByteArray) (y2 : Int) (y3 : List (List (Int))) (y4 : List (Int))
  | p51 (y1 : ByteArray) (y2 : Int) (y3 : Bool) (y4 : List (List (Int))) (y5 : List (Int))
def spec_l2Alternatives.lb : spec_l2Alternatives.Pt → Nat
  | .p0 _ => 0
  | .p8 _ _ _ _ => 8
  | .p19 _ _ _ _ => 19
  | .p51 _ _ _ _ _ => 51
def spec_l2Alternatives.st : spec_l2Alternatives.Pt → St
  | .p0 a0 => enter [.v .str a0] 0
  | .p8 y1 y2 y3 y4 => ⟨[(0, .im .str y1), (4, .hs 0 [] none 0), (5, .hs 1 [] none 0), (14, .im .bool y2)], [(0, .arr true (.sl false (.int .i64)) y3 0), (1, .arr true (.int .i64) y4 0)], 2⟩
  | .p19 y1 y2 y3 y4 => ⟨[(0, .im .str y1), (4, .hs 0 [] none 0), (5, .hs 1 [] none 0), (6, .im (.int .i64) y2)], [(0, .arr true (.sl false (.int .i64)) y3 0), (1, .arr true (.int .i64) y4 0)], 2⟩
  | .p51 y1 y2 y3 y4 y5 => ⟨[(0, .im .str y1), (4, .hs 0 [] none 0), (5, .hs 1 [] none 0), (6, .im (.int .i64) y2), (78, .im .bool y3)], [(0, .arr true (.sl false (.int .i64)) y4 0), (1, .arr true (.int .i64) y5 0)], 2⟩
def spec_l2Alternatives.step (n : Nat) (K : spec_l2Alternatives.Pt → Option (Tup [(.sl false (.sl false (.int .i64))), .bool])) : spec_l2Alternatives.Pt → Option (Tup [(.sl false (.sl false (.int .i64))), .bool])
  | .p0 a0 => cond (decide ((100 : Int) < ((ByteArray.size a0) : Int))) (K (.p8 a0 true ([] : List (List (Int))) ([] : List (Int)))) ((spec_l2Printed n a0).bind fun r4 => K (.p8 a0 (!r4) ([] : List (List (Int))) ([] : List (Int))))
  | .p8 y1 y2 y3 y4 => cond y2 (some (([] : List (List (Int))), false)) (K (.p19 y1 (0 : Int) y3 y4))
  | .p19 y1 y2 y3 y4 => cond (decide (y2 < ((ByteArray.size y1) : Int))) (cond (inB y2 (ByteArray.size y1)) (cond (decide ((bt y1 y2) = (124 : Int))) (cond (room ((List.length y3) + (List.length [y4]))) (K (.p19 y1 (IntKind.wrap .i64 (y2 + (1 : Int))) (y3 ++ [y4]) ([] : List (Int)))) (none)) (cond (decide ((bt y1 y2) = (42 : Int))) (cond (room ((List.length y4) + (List.length [(-(1 : Int))]))) (K (.p19 y1 (IntKind.wrap .i64 (y2 + (1 : Int))) y3 (y4 ++ [(-(1 : Int))]))) (none)) (cond (decide ((bt y1 y2) = (63 : Int))) (cond (room ((List.length y4) + (List.length [(-(2 : Int))]))) (K (.p19 y1 (IntKind.wrap .i64 (y2 + (1 : Int))) y3 (y4 ++ [(-(2 : Int))]))) (none)) (cond (decide ((bt y1 y2) = (92 : Int))) (cond (decide ((IntKind.wrap .i64 (y2 + (1 : Int))) = ((ByteArray.size y1) : Int))) (K (.p51 y1 (IntKind.wrap .i64 (y2 + (1 : Int))) true y3 y4)) (cond (inB (IntKind.wrap .i64 (y2 + (1 : Int))) (ByteArray.size y1)) (cond (!(decide ((bt y1 (IntKind.wrap .i64 (y2 + (1 : Int)))) = (42 : Int)))) (cond (inB (IntKind.wrap .i64 (y2 + (1 : Int))) (ByteArray.size y1)) (cond (!(decide ((bt y1 (IntKind.wrap .i64 (y2 + (1 : Int)))) = (63 : Int)))) (cond (inB (IntKind.wrap .i64 (y2 + (1 : Int))) (ByteArray.size y1)) (cond (!(decide ((bt y1 (IntKind.wrap .i64 (y2 + (1 : Int)))) = (124 : Int)))) (cond (inB (IntKind.wrap .i64 (y2 + (1 : Int))) (ByteArray.size y1)) (K (.p51 y1 (IntKind.wrap .i64 (y2 + (1 : Int))) (!(decide ((bt y1 (IntKind.wrap .i64 (y2 + (1 : Int)))) = (92 : Int)))) y3 y4)) (none)) (K (.p51 y1 (IntKind.wrap .i64 (y2 + (1 : Int))) false y3 y4))) (none)) (K (.p51 y1 (IntKind.wrap .i64 (y2 + (1 : Int))) false y3 y4))) (none)) (K (.p51 y1 (IntKind.wrap .i64 (y2 + (1 : Int))) false y3 y4))) (none))) (cond (inB y2 (ByteArray.size y1)) (cond (room ((List.length y4) + (List.length [(IntKind.wrap .i64 (bt y1 y2))]))) (K (.p19 y1 (IntKind.wrap .i64 (y2 + (1 : Int))) y3 (y4 ++ [(IntKind.wrap .i64 (bt y1 y2))]))) (none)) (none)))))) (none)) (cond (room ((List.length y3) + (List.length [y4]))) (some ((y3 ++ [y4]), true)) (none))
  | .p51 y1 y2 y3 y4 y5 => cond y3 (some (([] : List (List (Int))), false)) (cond (inB y2 (ByteArray.size y1)) (cond (room ((List.length y5) + (List.length [(IntKind.wrap .i64 (bt y1 y2))]))) (K (.p19 y1 (IntKind.wrap .i64 (y2 + (1 : Int))) y4 (y5 ++ [(IntKind.wrap .i64 (bt y1 y2))]))) (none)) (none))
def spec_l2Alternatives (n : Nat) (a0 : ByteArray) : Option (Tup [(.sl false (.sl false (.int .i64))), .bool]) := goRec spec_l2Alternatives.step n (.p0 a0)
def spec_l2Alternatives.spec : Ctr := ⟨97, [.v .str], [(.sl false (.sl false (.int .i64))), .bool], [], fun n x => spec_l2Alternatives n x.1⟩
theorem spec_l2Alternatives.seg_eq (n : Nat) (goto : Nat → St → Option (Tup [(.sl false (.sl false (.int .i64))), .bool])) (y : spec_l2Alternatives.Pt) : seg ⟨ty, gl, spec_l2Alternatives.md, calOf spec_l2Alternatives.T n⟩ spec_l2Alternatives.F.np spec_l2Alternatives.F.ks goto (spec_l2Alternatives.F.fin ⟨ty, gl, spec_l2Alternatives.md, calOf spec_l2Alternatives.T 0⟩ [(.sl false (.sl false (.int .i64))), .bool]) spec_l2Alternatives.F.c (spec_l2Alternatives.lb y) (spec_l2Alternatives.st y) = spec_l2Alternatives.step n (fun z => goto (spec_l2Alternatives.lb z) (spec_l2Alternatives.st z)) y := by
  cases y <;> kernel_rfl
theorem spec_l2Alternatives.text : Text Go.Proofs.Try.prog spec_l2Alternatives.F spec_l2Alternatives.spec := ⟨⟨Go.Proofs.Try.f97, by kernel_rfl, by kernel_rfl, by decide +kernel, by kernel_rfl, by kernel_rfl, of_decide_eq_true (by kernel_rfl)⟩, fun _ => rfl, fun _ => rfl, rfl⟩
theorem spec_l2Alternatives.ok : CtrOK Go.Proofs.Try.prog gl spec_l2Alternatives.spec :=
  ctr_ok (T := spec_l2Alternatives.T) (F := spec_l2Alternatives.F) (lb := spec_l2Alternatives.lb) (st := spec_l2Alternatives.st) (step := spec_l2Alternatives.step) (md := spec_l2Alternatives.md) tabs spec_l2Alternatives.text spec_l2Alternatives.seg_eq (fun n x => ⟨.p0 x.1, rfl, rfl, rfl⟩) (consC spec_l2Printed.ok (nilC))

/-! loop.example/g00039/spec.GoodPattern -/
def spec_GoodPattern.T : List Ctr := [spec_l2Alternatives.spec]
def spec_GoodPattern.md : List (Nat × List Md) := []
noncomputable def spec_GoodPattern.F : Fun := ⟨(Go.Proofs.Try.f68.body).getD .skip, [.v .str], [(.tmp 2, .bool)], [], 0, []⟩
inductive spec_GoodPattern.Pt where
  | p0 (a0 : ByteArray)
def spec_GoodPattern.lb : spec_GoodPattern.Pt → Nat
  | .p0 _ => 0
def spec_GoodPattern.st : spec_GoodPattern.Pt → St
  | .p0 a0 => enter [.v .str a0] 0
def spec_GoodPattern.step (n : Nat) (K : spec_GoodPattern.Pt → Option (Tup [.bool])) : spec_GoodPattern.Pt → Option (Tup [.bool])
  | .p0 a0 => (spec_l2Alternatives n a0).bind fun r4 => some r4.2
def spec_GoodPattern (n : Nat) (a0 : ByteArray) : Option (Tup [.bool]) := goRec spec_GoodPattern.step n (.p0 a0)
def spec_GoodPattern.spec : Ctr := ⟨68, [.v .str], [.bool], [], fun n x => spec_GoodPattern n x.1⟩
theorem spec_GoodPattern.seg_eq (n : Nat) (goto : Nat → St → Option (Tup [.bool])) (y : spec_GoodPattern.Pt) : seg ⟨ty, gl, spec_GoodPattern.md, calOf spec_GoodPattern.T n⟩ spec_GoodPattern.F.np spec_GoodPattern.F.ks goto (spec_GoodPattern.F.fin ⟨ty, gl, spec_GoodPattern.md, calOf spec_GoodPattern.T 0⟩ [.bool]) spec_GoodPattern.F.c (spec_GoodPattern.lb y) (spec_GoodPattern.st y) = spec_GoodPattern.step n (fun z => goto (spec_GoodPattern.lb z) (spec_GoodPattern.st z)) y := by
  cases y <;> kernel_rfl
theorem spec_GoodPattern.text : Text Go.Proofs.Try.prog spec_GoodPattern.F spec_GoodPattern.spec := ⟨⟨Go.Proofs.Try.f68, by kernel_rfl, by kernel_rfl, by decide +kernel, by kernel_rfl, by kernel_rfl, of_decide_eq_true (by kernel_rfl)⟩, fun _ => rfl, fun _ => rfl, rfl⟩
theorem spec_GoodPattern.ok : CtrOK Go.Proofs.Try.prog gl spec_GoodPattern.spec :=
  ctr_ok (T := spec_GoodPattern.T) (F := spec_GoodPattern.F) (lb := spec_GoodPattern.lb) (st := spec_GoodPattern.st) (step := spec_GoodPattern.step) (md := spec_GoodPattern.md) tabs spec_GoodPattern.text spec_GoodPattern.seg_eq (fun n x => ⟨.p0 x.1, rfl, rfl, rfl⟩) (consC spec_l2Alternatives.ok (nilC))

/-! loop.example/g00039/spec.GoodMatchers -/
def spec_GoodMatchers.T : List Ctr := [spec_l2Name.spec, spec_l2Printed.spec, spec_GoodPattern.spec]
def spec_GoodMatchers.md : List (Nat × List Md) := []
noncomputable def spec_GoodMatchers.F : Fun := ⟨(Go.Proofs.Try.f28.body).getD .skip, [.v (.sl false (.pair .str (.pair (.int .i64) (.pair .str .unit))))], [(.tmp 2, .bool)], [], 0, [(15, ⟨[8, 9, 10], [(8, (.pair .str (.pair (.int .i64) (.pair .str .unit))))], []⟩), (26, ⟨[8, 9, 10, 50], [(8, (.pair .str (.pair (.int .i64) (.pair .str .unit))))], []⟩)]⟩
inductive spec_GoodMatchers.Pt where
  | p0 (a0 : List ((ByteArray) × ((Int) × ((ByteArray) × (Unit)))))
  | p15 (y1 : List ((ByteArray) × ((Int) × ((ByteArray) × (Unit))))) (y2 : Int) (y3 : Int)
  | p26 (y1 : List ((ByteArray) × ((Int) × ((ByteArray) × (Unit))))) (y2 : Int) (y3 : Int) (y4 : Bool)
def spec_GoodMatchers.lb : spec_GoodMatchers.Pt → Nat
  | .p0 _ => 0
  | .p15 _ _ _ => 15
  | .p26 _ _ _ _ => 26
def spec_GoodMatchers.st : spec_GoodMatchers.Pt → St
  | .p0 a0 => enter [.v (.sl false (.pair .str (.pair (.int .i64) (.pair .str .unit)))) a0] 0
  | .p15 y1 y2 y3 => ⟨[(8, .im (.sl false (.pair .str (.pair (.int .i64) (.pair .str .unit)))) y1), (9, .im (.int .i64) y2), (10, .im (.int .i64) y3)], [], 0⟩
  | .p26 y1 y2 y3 y4 => ⟨[(8, .im (.sl false (.pair .str (.pair (.int .i64) (.pair .str .unit)))) y1), (9, .im (.int .i64) y2), (10, .im (.int .i64) y3), (50, .im .bool y4)], [], 0⟩
def spec_GoodMatchers.step (n : Nat) (K : spec_GoodMatchers.Pt → Option (Tup [.bool])) : spec_GoodMatchers.Pt → Option (Tup [.bool])
  | .p0 a0 => cond (decide ((10 : Int) < ((List.length a0) : Int))) (some false) (K (.p15 a0 ((List.length a0) : Int) (0 : Int)))
  | .p15 y1 y2 y3 => cond (decide (y3 < y2)) (cond (inB y3 (List.length y1)) ((spec_l2Name n (List.getD y1 (Int.toNat y3) default).1).bind fun r6 => cond (!r6) (K (.p26 y1 y2 y3 true)) (cond (decide ((List.getD y1 (Int.toNat y3) default).2.1 < (1 : Int))) (K (.p26 y1 y2 y3 true)) (cond (decide ((4 : Int) < (List.getD y1 (Int.toNat y3) default).2.1)) (K (.p26 y1 y2 y3 true)) (cond (decide ((100 : Int) < ((ByteArray.size (List.getD y1 (Int.toNat y3) default).2.2.1) : Int))) (K (.p26 y1 y2 y3 true)) ((spec_l2Printed n (List.getD y1 (Int.toNat y3) default).2.2.1).bind fun r7 => cond (!r7) (K (.p26 y1 y2 y3 true)) (cond (decide ((3 : Int) ≤ (List.getD y1 (Int.toNat y3) default).2.1)) ((spec_GoodPattern n (List.getD y1 (Int.toNat y3) default).2.2.1).bind fun r8 => K (.p26 y1 y2 y3 (!r8))) (K (.p26 y1 y2 y3 false)))))))) (none)) (some true)
  | .p26 y1 y2 y3 y4 => cond y4 (some false) (K (.p15 y1 y2 (IntKind.wrap .i64 (y3 + (1 : Int)))))
def spec_GoodMatchers (n : Nat) (a0 : List ((ByteArray) × ((Int) × ((ByteArray) × (Unit))))) : Option (Tup [.bool]) := goRec spec_GoodMatchers.step n (.p0 a0)
def spec_GoodMatchers.spec : Ctr := ⟨28, [.v (.sl false (.pair .str (.pair (.int .i64) (.pair .str .unit))))], [.bool], [], fun n x => spec_GoodMatchers n x.1⟩
theorem spec_GoodMatchers.seg_eq (n : Nat) (goto : Nat → St → Option (Tup [.bool])) (y : spec_GoodMatchers.Pt) : seg ⟨ty, gl, spec_GoodMatchers.md, calOf spec_GoodMatchers.T n⟩ spec_GoodMatchers.F.np spec_GoodMatchers.F.ks goto (spec_GoodMatchers.F.fin ⟨ty, gl, spec_GoodMatchers.md, calOf spec_GoodMatchers.T 0⟩ [.bool]) spec_GoodMatchers.F.c (spec_GoodMatchers.lb y) (spec_GoodMatchers.st y) = spec_GoodMatchers.step n (fun z => goto (spec_GoodMatchers.lb z) (spec_GoodMatchers.st z)) y := by
  cases y <;> kernel_rfl
theorem spec_GoodMatchers.text : Text Go.Proofs.Try.prog spec_GoodMatchers.F spec_GoodMatchers.spec := ⟨⟨Go.Proofs.Try.f28, by kernel_rfl, by kernel_rfl, by decide +kernel, by kernel_rfl, by kernel_rfl, of_decide_eq_true (by kernel_rfl)⟩, fun _ => rfl, fun _ => rfl, rfl⟩
theorem spec_GoodMatchers.ok : CtrOK Go.Proofs.Try.prog gl spec_GoodMatchers.spec :=
  ctr_ok (T := spec_GoodMatchers.T) (F := spec_GoodMatchers.F) (lb := spec_GoodMatchers.lb) (st := spec_GoodMatchers.st) (step := spec_GoodMatchers.step) (md := spec_GoodMatchers.md) tabs spec_GoodMatchers.text spec_GoodMatchers.seg_eq (fun n x => ⟨.p0 x.1, rfl, rfl, rfl⟩) (consC spec_l2Name.ok (consC spec_l2Printed.ok (consC spec_GoodPattern.ok (nilC))))

/-! loop.example/g00039/spec.l3Time -/
def spec_l3Time.T : List Ctr := []
def spec_l3Time.md : List (Nat × List Md) := []
noncomputable def spec_l3Time.F : Fun := ⟨(Go.Proofs.Try.f29.body).getD .skip, [.v (.int .i64)], [(.tmp 2, .bool)], [], 0, []⟩
inductive spec_l3Time.Pt where
  | p0 (a0 : Int)
def spec_l3Time.lb : spec_l3Time.Pt → Nat
  | .p0 _ => 0
def spec_l3Time.st : spec_l3Time.Pt → St
  | .p0 a0 => enter [.v (.int .i64) a0] 0
def spec_l3Time.step (n : Nat) (K : spec_l3Time.Pt → Option (Tup [.bool])) : spec_l3Time.Pt → Option (Tup [.bool])
  | .p0 a0 => cond (decide ((0 : Int) ≤ a0)) (some (decide (a0 ≤ (1000000000000 : Int)))) (some false)
def spec_l3Time (n : Nat) (a0 : Int) : Option (Tup [.bool]) := goRec spec_l3Time.step n (.p0 a0)
def spec_l3Time.spec : Ctr := ⟨29, [.v (.int .i64)], [.bool], [], fun n x => spec_l3Time n x.1⟩
theorem spec_l3Time.seg_eq (n : Nat) (goto : Nat → St → Option (Tup [.bool])) (y : spec_l3Time.Pt) : seg ⟨ty, gl, spec_l3Time.md, calOf spec_l3Time.T n⟩ spec_l3Time.F.np spec_l3Time.F.ks goto (spec_l3Time.F.fin ⟨ty, gl, spec_l3Time.md, calOf spec_l3Time.T 0⟩ [.bool]) spec_l3Time.F.c (spec_l3Time.lb y) (spec_l3Time.st y) = spec_l3Time.step n (fun z => goto (spec_l3Time.lb z) (spec_l3Time.st z)) y := by
  cases y <;> kernel_rfl
theorem spec_l3Time.text : Text Go.Proofs.Try.prog spec_l3Time.F spec_l3Time.spec := ⟨⟨Go.Proofs.Try.f29, by kernel_rfl, by kernel_rfl, by decide +kernel, by kernel_rfl, by kernel_rfl, of_decide_eq_true (by kernel_rfl)⟩, fun _ => rfl, fun _ => rfl, rfl⟩
theorem spec_l3Time.ok : CtrOK Go.Proofs.Try.prog gl spec_l3Time.spec :=
  ctr_ok (T := spec_l3Time.T) (F := spec_l3Time.F) (lb := spec_l3Time.lb) (st := spec_l3Time.st) (step := spec_l3Time.step) (md := spec_l3Time.md) tabs spec_l3Time.text spec_l3Time.seg_eq (fun n x => ⟨.p0 x.1, rfl, rfl, rfl⟩) (nilC)

/-! loop.example/g00039/spec.l2CmpNum -/
def spec_l2CmpNum.T : List Ctr := []
def spec_l2CmpNum.md : List (Nat × List Md) := []
noncomputable def spec_l2CmpNum.F : Fun := ⟨(Go.Proofs.Try.f69.body).getD .skip, [.v (.int .i64), .v (.int .i64)], [(.tmp 4, (.int .i64))], [], 0, []⟩
inductive spec_l2CmpNum.Pt where
  | p0 (a0 : Int) (a1 : Int)
def spec_l2CmpNum.lb : spec_l2CmpNum.Pt → Nat
  | .p0 _ _ => 0
def spec_l2CmpNum.st : spec_l2CmpNum.Pt → St
  | .p0 a0 a1 => enter [.v (.int .i64) a0, .v (.int .i64) a1] 0
def spec_l2CmpNum.step (n : Nat) (K : spec_l2CmpNum.Pt → Option (Tup [(.int .i64)])) : spec_l2CmpNum.Pt → Option (Tup [(.int .i64)])
  | .p0 a0 a1 => cond (decide (a0 < a1)) (some (-(1 : Int))) (cond (decide (a1 < a0)) (some (1 : Int)) (some (0 : Int)))
def spec_l2CmpNum (n : Nat) (a0 : Int) (a1 : Int) : Option (Tup [(.int .i64)]) := goRec spec_l2CmpNum.step n (.p0 a0 a1)
def spec_l2CmpNum.spec : Ctr := ⟨69, [.v (.int .i64), .v (.int .i64)], [(.int .i64)], [], fun n x => spec_l2CmpNum n x.1 x.2.1⟩
theorem spec_l2CmpNum.seg_eq (n : Nat) (goto : Nat → St → Option (Tup [(.int .i64)])) (y : spec_l2CmpNum.Pt) : seg ⟨ty, gl, spec_l2CmpNum.md, calOf spec_l2CmpNum.T n⟩ spec_l2CmpNum.F.np spec_l2CmpNum.F.ks goto (spec_l2CmpNum.F.fin ⟨ty, gl, spec_l2CmpNum.md, calOf spec_l2CmpNum.T 0⟩ [(.int .i64)]) spec_l2CmpNum.F.c (spec_l2CmpNum.lb y) (spec_l2CmpNum.st y) = spec_l2CmpNum.step n (fun z => goto (spec_l2CmpNum.lb z) (spec_l2CmpNum.st z)) y := by
  cases y <;> kernel_rfl
theorem spec_l2CmpNum.text : Text Go.Proofs.Try.prog spec_l2CmpNum.F spec_l2CmpNum.spec := ⟨⟨Go.Proofs.Try.f69, by kernel_rfl, by kernel_rfl, by decide +kernel, by kernel_rfl, by kernel_rfl, of_decide_eq_true (by kernel_rfl)⟩, fun _ => rfl, fun _ => rfl, rfl⟩
theorem spec_l2CmpNum.ok : CtrOK Go.Proofs.Try.prog gl spec_l2CmpNum.spec :=
  ctr_ok (T := spec_l2CmpNum.T) (F := spec_l2CmpNum.F) (lb := spec_l2CmpNum.lb) (st := spec_l2CmpNum.st) (step := spec_l2CmpNum.step) (md := spec_l2CmpNum.md) tabs spec_l2CmpNum.text spec_l2CmpNum.seg_eq (fun n x => ⟨.p0 x.1 x.2.1, rfl, rfl, rfl⟩) (nilC)

/-! loop.example/g00039/spec.l2CmpText -/
def spec_l2CmpText.T : List Ctr := [spec_l2CmpNum.spec]
def spec_l2CmpText.md : List (Nat × List Md) := []
noncomputable def spec_l2CmpText.F : Fun := ⟨(Go.Proofs.Try.f30.body).getD .skip, [.v .str, .v .str], [(.tmp 4, (.int .i64))], [], 0, [(7, ⟨[0, 1, 5], [], []⟩), (9, ⟨[0, 1, 5, 15], [], []⟩)]⟩
inductive spec_l2CmpText.Pt where
  | p0 (a0 : ByteArray) (a1 : ByteArray)
  | p7 (y1 : ByteArray) (y2 : ByteArray) (y3 : Int)
  | p9 (y1 : ByteArray) (y2 : ByteArray) (y3 : Int) (y4 : Bool)
def spec_l2CmpText.lb : spec_l2CmpText.Pt → Nat
  | .p0 _ _ => 0
  | .p7 _ _ _ => 7
  | .p9 _ _ _ _ => 9
def spec_l2CmpText.st : spec_l2CmpText.Pt → St
  | .p0 a0 a1 => enter [.v .str a0, .v .str a1] 0
  | .p7 y1 y2 y3 => ⟨[(0, .im .str y1), (1, .im .str y2), (5, .im (.int .i64) y3)], [], 0⟩
  | .p9 y1 y2 y3 y4 => ⟨[(0, .im .str y1), (1, .im .str y2), (5, .im (.int .i64) y3), (15, .im .bool y4)], [], 0⟩
def spec_l2CmpText.step (n : Nat) (K : spec_l2CmpText.Pt → Option (Tup [(.int .i64)])) : spec_l2CmpText.Pt → Option (Tup [(.int .i64)])
  | .p0 a0 a1 => K (.p7 a0 a1 (0 : Int))
  | .p7 y1 y2 y3 => cond (decide (y3 < ((ByteArray.size y1) : Int))) (K (.p9 y1 y2 y3 (decide (y3 < ((ByteArray.size y2) : Int))))) (K (.p9 y1 y2 y3 false))
  | .p9 y1 y2 y3 y4 => cond y4 (cond (inB y3 (ByteArray.size y1)) (cond (inB y3 (ByteArray.size y2)) (cond (!(decide ((bt y1 y3) = (bt y2 y3)))) (cond (inB y3 (ByteArray.size y1)) (cond (inB y3 (ByteArray.size y2)) ((spec_l2CmpNum n (IntKind.wrap .i64 (bt y1 y3)) (IntKind.wrap .i64 (bt y2 y3))).bind fun r7 => some r7) (none)) (none)) (K (.p7 y1 y2 (IntKind.wrap .i64 (y3 + (1 : Int)))))) (none)) (none)) ((spec_l2CmpNum n ((ByteArray.size y1) : Int) ((ByteArray.size y2) : Int)).bind fun r7 => some r7)
def spec_l2CmpText (n : Nat) (a0 : ByteArray) (a1 : ByteArray) : Option (Tup [(.int .i64)]) := goRec spec_l2CmpText.step n (.p0 a0 a1)
def spec_l2CmpText.spec : Ctr := ⟨30, [.v .str, .v .str], [(.int .i64)], [], fun n x => spec_l2CmpText n x.1 x.2.1⟩
theorem spec_l2CmpText.seg_eq (n : Nat) (goto : Nat → St → Option (Tup [(.int .i64)])) (y : spec_l2CmpText.Pt) : seg ⟨ty, gl, spec_l2CmpText.md, calOf spec_l2CmpText.T n⟩ spec_l2CmpText.F.np spec_l2CmpText.F.ks goto (spec_l2CmpText.F.fin ⟨ty, gl, spec_l2CmpText.md, calOf spec_l2CmpText.T 0⟩ [(.int .i64)]) spec_l2CmpText.F.c (spec_l2CmpText.lb y) (spec_l2CmpText.st y) = spec_l2CmpText.step n (fun z => goto (spec_l2CmpText.lb z) (spec_l2CmpText.st z)) y := by
  cases y <;> kernel_rfl
theorem spec_l2CmpText.text : Text Go.Proofs.Try.prog spec_l2CmpText.F spec_l2CmpText.spec := ⟨⟨Go.Proofs.Try.f30, by kernel_rfl, by kernel_rfl, by decide +kernel, by kernel_rfl, by kernel_rfl, of_decide_eq_true (by kernel_rfl)⟩, fun _ => rfl, fun _ => rfl, rfl⟩
theorem spec_l2CmpText.ok : CtrOK Go.Proofs.Try.prog gl spec_l2CmpText.spec :=
  ctr_ok (T := spec_l2CmpText.T) (F := spec_l2CmpText.F) (lb := spec_l2CmpText.lb) (st := spec_l2CmpText.st) (step := spec_l2CmpText.step) (md := spec_l2CmpText.md) tabs spec_l2CmpText.text spec_l2CmpText.seg_eq (fun n x => ⟨.p0 x.1 x.2.1, rfl, rfl, rfl⟩) (consC spec_l2CmpNum.ok (nilC))

/-! loop.example/g00039/spec.GoodSilences -/
def spec_GoodSilences.T : List Ctr := [spec_l2Name.spec, spec_GoodMatchers.spec, spec_l3Time.spec, spec_l2CmpText.spec]
def spec_GoodSilences.md : List (Nat × List Md) := []
noncomputable def spec_GoodSilences.F : Fun := ⟨(Go.Proofs.Try.f8.body).getD .skip, [.v (.sl false (.pair .str (.pair (.sl false (.pair .str (.pair (.int .i64) (.pair .str .unit)))) (.pair (.int .i64) (.pair (.int .i64) .unit)))))], [(.tmp 2, .bool)], [], 0, [(15, ⟨[0, 8, 9, 10], [(8, (.pair .str (.pair (.sl false (.pair .str (.pair (.int .i64) (.pair .str .unit)))) (.pair (.int .i64) (.pair (.int .i64) .unit)))))], []⟩), (26, ⟨[0, 8, 9, 10, 65], [(8, (.pair .str (.pair (.sl false (.pair .str (.pair (.int .i64) (.pair .str .unit)))) (.pair (.int .i64) (.pair (.int .i64) .unit)))))], []⟩)]⟩
inductive spec_GoodSilences.Pt where
  | p0 (a0 : List ((ByteArray) × ((List ((ByteArray) × ((Int) × ((ByteArray) × (Unit))))) × ((Int) × ((Int) × (Unit))))))
  | p15 (y1 : List ((ByteArray) × ((List ((ByteArray) × ((Int) × ((ByteArray) × (Unit))))) × ((Int) × ((Int) × (Unit)))))) (y2 : List ((ByteArray) × ((List ((ByteArray) × ((Int) × ((ByteArray) × (Unit))))) × ((Int) × ((Int) × (Unit)))))) (y3 : Int) (y4 : Int)
  | p26 (y1 : List ((ByteArray) × ((List ((ByteArray) × ((Int) × ((ByteArray) × (Unit))))) × ((Int) × ((Int) × (Unit)))))) (y2 : List ((ByteArray) × ((List ((ByteArray) × ((Int) × ((ByteArray) × (Unit))))) × ((Int) × ((Int) × (Unit)))))) (y3 : Int) (y4 : Int) (y5 : Bool)
def spec_GoodSilences.lb : spec_GoodSilences.Pt → Nat
  | .p0 _ => 0
  | .p15 _ _ _ _ => 15
  | .p26 _ _ _ _ _ => 26
def spec_GoodSilences.st : spec_GoodSilences.Pt → St
  | .p0 a0 => enter [.v (.sl false (.pair .str (.pair (.sl false (.pair .str (.pair (.int .i64) (.pair .str .unit)))) (.pair (.int .i64) (.pair (.int .i64) .unit))))) a0] 0
  | .p15 y1 y2 y3 y4 => ⟨[(0, .im (.sl false (.pair .str (.pair (.sl false (.pair .str (.pair (.int .i64) (.pair .str .unit)))) (.pair (.int .i64) (.pair (.int .i64) .unit))))) y1), (8, .im (.sl false (.pair .str (.pair (.sl false (.pair .str (.pair (.int .i64) (.pair .str .unit)))) (.pair (.int .i64) (.pair (.int .i64) .unit))))) y2), (9, .im (.int .i64) y3), (10, .im (.int .i64) y4)], [], 0⟩
  | .p26 y1 y2 y3 y4 y5 => ⟨[(0, .im (.sl false (.pair .str (.pair (.sl false (.pair .str (.pair (.int .i64) (.pair .str .unit)))) (.pair (.int .i64) (.pair (.int .i64) .unit))))) y1), (8, .im (.sl false (.pair .str (.pair (.sl false (.pair .str (.pair (.int .i64) (.pair .str .unit)))) (.pair (.int .i64) (.pair (.int .i64) .unit))))) y2), (9, .im (.int .i64) y3), (10, .im (.int .i64) y4), (65, .im .bool y5)], [], 0⟩
def spec_GoodSilences.step (n : Nat) (K : spec_GoodSilences.Pt → Option (Tup [.bool])) : spec_GoodSilences.Pt → Option (Tup [.bool])
  | .p0 a0 => cond (decide ((50 : Int) < ((List.length a0) : Int))) (some false) (K (.p15 a0 a0 ((List.length a0) : Int) (0 : Int)))
  | .p15 y1 y2 y3 y4 => cond (decide (y4 < y3)) (cond (inB y4 (List.length y2)) ((spec_l2Name n (List.getD y2 (Int.toNat y4) default).1).bind fun r7 => cond (!r7) (K (.p26 y1 y2 y3 y4 true)) ((spec_GoodMatchers n (List.getD y2 (Int.toNat y4) default).2.1).bind fun r8 => cond (!r8) (K (.p26 y1 y2 y3 y4 true)) (cond (decide (((List.length (List.getD y2 (Int.toNat y4) default).2.1) : Int) = (0 : Int))) (K (.p26 y1 y2 y3 y4 true)) ((spec_l3Time n (List.getD y2 (Int.toNat y4) default).2.2.1).bind fun r9 => cond (!r9) (K (.p26 y1 y2 y3 y4 true)) ((spec_l3Time n (List.getD y2 (Int.toNat y4) default).2.2.2.1).bind fun r10 => cond (!r10) (K (.p26 y1 y2 y3 y4 true)) (cond (decide ((List.getD y2 (Int.toNat y4) default).2.2.2.1 < (List.getD y2 (Int.toNat y4) default).2.2.1)) (K (.p26 y1 y2 y3 y4 true)) (cond (decide ((0 : Int) < y4)) (cond (inB (IntKind.wrap .i64 (y4 - (1 : Int))) (List.length y1)) ((spec_l2CmpText n (List.getD y1 (Int.toNat (IntKind.wrap .i64 (y4 - (1 : Int)))) default).1 (List.getD y2 (Int.toNat y4) default).1).bind fun r11 => K (.p26 y1 y2 y3 y4 (decide ((0 : Int) ≤ r11)))) (none)) (K (.p26 y1 y2 y3 y4 false))))))))) (none)) (some true)
  | .p26 y1 y2 y3 y4 y5 => cond y5 (some false) (K (.p15 y1 y2 y3 (IntKind.wrap .i64 (y4 + (1 : Int)))))
def spec_GoodSilences (n : Nat) (a0 : List ((ByteArray) × ((List ((ByteArray) × ((Int) × ((ByteArray) × (Unit))))) × ((Int) × ((Int) × (Unit)))))) : Option (Tup [.bool]) := goRec spec_GoodSilences.step n (.p0 a0)
def spec_GoodSilences.spec : Ctr := ⟨8, [.v (.sl false (.pair .str (.pair (.sl false (.pair .str (.pair (.int .i64) (.pair .str .unit)))) (.pair (.int .i64) (.pair (.int .i64) .unit)))))], [.bool], [], fun n x => spec_GoodSilences n x.1⟩
theorem spec_GoodSilences.seg_eq (n : Nat) (goto : Nat → St → Option (Tup [.bool])) (y : spec_GoodSilences.Pt) : seg ⟨ty, gl, spec_GoodSilences.md, calOf spec_GoodSilences.T n⟩ spec_GoodSilences.F.np spec_GoodSilences.F.ks goto (spec_GoodSilences.F.fin ⟨ty, gl, spec_GoodSilences.md, calOf spec_GoodSilences.T 0⟩ [.bool]) spec_GoodSilences.F.c (spec_GoodSilences.lb y) (spec_GoodSilences.st y) = spec_GoodSilences.step n (fun z => goto (spec_GoodSilences.lb z) (spec_GoodSilences.st z)) y := by
  cases y <;> kernel_rfl
theorem spec_GoodSilences.text : Text Go.Proofs.Try.prog spec_GoodSilences.F spec_GoodSilences.spec := ⟨⟨Go.Proofs.Try.f8, by kernel_rfl, by kernel_rfl, by decide +kernel, by kernel_rfl, by kernel_rfl, of_decide_eq_true (by kernel_rfl)⟩, fun _ => rfl, fun _ => rfl, rfl⟩
theorem spec_GoodSilences.ok : CtrOK Go.Proofs.Try.prog gl spec_GoodSilences.spec :=
  ctr_ok (T := spec_GoodSilences.T) (F := spec_GoodSilences.F) (lb := spec_GoodSilences.lb) (st := spec_GoodSilences.st) (step := spec_GoodSilences.step) (md := spec_GoodSilences.md) tabs spec_GoodSilences.text spec_GoodSilences.seg_eq (fun n x => ⟨.p0 x.1, rfl, rfl, rfl⟩) (consC spec_l2Name.ok (consC spec_GoodMatchers.ok (consC spec_l3Time.ok (consC spec_l2CmpText.ok (nilC)))))

/-! loop.example/g00039/impl.digitByte -/
def impl_digitByte.T : List Ctr := []
def impl_digitByte.md : List (Nat × List Md) := []
noncomputable def impl_digitByte.F : Fun := ⟨(Go.Proofs.Try.f71.body).getD .skip, [.v (.int .u8)], [(.tmp 2, .bool)], [], 0, []⟩
inductive impl_digitByte.Pt where
  | p0 (a0 : Int)
def impl_digitByte.lb : impl_digitByte.Pt → Nat
  | .p0 _ => 0
def impl_digitByte.st : impl_digitByte.Pt → St
  | .p0 a0 => enter [.v (.int .u8) a0] 0
def impl_digitByte.step (n : Nat) (K : impl_digitByte.Pt → Option (Tup [.bool])) : impl_digitByte.Pt → Option (Tup [.bool])
  | .p0 a0 => cond (decide ((48 : Int) ≤ a0)) (some (decide (a0 ≤ (57 : Int)))) (some false)
def impl_digitByte (n : Nat) (a0 : Int) : Option (Tup [.bool]) := goRec impl_digitByte.step n (.p0 a0)
def impl_digitByte.spec : Ctr := ⟨71, [.v (.int .u8)], [.bool], [], fun n x => impl_digitByte n x.1⟩
theorem impl_digitByte.seg_eq (n : Nat) (goto : Nat → St → Option (Tup [.bool])) (y : impl_digitByte.Pt) : seg ⟨ty, gl, impl_digitByte.md, calOf impl_digitByte.T n⟩ impl_digitByte.F.np impl_digitByte.F.ks goto (impl_digitByte.F.fin ⟨ty, gl, impl_digitByte.md, calOf impl_digitByte.T 0⟩ [.bool]) impl_digitByte.F.c (impl_digitByte.lb y) (impl_digitByte.st y) = impl_digitByte.step n (fun z => goto (impl_digitByte.lb z) (impl_digitByte.st z)) y := by
  cases y <;> kernel_rfl
theorem impl_digitByte.text : Text Go.Proofs.Try.prog impl_digitByte.F impl_digitByte.spec := ⟨⟨Go.Proofs.Try.f71, by kernel_rfl, by kernel_rfl, by decide +kernel, by kernel_rfl, by kernel_rfl, of_decide_eq_true (by kernel_rfl)⟩, fun _ => rfl, fun _ => rfl, rfl⟩
theorem impl_digitByte.ok : CtrOK Go.Proofs.Try.prog gl impl_digitByte.spec :=
  ctr_ok (T := impl_digitByte.T) (F := impl_digitByte.F) (lb := impl_digitByte.lb) (st := impl_digitByte.st) (step := impl_digitByte.step) (md := impl_digitByte.md) tabs impl_digitByte.text impl_digitByte.seg_eq (fun n x => ⟨.p0 x.1, rfl, rfl, rfl⟩) (nilC)

/-! loop.example/g00039/impl.letterByte -/
def impl_letterByte.T : List Ctr := []
def impl_letterByte.md : List (Nat × List Md) := []
noncomputable def impl_letterByte.F : Fun := ⟨(Go.Proofs.Try.f99.body).getD .skip, [.v (.int .u8)], [(.tmp 2, .bool)], [], 0, []⟩
inductive impl_letterByte.Pt where
  | p0 (a0 : Int)
def impl_letterByte.lb : impl_letterByte.Pt → Nat
  | .p0 _ => 0
def impl_letterByte.st : impl_letterByte.Pt → St
  | .p0 a0 => enter [.v (.int .u8) a0] 0
def impl_letterByte.step (n : Nat) (K : impl_letterByte.Pt → Option (Tup [.bool])) : impl_letterByte.Pt → Option (Tup [.bool])
  | .p0 a0 => cond (decide ((97 : Int) ≤ a0)) (cond (decide (a0 ≤ (122 : Int))) (some true) (cond (decide ((65 : Int) ≤ a0)) (some (decide (a0 ≤ (90 : Int)))) (some false))) (cond (decide ((65 : Int) ≤ a0)) (some (decide (a0 ≤ (90 : Int)))) (some false))
def impl_letterByte (n : Nat) (a0 : Int) : Option (Tup [.bool]) := goRec impl_letterByte.step n (.p0 a0)
def impl_letterByte.spec : Ctr := ⟨99, [.v (.int .u8)], [.bool], [], fun n x => impl_letterByte n x.1⟩
theorem impl_letterByte.seg_eq (n : Nat) (goto : Nat → St → Option (Tup [.bool])) (y : impl_letterByte.Pt) : seg ⟨ty, gl, impl_letterByte.md, calOf impl_letterByte.T n⟩ impl_letterByte.F.np impl_letterByte.F.ks goto (impl_letterByte.F.fin ⟨ty, gl, impl_letterByte.md, calOf impl_letterByte.T 0⟩ [.bool]) impl_letterByte.F.c (impl_letterByte.lb y) (impl_letterByte.st y) = impl_letterByte.step n (fun z => goto (impl_letterByte.lb z) (impl_letterByte.st z)) y := by
  cases y <;> kernel_rfl
theorem impl_letterByte.text : Text Go.Proofs.Try.prog impl_letterByte.F impl_letterByte.spec := ⟨⟨Go.Proofs.Try.f99, by kernel_rfl, by kernel_rfl, by decide +kernel, by kernel_rfl, by kernel_rfl, of_decide_eq_true (by kernel_rfl)⟩, fun _ => rfl, fun _ => rfl, rfl⟩
theorem impl_letterByte.ok : CtrOK Go.Proofs.Try.prog gl impl_letterByte.spec :=
  ctr_ok (T := impl_letterByte.T) (F := impl_letterByte.F) (lb := impl_letterByte.lb) (st := impl_letterByte.st) (step := impl_letterByte.step) (md := impl_letterByte.md) tabs impl_letterByte.text impl_letterByte.seg_eq (fun n x => ⟨.p0 x.1, rfl, rfl, rfl⟩) (nilC)

/-! loop.example/g00039/impl.wordByte -/
def impl_wordByte.T : List Ctr := [impl_digitByte.spec, impl_letterByte.spec]
def impl_wordByte.md : List (Nat × List Md) := []
noncomputable def impl_wordByte.F : Fun := ⟨(Go.Proofs.Try.f72.body).getD .skip, [.v (.int .u8)], [(.tmp 2, .bool)], [], 0, []⟩
inductive impl_wordByte.Pt where
  | p0 (a0 : Int)
def impl_wordByte.lb : impl_wordByte.Pt → Nat
  | .p0 _ => 0
def impl_wordByte.st : impl_wordByte.Pt → St
  | .p0 a0 => enter [.v (.int .u8) a0] 0
def impl_wordByte.step (n : Nat) (K : impl_wordByte.Pt → Option (Tup [.bool])) : impl_wordByte.Pt → Option (Tup [.bool])
  | .p0 a0 => (impl_letterByte n a0).bind fun r4 => cond r4 (some true) ((impl_digitByte n a0).bind fun r5 => cond r5 (some true) (some (decide (a0 = (95 : Int)))))
def impl_wordByte (n : Nat) (a0 : Int) : Option (Tup [.bool]) := goRec impl_wordByte.step n (.p0 a0)
def impl_wordByte.spec : Ctr := ⟨72, [.v (.int .u8)], [.bool], [], fun n x => impl_wordByte n x.1⟩
theorem impl_wordByte.seg_eq (n : Nat) (goto : Nat → St → Option (Tup [.bool])) (y : impl_wordByte.Pt) : seg ⟨ty, gl, impl_wordByte.md, calOf impl_wordByte.T n⟩ impl_wordByte.F.np impl_wordByte.F.ks goto (impl_wordByte.F.fin ⟨ty, gl, impl_wordByte.md, calOf impl_wordByte.T 0⟩ [.bool]) impl_wordByte.F.c (impl_wordByte.lb y) (impl_wordByte.st y) = impl_wordByte.step n (fun z => goto (impl_wordByte.lb z) (impl_wordByte.st z)) y := by
  cases y <;> kernel_rfl
theorem impl_wordByte.text : Text Go.Proofs.Try.prog impl_wordByte.F impl_wordByte.spec := ⟨⟨Go.Proofs.Try.f72, by kernel_rfl, by kernel_rfl, by decide +kernel, by kernel_rfl, by kernel_rfl, of_decide_eq_true (by kernel_rfl)⟩, fun _ => rfl, fun _ => rfl, rfl⟩
theorem impl_wordByte.ok : CtrOK Go.Proofs.Try.prog gl impl_wordByte.spec :=
  ctr_ok (T := impl_wordByte.T) (F := impl_wordByte.F) (lb := impl_wordByte.lb) (st := impl_wordByte.st) (step := impl_wordByte.step) (md := impl_wordByte.md) tabs impl_wordByte.text impl_wordByte.seg_eq (fun n x => ⟨.p0 x.1, rfl, rfl, rfl⟩) (consC impl_digitByte.ok (consC impl_letterByte.ok (nilC)))

/-! loop.example/g00039/impl.isName -/
def impl_isName.T : List Ctr := [impl_digitByte.spec, impl_wordByte.spec]
def impl_isName.md : List (Nat × List Md) := []
noncomputable def impl_isName.F : Fun := ⟨(Go.Proofs.Try.f32.body).getD .skip, [.v .str], [(.tmp 2, .bool)], [], 0, [(4, ⟨[0, 15], [], []⟩), (15, ⟨[0, 17, 18], [], []⟩)]⟩
inductive impl_isName.Pt where
  | p0 (a0 : ByteArray)
  | p4 (y1 : ByteArray) (y2 : Bool)
  | p15 (y1 : ByteArray) (y2 : Int) (y3 : Int)
def impl_isName.lb : impl_isName.Pt → Nat
  | .p0 _ => 0
  | .p4 _ _ => 4
  | .p15 _ _ _ => 15
def impl_isName.st : impl_isName.Pt → St
  | .p0 a0 => enter [.v .str a0] 0
  | .p4 y1 y2 => ⟨[(0, .im .str y1), (15, .im .bool y2)], [], 0⟩
  | .p15 y1 y2 y3 => ⟨[(0, .im .str y1), (17, .im (.int .i64) y2), (18, .im (.int .i64) y3)], [], 0⟩
def impl_isName.step (n : Nat) (K : impl_isName.Pt → Option (Tup [.bool])) : impl_isName.Pt → Option (Tup [.bool])
  | .p0 a0 => cond (seq a0 (⟨#[]⟩ : ByteArray)) (K (.p4 a0 true)) (cond (decide ((40 : Int) < ((ByteArray.size a0) : Int))) (K (.p4 a0 true)) (cond (inB (0 : Int) (ByteArray.size a0)) ((impl_digitByte n (bt a0 (0 : Int))).bind fun r4 => K (.p4 a0 r4)) (none)))
  | .p4 y1 y2 => cond y2 (some false) (K (.p15 y1 ((ByteArray.size y1) : Int) (0 : Int)))
  | .p15 y1 y2 y3 => cond (decide (y3 < y2)) (cond (inB y3 (ByteArray.size y1)) ((impl_wordByte n (bt y1 y3)).bind fun r6 => cond (!r6) (some false) (K (.p15 y1 y2 (IntKind.wrap .i64 (y3 + (1 : Int)))))) (none)) (some true)
def impl_isName (n : Nat) (a0 : ByteArray) : Option (Tup [.bool]) := goRec impl_isName.step n (.p0 a0)
def impl_isName.spec : Ctr := ⟨32, [.v .str], [.bool], [], fun n x => impl_isName n x.1⟩
theorem impl_isName.seg_eq (n : Nat) (goto : Nat → St → Option (Tup [.bool])) (y : impl_isName.Pt) : seg ⟨ty, gl, impl_isName.md, calOf impl_isName.T n⟩ impl_isName.F.np impl_isName.F.ks goto (impl_isName.F.fin ⟨ty, gl, impl_isName.md, calOf impl_isName.T 0⟩ [.bool]) impl_isName.F.c (impl_isName.lb y) (impl_isName.st y) = impl_isName.step n (fun z => goto (impl_isName.lb z) (impl_isName.st z)) y := by
  cases y <;> kernel_rfl
theorem impl_isName.text : Text Go.Proofs.Try.prog impl_isName.F impl_isName.spec := ⟨⟨Go.Proofs.Try.f32, by kernel_rfl, by kernel_rfl, by decide +kernel, by kernel_rfl, by kernel_rfl, of_decide_eq_true (by kernel_rfl)⟩, fun _ => rfl, fun _ => rfl, rfl⟩
theorem impl_isName.ok : CtrOK Go.Proofs.Try.prog gl impl_isName.spec :=
  ctr_ok (T := impl_isName.T) (F := impl_isName.F) (lb := impl_isName.lb) (st := impl_isName.st) (step := impl_isName.step) (md := impl_isName.md) tabs impl_isName.text impl_isName.seg_eq (fun n x => ⟨.p0 x.1, rfl, rfl, rfl⟩) (consC impl_digitByte.ok (consC impl_wordByte.ok (nilC)))

/-! loop.example/g00039/impl.printed -/
def impl_printed.T : List Ctr := []
def impl_printed.md : List (Nat × List Md) := []
noncomputable def impl_printed.F : Fun := ⟨(Go.Proofs.Try.f101.body).getD .skip, [.v .str, .v (.int .i64)], [(.tmp 4, .bool)], [], 0, [(15, ⟨[0, 11, 12], [], []⟩)]⟩
inductive impl_printed.Pt where
  | p0 (a0 : ByteArray) (a1 : Int)
  | p15 (y1 : ByteArray) (y2 : Int) (y3 : Int)
def impl_printed.lb : impl_printed.Pt → Nat
  | .p0 _ _ => 0
  | .p15 _ _ _ => 15
def impl_printed.st : impl_printed.Pt → St
  | .p0 a0 a1 => enter [.v .str a0, .v (.int .i64) a1] 0
  | .p15 y1 y2 y3 => ⟨[(0, .im .str y1), (11, .im (.int .i64) y2), (12, .im (.int .i64) y3)], [], 0⟩
def impl_printed.step (n : Nat) (K : impl_printed.Pt → Option (Tup [.bool])) : impl_printed.Pt → Option (Tup [.bool])
  | .p0 a0 a1 => cond (decide (a1 < ((ByteArray.size a0) : Int))) (some false) (K (.p15 a0 ((ByteArray.size a0) : Int) (0 : Int)))
  | .p15 y1 y2 y3 => cond (decide (y3 < y2)) (cond (inB y3 (ByteArray.size y1)) (cond (decide ((bt y1 y3) < (32 : Int))) (some false) (cond (inB y3 (ByteArray.size y1)) (cond (decide ((126 : Int) < (bt y1 y3))) (some false) (K (.p15 y1 y2 (IntKind.wrap .i64 (y3 + (1 : Int)))))) (none))) (none)) (some true)
def impl_printed (n : Nat) (a0 : ByteArray) (a1 : Int) : Option (Tup [.bool]) := goRec impl_printed.step n (.p0 a0 a1)
def impl_printed.spec : Ctr := ⟨101, [.v .str, .v (.int .i64)], [.bool], [], fun n x => impl_printed n x.1 x.2.1⟩
theorem impl_printed.seg_eq (n : Nat) (goto : Nat → St → Option (Tup [.bool])) (y : impl_printed.Pt) : seg ⟨ty, gl, impl_printed.md, calOf impl_printed.T n⟩ impl_printed.F.np impl_printed.F.ks goto (impl_printed.F.fin ⟨ty, gl, impl_printed.md, calOf impl_printed.T 0⟩ [.bool]) impl_printed.F.c (impl_printed.lb y) (impl_printed.st y) = impl_printed.step n (fun z => goto (impl_printed.lb z) (impl_printed.st z)) y := by
  cases y <;> kernel_rfl
theorem impl_printed.text : Text Go.Proofs.Try.prog impl_printed.F impl_printed.spec := ⟨⟨Go.Proofs.Try.f101, by kernel_rfl, by kernel_rfl, by decide +kernel, by kernel_rfl, by kernel_rfl, of_decide_eq_true (by kernel_rfl)⟩, fun _ => rfl, fun _ => rfl, rfl⟩
theorem impl_printed.ok : CtrOK Go.Proofs.Try.prog gl impl_printed.spec :=
  ctr_ok (T := impl_printed.T) (F := impl_printed.F) (lb := impl_printed.lb) (st := impl_printed.st) (step := impl_printed.step) (md := impl_printed.md) tabs impl_printed.text impl_printed.seg_eq (fun n x => ⟨.p0 x.1 x.2.1, rfl, rfl, rfl⟩) (nilC)

/-! strings.IndexByte -/
def strings_IndexByte (n : Nat) (a0 : ByteArray) (a1 : Int) : Option Int := hold n (some (Lib.indexByte a0.data.toList a1.toNat.toUInt8))
def strings_IndexByte.spec : Ctr := ⟨112, [.v .str, .v (.int .u8)], [.int .i64], [], fun n x => strings_IndexByte n x.1 x.2.1⟩
section
open Go.Proofs
def layIndexByte_ren : Go.Shelf.Ren := ⟨fun | 137 => 112 | 217 => 113 | 266 => 114 | n => n, fun | 9 => 9 | 5 => 5 | 3 => 3 | n => n, fun | n => n⟩
theorem layIndexByte : Go.Proofs.Lays.n137 Try.prog layIndexByte_ren where
  mixed := by kernel_rfl
  f137 := Try.func112.trans (congrArg some (by kernel_rfl))
  f217 := Try.func113.trans (congrArg some (by kernel_rfl))
  f266 := Try.func114.trans (congrArg some (by kernel_rfl))
  t3 := Try.underlying3
  a3 := Try.isAgg3
  z3 := Try.sizeOf3
  v3 := Try.zeroValue3
  t5 := Try.underlying5
  a5 := Try.isAgg5
  z5 := Try.sizeOf5
  v5 := Try.zeroValue5
  t9 := Try.underlying9
  a9 := Try.isAgg9
  z9 := Try.sizeOf9
  v9 := Try.zeroValue9

end
theorem strings_IndexByte.ok : CtrOK Go.Proofs.Try.prog gl strings_IndexByte.spec := by
  refine fun n => ⟨⟨Go.Proofs.Try.f112, by kernel_rfl, by kernel_rfl, by decide +kernel⟩, ?_⟩
  rintro ⟨a0, a1, ⟨⟩⟩ y hy
  obtain rfl := Option.some.inj (hold_some hy)
  intro w vs S L harg hL hSL hG
  change ArgsRep w [Arg.v .str a0, Arg.v (.int .u8) a1] vs S L at harg
  unfold ArgsRep at harg
  obtain ⟨v0, vr, S1, S2, L1, L2, rfl, rfl, rfl, h1, harg⟩ := harg
  unfold ArgsRep at harg
  obtain ⟨v1, vr, S3, S4, L3, L4, rfl, rfl, rfl, h2, harg⟩ := harg
  unfold ArgsRep at harg
  obtain ⟨rfl, rfl, rfl⟩ := harg
  unfold ArgRep at h1 h2
  obtain ⟨_, ⟨cs, rfl, rfl, rfl⟩, rfl⟩ := h1
  obtain ⟨_, ⟨cs, rfl, rfl, rfl⟩, rfl⟩ := h2
  refine (Go.Proofs.Any.strings_IndexByte layIndexByte a0 a1 w).mono ?_
  rintro e w' ⟨rfl, rfl⟩
  refine ⟨[.int .i64 (Lib.indexByte a0.data.toList a1.toNat.toUInt8)], [], [], rfl, ⟨_, [], [], [], rfl, rfl, rfl, ⟨rfl, rfl⟩, rfl, rfl⟩, ?_, by simp, by simp, rfl, rfl, rfl, Nat.le_refl _, fun _ _ _ => rfl⟩
  change OutsRep w' [Arg.v .str a0, Arg.v (.int .u8) a1] _ _ _
  simp only [OutsRep, OutRep]
  exact ⟨_, _, [], [], [], [], rfl, rfl, rfl, ⟨rfl, rfl⟩, _, _, [], [], [], [], rfl, rfl, rfl, ⟨rfl, rfl⟩, rfl, rfl⟩


/-! loop.example/g00039/impl.alternatives$1 -/
abbrev PC : U := .pair (.int .u8) (.pair .bool (.pair .bool .unit))
def impl_alternatives_1 (n : Nat) (a0 : PC.El) (a1 : List (List PC.El)) : Option (List (List PC.El)) :=
  hold n (cond (decide (a1 ≠ [] ∧ a1.length ≤ 1000000 ∧ (a1.getD (a1.length - 1) []).length ≤ 1000000)) (some (a1.set (a1.length - 1) (a1.getD (a1.length - 1) [] ++ [a0]))) none)
def impl_alternatives_1.spec : Ctr := ⟨111, [.v PC, .p (.sl false (.sl false PC))], [], [.sl false (.sl false PC)], fun n x => impl_alternatives_1 n x.1 x.2.1⟩
section
open Go.RowKit Go.Proofs
set_option maxHeartbeats 8000000 in
set_option maxRecDepth 100000 in
theorem put_calls (ht : TyOK Try.prog 140 (.sl false PC)) (c : Int) (x y : Bool) (b g q cap : Nat) (cur : Array Value) (v : Value) (l : List PC.El) (T1 T2 : TypeId) (fz : Nat × Nat) (F2 : List Nat) (W : World)
    (hb : W.heap[b]? = some (.cells #[.slice (some ⟨g, 0, none⟩) (q + 1) cap] T1 (0, 0))) (hg : W.heap[g]? = some (.cells cur T2 fz)) (hfz : ∀ j, j < cur.size → ¬ (fz.1 ≤ j ∧ j < fz.2))
    (hn2 : q ≤ 1000000) (hv : cur[q]? = some v) (hs : SlRep W true false 3 (Rep W true PC) l v F2) (hF2 : F2.Nodup) (hbF : b ∉ F2) (hgF : g ∉ F2) (hbg : b ≠ g) (hl : l.length ≤ 1000000) :
    Calls Try.prog 111 #[.agg #[.int .u8 c, .bool x, .bool y], .pointer (some ⟨b, 0, none⟩)] W fun e w' => e = .returned (.tuple #[]) ∧ ∃ v1 F3,
      SlRep w' true false 3 (Rep w' true PC) (l ++ [(c, x, y, ())]) v1 F3 ∧ F3.Nodup ∧ w'.heap[g]? = some (.cells (cur.setIfInBounds q v1) T2 fz) ∧ w'.os = W.os ∧ w'.tape = W.tape ∧ w'.output = W.output ∧ W.heap.size ≤ w'.heap.size ∧
      (∀ k, k < W.heap.size → k ≠ g → k ∉ F2 → w'.heap[k]? = W.heap[k]?) ∧ (∀ k ∈ F3, k < w'.heap.size ∧ (k < W.heap.size → k ∈ F2)) := by
  have e1 : wrap64 (((q + 1 : Nat) : Int) - 1) = (q : Int) := by unfold wrap64; omega
  have e2 : wrap64 (q : Int) = (q : Int) := by unfold wrap64; omega
  have hlt := lt_of_heap hb
  have hltg := lt_of_heap hg
  have hqs : q < cur.size := by
    rcases Nat.lt_or_ge q cur.size with h | h
    · exact h
    · rw [Array.getElem?_eq_none h] at hv; cases hv
  go_enter Try.func111, Try.ntmps111
  go_wp2
  have hbx : (W.alloc (.cells #[.int .u8 c, .bool x, .bool y] 139)).drew.heap[W.heap.size]? = some (.cells #[.int .u8 c, .bool x, .bool y] 139 (0, 0)) := alloc_new W _
  have hold : ∀ k, k < W.heap.size → (W.alloc (.cells #[.int .u8 c, .bool x, .bool y] 139)).drew.heap[k]? = W.heap[k]? := fun k hk => alloc_old W _ hk
  have hb1 := (hold b hlt).trans hb
  have hg1 := (hold g hltg).trans hg
  have hsz1 : (W.alloc (.cells #[.int .u8 c, .bool x, .bool y] 139)).drew.heap.size = W.heap.size + 1 := alloc_sz _ _
  have hFlt : ∀ k ∈ F2, k < W.heap.size := fun k hk => Rep.block_lt (u := .sl false PC) (cs := [v]) ⟨v, rfl, .inl hs⟩ k hk
  have hs1 : SlRep (W.alloc (.cells #[.int .u8 c, .bool x, .bool y] 139)).drew true false 3 (Rep (W.alloc (.cells #[.int .u8 c, .bool x, .bool y] 139)).drew true PC) l v F2 := SlRep.frame (u := PC) (fun k hk => hold k (hFlt k hk)) hs
  have hos1 : (W.alloc (.cells #[.int .u8 c, .bool x, .bool y] 139)).drew.os = W.os ∧ (W.alloc (.cells #[.int .u8 c, .bool x, .bool y] 139)).drew.tape = W.tape ∧ (W.alloc (.cells #[.int .u8 c, .bool x, .bool y] 139)).drew.output = W.output := ⟨rfl, rfl, rfl⟩
  refine start_ (n := 15) (S := fun w' => w'.cell? ⟨b, 0, none⟩ = some (.slice (some ⟨g, 0, none⟩) (q + 1) cap) ∧ w'.cell? ⟨g, q, none⟩ = some v ∧ w'.cell? ⟨W.heap.size, 0, none⟩ = some (.int .u8 c) ∧ w'.cell? ⟨W.heap.size, 1, none⟩ = some (.bool x) ∧ w'.cell? ⟨W.heap.size, 2, none⟩ = some (.bool y)) (ds := [14]) #[false, false, false, false, false, false, false, false, false, false, false, false, false, false, false] (by kernel_rfl) rfl rfl ⟨(cell_row hb1).trans rfl, (cell_row hg1).trans hv, (cell_row hbx).trans rfl, (cell_row hbx).trans rfl, (cell_row hbx).trans rfl⟩ (fun hHeld => ?_)
  generalize (W.alloc (.cells #[.int .u8 c, .bool x, .bool y] 139)).drew = W1 at hold hsz1 hbx hb1 hg1 hs1 hos1 hHeld ⊢
  refine take_ (i := 0) (N := some 3) (v := ?_) (a' := ?_) #[true, false, false, false, false, false, false, false, false, false, false, false, false, false, false] rfl rfl (by kernel_rfl) (fun _ _ _ h => h) (Or.inl ⟨by rfl, ?_⟩) hHeld ?_ ?_
  rotate_left
  · rintro w' ⟨s0, s1, s2, s3, s4⟩
    go_simp
    try with_reducible rfl
  rotate_left
  · simp only [Act.put, List.setIfInBounds_toArray, List.set_cons_zero, List.set_cons_succ, i64_w, i32_w]
    rfl
  refine take_ (i := 1) (N := some 4) (v := ?_) (a' := ?_) #[true, true, false, false, false, false, false, false, false, false, false, false, false, false, false] rfl rfl (by kernel_rfl) (fun _ _ _ h => h) (Or.inl ⟨by rfl, ?_⟩) hHeld ?_ ?_
  rotate_left
  · rintro w' ⟨s0, s1, s2, s3, s4⟩
    go_simp
    try with_reducible rfl
  rotate_left
  · simp only [Act.put, List.setIfInBounds_toArray, List.set_cons_zero, List.set_cons_succ, i64_w, i32_w]
    rfl
  refine pure_ (i := 2) (N := some 5) (v := ?_) (a' := ?_) #[true, true, true, false, false, false, false, false, false, false, false, false, false, false, false] rfl rfl (by kernel_rfl) (fun _ _ _ h => h) (Or.inl ⟨by rfl, ?_⟩) ?_ ?_
  rotate_left
  · intro w'
    go_simp
    try with_reducible rfl
  rotate_left
  · simp only [Act.put, List.setIfInBounds_toArray, List.set_cons_zero, List.set_cons_succ, i64_w, i32_w]
    rfl
  refine pure_ (i := 3) (N := some 6) (v := ?_) (a' := ?_) #[true, true, true, true, false, false, false, false, false, false, false, false, false, false, false] rfl rfl (by kernel_rfl) (fun _ _ _ h => h) (Or.inl ⟨by rfl, ?_⟩) ?_ ?_
  rotate_left
  · intro w'
    go_simp
    try with_reducible rfl
  rotate_left
  · simp only [Act.put, List.setIfInBounds_toArray, List.set_cons_zero, List.set_cons_succ, i64_w, i32_w]
    rfl
  refine take_ (i := 4) (N := some 7) (v := ?_) (a' := ?_) #[true, true, true, true, true, false, false, false, false, false, false, false, false, false, false] rfl rfl (by kernel_rfl) (fun _ _ _ h => h) (Or.inl ⟨by rfl, ?_⟩) hHeld ?_ ?_
  rotate_left
  · rintro w' ⟨s0, s1, s2, s3, s4⟩
    go_simp
    try with_reducible rfl
  rotate_left
  · simp only [Act.put, List.setIfInBounds_toArray, List.set_cons_zero, List.set_cons_succ, i64_w, i32_w]
    rfl
  refine take_ (i := 5) (N := some 8) (v := ?_) (a' := ?_) #[true, true, true, true, true, true, false, false, false, false, false, false, false, false, false] rfl rfl (by kernel_rfl) (fun _ _ _ h => h) (Or.inl ⟨by rfl, ?_⟩) hHeld ?_ ?_
  rotate_left
  · rintro w' ⟨s0, s1, s2, s3, s4⟩
    go_simp
    try with_reducible rfl
  rotate_left
  · simp only [Act.put, List.setIfInBounds_toArray, List.set_cons_zero, List.set_cons_succ, i64_w, i32_w]
    rfl
  refine pure_ (i := 6) (N := some 9) (v := ?_) (a' := ?_) #[true, true, true, true, true, true, true, false, false, false, false, false, false, false, false] rfl rfl (by kernel_rfl) (fun _ _ _ h => h) (Or.inl ⟨by rfl, ?_⟩) ?_ ?_
  rotate_left
  · intro w'
    go_simp
    try with_reducible rfl
  rotate_left
  · simp only [Act.put, List.setIfInBounds_toArray, List.set_cons_zero, List.set_cons_succ, i64_w, i32_w]
    rfl
  refine pure_ (i := 7) (N := some 10) (v := ?_) (a' := ?_) #[true, true, true, true, true, true, true, true, false, false, false, false, false, false, false] rfl rfl (by kernel_rfl) (fun _ _ _ h => h) (Or.inl ⟨by rfl, ?_⟩) ?_ ?_
  rotate_left
  · intro w'
    go_simp
    try with_reducible rfl
  rotate_left
  · simp only [Act.put, List.setIfInBounds_toArray, List.set_cons_zero, List.set_cons_succ, i64_w, i32_w]
    rfl
  refine pure_ (i := 8) (N := some 11) (v := ?_) (a' := ?_) #[true, true, true, true, true, true, true, true, true, false, false, false, false, false, false] rfl rfl (by kernel_rfl) (fun _ _ _ h => h) (Or.inl ⟨by rfl, ?_⟩) ?_ ?_
  rotate_left
  · intro w'
    go_simp
    rw [if_pos (by omega)]
  rotate_left
  · simp only [Act.put, List.setIfInBounds_toArray, List.set_cons_zero, List.set_cons_succ, i64_w, i32_w]
    rfl
  refine take_ (i := 9) (N := some 12) (v := ?_) (a' := ?_) #[true, true, true, true, true, true, true, true, true, true, false, false, false, false, false] rfl rfl (by kernel_rfl) (fun _ _ _ h => h) (Or.inl ⟨by rfl, ?_⟩) hHeld ?_ ?_
  rotate_left
  · rintro w' ⟨s0, s1, s2, s3, s4⟩
    go_simp
    try with_reducible rfl
  rotate_left
  · simp only [Act.put, List.setIfInBounds_toArray, List.set_cons_zero, List.set_cons_succ, i64_w, i32_w]
    rfl
  refine take_ (i := 10) (N := some 13) (v := ?_) (a' := ?_) #[true, true, true, true, true, true, true, true, true, true, true, false, false, false, false] rfl rfl (by kernel_rfl) (fun _ _ _ h => h) (Or.inl ⟨by rfl, ?_⟩) hHeld ?_ ?_
  rotate_left
  · rintro w' ⟨s0, s1, s2, s3, s4⟩
    go_simp
    try with_reducible rfl
  rotate_left
  · simp only [Act.put, List.setIfInBounds_toArray, List.set_cons_zero, List.set_cons_succ, i64_w, i32_w]
    rfl
  clear hHeld
  have hW2 : ∀ k, k < W1.heap.size → (W1.alloc (.cells #[.int .u8 c, .bool x, .bool y] 139)).heap[k]? = W1.heap[k]? := fun k hk => alloc_old W1 _ hk
  have hnew : (W1.alloc (.cells #[.int .u8 c, .bool x, .bool y] 139)).heap[W1.heap.size]? = some (.cells #[.int .u8 c, .bool x, .bool y] 139 (0, 0)) := alloc_new W1 _
  have hb2 := (hW2 b (lt_of_heap hb1)).trans hb1
  have hg2 := (hW2 g (lt_of_heap hg1)).trans hg1
  have hbx2 := (hW2 _ (lt_of_heap hbx)).trans hbx
  refine one_ (i := 11) (N := some 14) #[true, true, true, true, true, true, true, true, true, true, true, true, false, false, false] rfl rfl (by kernel_rfl) (by decide) (fun K hK => ?_)
  refine event_step (w1 := W1.alloc (.cells #[.int .u8 c, .bool x, .bool y] 139)) (v := .slice (some ⟨W1.heap.size, 0, none⟩) 1 1) (by rfl) (by first | (go_simp; done) | (go_simp; rfl)) ?_
  refine hK.out _ _ ⟨(cell_row hb2).trans rfl, (cell_row hg2).trans hv, (cell_row hbx2).trans rfl, (cell_row hbx2).trans rfl, (cell_row hbx2).trans rfl⟩ (fun hHeld => ?_)
  clear hK K hHeld
  refine norm_ (a' := ?_) ?_ ?_
  rotate_left
  · show Act.put _ (some 14) _ = _
    simp only [Act.put, List.setIfInBounds_toArray, List.set_cons_zero, List.set_cons_succ, i64_w, i32_w]
    rfl
  have hs2 : SlRep (W1.alloc (.cells #[.int .u8 c, .bool x, .bool y] 139)) true false 3 (Rep (W1.alloc (.cells #[.int .u8 c, .bool x, .bool y] 139)) true PC) l v F2 := SlRep.frame (u := PC) (fun k hk => hW2 k (by have := hFlt k hk; omega)) hs1
  obtain ⟨v1, w2, F3, hrun, hs3, hF3, ho1, ho2, ho3, hsz2, hfr, hF3b⟩ := append_run (P := Try.prog) (ty := 140) (t := 140) (e := false) (u := PC) (l := l) (m := [(c, x, y, ())]) (dd := ⟨W1.heap.size, 0, none⟩) (cs := [.int .u8 c, .bool x, .bool y]) ht rfl hs2 hF2
    ⟨[.int .u8 c, .bool x, .bool y], [], [], [], rfl, rfl, ⟨[.int .u8 c], [.bool x, .bool y], [], [], rfl, rfl, ⟨rfl, rfl⟩, [.bool x], [.bool y], [], [], rfl, rfl, ⟨rfl, rfl⟩, [.bool y], [], [], [], rfl, rfl, ⟨rfl, rfl⟩, rfl, rfl⟩, rfl, rfl⟩
    (cells_at (p := []) (q := []) rfl hnew rfl rfl) (by simp) (by simp; omega) 1
  have hsz3 : (W1.alloc (.cells #[.int .u8 c, .bool x, .bool y] 139)).heap.size = W1.heap.size + 1 := alloc_sz _ _
  refine one_ (i := 12) (N := some 15) #[true, true, true, true, true, true, true, true, true, true, true, true, true, false, false] rfl rfl (by kernel_rfl) (by decide) (fun K hK => ?_)
  refine event_step (w1 := w2) (v := v1) (by rfl) ?_ ?_
  · exact append_op (x := .tmp 12) (y := .tmp 14) (t := 140) rfl hrun
  have hb3 := (hfr b (by omega) hbF).trans hb2
  have hg3 := (hfr g (by omega) hgF).trans hg2
  have hbx3 := (hfr W.heap.size (by omega) (fun h => by have := hFlt _ h; omega)).trans hbx2
  refine hK.out _ _ ⟨(cell_row hb3).trans rfl, (cell_row hg3).trans hv, (cell_row hbx3).trans rfl, (cell_row hbx3).trans rfl, (cell_row hbx3).trans rfl⟩ (fun hHeld => ?_)
  clear hK K hHeld
  refine norm_ (a' := ?_) ?_ ?_
  rotate_left
  · show Act.put _ (some 15) _ = _
    simp only [Act.put, List.setIfInBounds_toArray, List.set_cons_zero, List.set_cons_succ, i64_w, i32_w]
    rfl
  refine pure_ (i := 13) (N := some 16) (v := ?_) (a' := ?_) #[true, true, true, true, true, true, true, true, true, true, true, true, true, true, false] rfl rfl (by kernel_rfl) (fun _ _ _ h => h) (Or.inl ⟨by rfl, ?_⟩) ?_ ?_
  rotate_left
  · intro w'
    go_simp
    rw [if_pos (by omega)]
  rotate_left
  · simp only [Act.put, List.setIfInBounds_toArray, List.set_cons_zero, List.set_cons_succ, i64_w, i32_w]
    rfl
  have hcq : w2.cell? ⟨g, q, none⟩ = some v := (cell_row hg3).trans hv
  have hfq : w2.frozen? ⟨g, q, none⟩ = false := frozen_row hg3 (hfz q hqs)
  obtain ⟨A1, n1, c1, e1'⟩ : ∃ A n c, v1 = Value.slice A n c := by
    rcases hs3 with ⟨h0, _⟩ | ⟨_, _, _, _, _, _, _, _, _, h0, _⟩ <;> exact ⟨_, _, _, h0⟩
  subst e1'
  refine last_ (i := 14) (N := none) #[true, true, true, true, true, true, true, true, true, true, true, true, true, true, true] rfl rfl (by kernel_rfl) (by decide) (fun K hK => ?_)
  refine skip_step (w1 := w2.setCell ⟨g, q, none⟩ (.slice A1 n1 c1)) (by rfl) rfl ?_ ?_
  · go_simp
  refine hK.out _ _ ?_
  clear hK K
  refine done_ (by kernel_rfl) ?_
  rw [setCell_put hg3]
  have hgF3 : g ∉ F3 := fun h => hgF ((hF3b g h).2 (by omega))
  have hoth : ∀ k, k ≠ g → (putB w2 g (.cells (cur.setIfInBounds q (.slice A1 n1 c1)) T2 fz)).heap[k]? = w2.heap[k]? := fun k hk => putB_other hk
  go_end0
  refine ⟨rfl, _, F3, SlRep.frame (u := PC) (fun k hk => hoth k (fun e => hgF3 (e ▸ hk))) hs3, hF3, putB_same (lt_of_heap hg3), ho1.trans hos1.1, ho2.trans hos1.2.1, ho3.trans hos1.2.2, by rw [putB_sz]; omega, ?_, ?_⟩
  · intro k hk hkg hkF
    rw [hoth k hkg, hfr k (by omega) hkF, hW2 k (by omega), hold k hk]
  · intro k hk
    have := hF3b k hk
    rw [putB_sz]
    exact ⟨this.1, fun h => this.2 (by omega)⟩
theorem impl_alternatives_1.ok : CtrOK Try.prog gl impl_alternatives_1.spec := by
  have ht : TyOK Try.prog 140 (.sl false PC) := tabs.ty _ _ (by kernel_rfl)
  intro n
  refine ⟨⟨Try.f111, by kernel_rfl, by kernel_rfl, by decide +kernel⟩, ?_⟩
  rintro ⟨x, out, ⟨⟩⟩ y hy
  obtain ⟨hc, hy⟩ := cond_none (hold_some hy)
  simp only [decide_eq_true_eq] at hc
  obtain ⟨hne, hlen, hlast⟩ := hc
  have hy : out.set (out.length - 1) (out.getD (out.length - 1) [] ++ [x]) = y := Option.some.inj hy
  subst hy
  intro w vs S L harg hL hSL hG
  change ArgsRep w [Arg.v PC x, Arg.p (.sl false (.sl false PC)) out] vs S L at harg
  unfold ArgsRep at harg
  obtain ⟨v0, vr, S1, S2, L1, L2, rfl, rfl, rfl, h1, harg⟩ := harg
  unfold ArgsRep at harg
  obtain ⟨v1, vr, S3, S4, L3, L4, rfl, rfl, rfl, h2, harg⟩ := harg
  unfold ArgsRep at harg
  obtain ⟨rfl, rfl, rfl⟩ := harg
  unfold ArgRep at h1 h2
  obtain ⟨_, ⟨cs, rfl, c1, d1, G1, H1, rfl, rfl, ⟨rfl, rfl⟩, c2, d2, G2, H2, rfl, rfl, ⟨rfl, rfl⟩, c3, d3, G3, H3, rfl, rfl, ⟨rfl, rfl⟩, rfl, rfl⟩, rfl⟩ := h1
  obtain ⟨_, rfl, b, c, T1, G, rfl, hw, ⟨v, hcv, hs⟩, rfl⟩ := h2
  have hs := hs.resolve_right bare_no
  rcases hs with ⟨_, h0, _⟩ | ⟨ad, cap, cc, T2, fz, p, m, q, G0, rfl, hsp, _, hcap, hh, hcc, hp, hr, rfl, how⟩
  · exact absurd h0 hne
  obtain ⟨hoff, hfz, hcsz, hcm⟩ := how rfl
  have hp0 : p = [] := List.eq_nil_of_length_eq_zero (by omega)
  subst hp0
  have hlp : 0 < out.length := List.length_pos_iff.2 hne
  obtain ⟨m1, m2, m3, F1, F2, F3, rfl, rfl, hm1, ⟨v2, rfl, hs2⟩, hr1, hr3, _⟩ := RepL.at (n := 1) (fun _ _ _ h => Rep.length h) ([] : List PC.El) (out.length - 1) hr (by omega)
  have hs2 := hs2.resolve_right bare_no
  simp only [List.nil_append, List.append_nil] at hL hcc ⊢
  have hblk : ad = ⟨ad.block, 0, none⟩ := by
    obtain ⟨a1, a2, a3⟩ := ad
    simp only at hoff hsp
    rw [hoff, hsp]
  generalize ad.block = g at *
  subst hblk
  have hcarr : c = #[.slice (some ⟨g, 0, none⟩) (out.length - 1 + 1) cap] := by
    apply Array.toList_inj.1
    rw [hcv]
    simp; omega
  subst hcarr
  simp only [List.nodup_cons, List.nodup_append, List.mem_cons, List.mem_append, not_or] at hL
  obtain ⟨⟨hbg, ⟨hb1, hb2⟩, hb3⟩, ⟨⟨hg1, hg2⟩, hg3⟩, ⟨n1, n2, n12⟩, n3, n123⟩ := hL
  have hq1 : out.length - 1 < cc.size := by
    have := congrArg List.length hcc
    simp at this; omega
  have hcv2 : cc[out.length - 1]? = some v2 := by
    rw [← Array.getElem?_toList, hcc]
    simp [List.append_assoc, hm1, List.getElem?_append_right]
  have hput := put_calls ht x.1 x.2.1 x.2.2.1 b g (out.length - 1) cap cc v2 _ T1 T2 fz F2 w hw hh hfz (by omega) hcv2 hs2 n2 hb2 hg2 hbg hlast
  refine Calls.mono hput ?_
  rintro e w' ⟨rfl, v3, F4, hs3, hF4, hg', ho1, ho2, ho3, hsz, hfr, hF4b⟩
  have hblt : b < w.heap.size := lt_of_heap hw
  have hglt : g < w.heap.size := lt_of_heap hh
  have hlt1 : ∀ k ∈ F1, k < w.heap.size := fun k hk => RepL.block_lt (u := .sl false PC) (fun h => Rep.block_lt h) hr1 k hk
  have hlt3 : ∀ k ∈ F3, k < w.heap.size := fun k hk => RepL.block_lt (u := .sl false PC) (fun h => Rep.block_lt h) hr3 k hk
  have hfr1 : ∀ k ∈ F1, w'.heap[k]? = w.heap[k]? := fun k hk => hfr k (hlt1 k hk) (fun e => hg1 (e ▸ hk)) (fun h => n12 k hk k h rfl)
  have hfr3 : ∀ k ∈ F3, w'.heap[k]? = w.heap[k]? := fun k hk => hfr k (hlt3 k hk) (fun e => hg3 (e ▸ hk)) (fun h => n123 k (.inr h) k hk rfl)
  have hb' : w'.heap[b]? = w.heap[b]? := hfr b hblt hbg hb2
  have k1 := RepL.imp (R := Rep w true (.sl false PC)) (S := Rep w' true (.sl false PC)) (fun x c G hG h => Rep.frame (fun k hk => hfr1 k (hG k hk)) h) hr1
  have k3 := RepL.imp (R := Rep w true (.sl false PC)) (S := Rep w' true (.sl false PC)) (fun x c G hG h => Rep.frame (fun k hk => hfr3 k (hG k hk)) h) hr3
  have k2 : RepL (Rep w' true (.sl false PC)) [out.getD (out.length - 1) [] ++ [x]] [v3] F4 := ⟨[v3], [], F4, [], by simp, by simp, ⟨v3, rfl, .inl hs3⟩, rfl, rfl⟩
  have kk := RepL.append (RepL.append k1 k2) k3
  have hset : out.take (out.length - 1) ++ [out.getD (out.length - 1) [] ++ [x]] ++ out.drop (out.length - 1 + 1) = out.set (out.length - 1) (out.getD (out.length - 1) [] ++ [x]) := by
    rw [List.set_eq_take_append_cons_drop, if_pos (by omega)]; simp
  rw [hset] at kk
  have hF41 : ∀ k ∈ F4, k ∉ F1 ∧ k ∉ F3 ∧ k ≠ g ∧ k ≠ b := by
    intro k hk
    have h5 := hF4b k hk
    refine ⟨fun h => ?_, fun h => ?_, fun h => ?_, fun h => ?_⟩
    · exact n12 k h k (h5.2 (hlt1 k h)) rfl
    · exact n123 k (.inr (h5.2 (hlt3 k h))) k h rfl
    · subst h; exact hg2 (h5.2 hglt)
    · subst h; exact hb2 (h5.2 hblt)
  refine ⟨[], [], b :: g :: (F1 ++ F4 ++ F3), rfl, ⟨rfl, rfl⟩, ?_, ?_, ?_, ho1, ho2, ho3, hsz, ?_⟩
  · change OutsRep w' [Arg.v PC x, Arg.p (.sl false (.sl false PC)) out] _ _ _
    simp only [OutsRep, OutRep]
    refine ⟨_, _, [], _, [], _, rfl, rfl, rfl, ⟨rfl, rfl⟩, _, _, _, [], _, [], rfl, (List.append_nil _).symm, (List.append_nil _).symm, ⟨_, b, _, T1, g :: (F1 ++ F4 ++ F3), rfl, rfl, hb'.trans hw, ⟨_, rfl, .inl (.inr ⟨⟨g, 0, none⟩, cap, _, T2, fz, [], m1 ++ [v3] ++ m3, q, F1 ++ F4 ++ F3, ?_, rfl, by simp, ?_, hg', ?_, rfl, kk, rfl, fun _ => ⟨rfl, ?_, ?_, hcm⟩⟩)⟩, rfl⟩, rfl, rfl⟩
    · simp; omega
    · simp; omega
    · rw [Array.toList_setIfInBounds, hcc]
      simp only [List.append_assoc]
      rw [List.set_append_right _ _ (by omega), hm1]
      simp
    · intro j hj
      rw [Array.size_setIfInBounds] at hj
      exact hfz j hj
    · rw [Array.size_setIfInBounds]; exact hcsz
  · simp only [List.nil_append, List.nodup_cons, List.nodup_append, List.mem_cons, List.mem_append, not_or]
    refine ⟨⟨hbg, ⟨hb1, fun h => (hF41 b h).2.2.2 rfl⟩, hb3⟩, ⟨⟨hg1, fun h => (hF41 g h).2.2.1 rfl⟩, hg3⟩, ⟨n1, hF4, fun i hi j hj e => (hF41 j hj).1 (e ▸ hi)⟩, n3, fun i hi j hj e => ?_⟩
    rcases hi with hi | hi
    · exact n123 i (.inl hi) j hj e
    · exact (hF41 i hi).2.1 (e ▸ hj)
  · intro k hk
    simp only [List.nil_append, List.mem_cons, List.mem_append] at hk ⊢
    rcases hk with rfl | rfl | (hk | hk) | hk
    · exact ⟨by omega, fun _ => .inl rfl⟩
    · exact ⟨by omega, fun _ => .inr (.inl rfl)⟩
    · exact ⟨by have := hlt1 k hk; omega, fun _ => .inr (.inr (.inl (.inl hk)))⟩
    · exact ⟨(hF4b k hk).1, fun h => .inr (.inr (.inl (.inr ((hF4b k hk).2 h))))⟩
    · exact ⟨by have := hlt3 k hk; omega, fun _ => .inr (.inr (.inr hk))⟩
  · intro k hk hkL
    simp only [List.mem_cons, List.mem_append, not_or] at hkL
    exact hfr k hk hkL.2.1 hkL.2.2.1.2
end


/-! loop.example/g00039/impl.alternatives -/
def impl_alternatives.T : List Ctr := [impl_printed.spec, strings_IndexByte.spec, impl_alternatives_1.spec]
def impl_alternatives.md : List (Nat × List Md) := [(111, [.v, .p (.sl false (.sl false (.pair (.int .u8) (.pair .bool (.pair .bool .unit)))))]), (1000111, [.p (.sl false (.sl false (.pair (.int .u8) (.pair .bool (.pair .bool .unit)))))])]
noncomputable def impl_alternatives.F : Fun := ⟨(Go.Proofs.Try.f109.body).getD .skip, [.v .str], [(.tmp 2, (.sl false (.sl false (.pair (.int .u8) (.pair .bool (.pair .bool .unit)))))), (.tmp 3, .bool)], [], 0, [(19, ⟨[0, 4, 5, 6], [], [(4, 0, (.sl false (.pair (.int .u8) (.pair .bool (.pair .bool .unit)))))]⟩), (51, ⟨[0, 4, 5, 6, 56], [], [(4, 0, (.sl false (.pair (.int .u8) (.pair .bool (.pair .bool .unit)))))]⟩)]⟩
inductive impl_alternatives.Pt where
  | p0 (a0 : ByteArray)
  | p19 (y1 : ByteArray) (y2 : Int) (y3 : List (List ((Int) × ((Bool) × ((Bool) × (Unit))))))
  | p51 (y1 : ByteArray) (y2 : Int) (y3 : Bool) (y4 : List (List ((Int) × ((Bool) × ((Bool) × (Unit))))))
def impl_alternatives.lb : impl_alternatives.Pt → Nat
  | .p0 _ => 0
  | .p19 _ _ _ => 19
  | .p51 _ _ _ _ => 51
def impl_alternatives.st : impl_alternatives.Pt → St
  | .p0 a0 => enter [.v .str a0] 0
  | .p19 y1 y2 y3 => ⟨[(0, .im .str y1), (4, .po 0 0), (5, .fn 111 [.po 0 0]), (6, .im (.int .i64) y2)], [(0, .obj [.hs 1 [] none 0]), (1, .arr false (.sl false (.pair (.int .u8) (.pair .bool (.pair .bool .unit)))) y3 0)], 2⟩
  | .p51 y1 y2 y3 y4 => ⟨[(0, .im .str y1), (4, .po 0 0), (5, .fn 111 [.po 0 0]), (6, .im (.int .i64) y2), (56, .im .bool y3)], [(0, .obj [.hs 1 [] none 0]), (1, .arr false (.sl false (.pair (.int .u8) (.pair .bool (.pair .bool .unit)))) y4 0)], 2⟩
def impl_alternatives.step (n : Nat) (K : impl_alternatives.Pt → Option (Tup [(.sl false (.sl false (.pair (.int .u8) (.pair .bool (.pair .bool .unit))))), .bool])) : impl_alternatives.Pt → Option (Tup [(.sl false (.sl false (.pair (.int .u8) (.pair .bool (.pair .bool .unit))))), .bool])
  | .p0 a0 => (impl_printed n a0 (100 : Int)).bind fun r4 => cond (!r4) (some (([] : List (List ((Int) × ((Bool) × ((Bool) × (Unit)))))), false)) (K (.p19 a0 (0 : Int) [([] : List ((Int) × ((Bool) × ((Bool) × (Unit)))))]))
  | .p19 y1 y2 y3 => cond (decide (y2 < ((ByteArray.size y1) : Int))) (cond (inB y2 (ByteArray.size y1)) (cond (decide ((bt y1 y2) = (124 : Int))) (cond (room ((List.length y3) + (List.length [([] : List ((Int) × ((Bool) × ((Bool) × (Unit)))))]))) (K (.p19 y1 (IntKind.wrap .i64 (y2 + (1 : Int))) (y3 ++ [([] : List ((Int) × ((Bool) × ((Bool) × (Unit)))))]))) (none)) (cond (decide ((bt y1 y2) = (42 : Int))) ((impl_alternatives_1 n ((default : Int), ((default : Bool), (true, ()))) y3).bind fun r6 => K (.p19 y1 (IntKind.wrap .i64 (y2 + (1 : Int))) r6)) (cond (decide ((bt y1 y2) = (63 : Int))) ((impl_alternatives_1 n ((default : Int), (true, ((default : Bool), ()))) y3).bind fun r6 => K (.p19 y1 (IntKind.wrap .i64 (y2 + (1 : Int))) r6)) (cond (decide ((bt y1 y2) = (92 : Int))) (cond (decide ((IntKind.wrap .i64 (y2 + (1 : Int))) = ((ByteArray.size y1) : Int))) (K (.p51 y1 (IntKind.wrap .i64 (y2 + (1 : Int))) true y3)) (cond (inB (IntKind.wrap .i64 (y2 + (1 : Int))) (ByteArray.size y1)) ((strings_IndexByte n (⟨#[42, 63, 124, 92]⟩ : ByteArray) (bt y1 (IntKind.wrap .i64 (y2 + (1 : Int))))).bind fun r6 => K (.p51 y1 (IntKind.wrap .i64 (y2 + (1 : Int))) (decide (r6 < (0 : Int))) y3)) (none))) ((impl_alternatives_1 n ((bt y1 y2), ((default : Bool), ((default : Bool), ()))) y3).bind fun r6 => K (.p19 y1 (IntKind.wrap .i64 (y2 + (1 : Int))) r6)))))) (none)) (some (y3, true))
  | .p51 y1 y2 y3 y4 => cond y3 (some (([] : List (List ((Int) × ((Bool) × ((Bool) × (Unit)))))), false)) (cond (inB y2 (ByteArray.size y1)) ((impl_alternatives_1 n ((bt y1 y2), ((default : Bool), ((default : Bool), ()))) y4).bind fun r7 => K (.p19 y1 (IntKind.wrap .i64 (y2 + (1 : Int))) r7)) (none))
def impl_alternatives (n : Nat) (a0 : ByteArray) : Option (Tup [(.sl false (.sl false (.pair (.int .u8) (.pair .bool (.pair .bool .unit))))), .bool]) := goRec impl_alternatives.step n (.p0 a0)
def impl_alternatives.spec : Ctr := ⟨109, [.v .str], [(.sl false (.sl false (.pair (.int .u8) (.pair .bool (.pair .bool .unit))))), .bool], [], fun n x => impl_alternatives n x.1⟩
theorem impl_alternatives.seg_eq (n : Nat) (goto : Nat → St → Option (Tup [(.sl false (.sl false (.pair (.int .u8) (.pair .bool (.pair .bool .unit))))), .bool])) (y : impl_alternatives.Pt) : seg ⟨ty, gl, impl_alternatives.md, calOf impl_alternatives.T n⟩ impl_alternatives.F.np impl_alternatives.F.ks goto (impl_alternatives.F.fin ⟨ty, gl, impl_alternatives.md, calOf impl_alternatives.T 0⟩ [(.sl false (.sl false (.pair (.int .u8) (.pair .bool (.pair .bool .unit))))), .bool]) impl_alternatives.F.c (impl_alternatives.lb y) (impl_alternatives.st y) = impl_alternatives.step n (fun z => goto (impl_alternatives.lb z) (impl_alternatives.st z)) y := by
  cases y <;> kernel_rfl
theorem impl_alternatives.text : Text Go.Proofs.Try.prog impl_alternatives.F impl_alternatives.spec := ⟨⟨Go.Proofs.Try.f109, by kernel_rfl, by kernel_rfl, by decide +kernel, by kernel_rfl, by kernel_rfl, of_decide_eq_true (by kernel_rfl)⟩, fun _ => rfl, fun _ => rfl, rfl⟩
theorem impl_alternatives.ok : CtrOK Go.Proofs.Try.prog gl impl_alternatives.spec :=
  ctr_ok (T := impl_alternatives.T) (F := impl_alternatives.F) (lb := impl_alternatives.lb) (st := impl_alternatives.st) (step := impl_alternatives.step) (md := impl_alternatives.md) tabs impl_alternatives.text impl_alternatives.seg_eq (fun n x => ⟨.p0 x.1, rfl, rfl, rfl⟩) (consC impl_printed.ok (consC strings_IndexByte.ok (consC impl_alternatives_1.ok (nilC))))

/-! loop.example/g00039/impl.GoodPattern -/
def impl_GoodPattern.T : List Ctr := [impl_alternatives.spec]
def impl_GoodPattern.md : List (Nat × List Md) := []
noncomputable def impl_GoodPattern.F : Fun := ⟨(Go.Proofs.Try.f102.body).getD .skip, [.v .str], [(.tmp 2, .bool)], [], 0, []⟩
inductive impl_GoodPattern.Pt where
  | p0 (a0 : ByteArray)
def impl_GoodPattern.lb : impl_GoodPattern.Pt → Nat
  | .p0 _ => 0
def impl_GoodPattern.st : impl_GoodPattern.Pt → St
  | .p0 a0 => enter [.v .str a0] 0
def impl_GoodPattern.step (n : Nat) (K : impl_GoodPattern.Pt → Option (Tup [.bool])) : impl_GoodPattern.Pt → Option (Tup [.bool])
  | .p0 a0 => (impl_alternatives n a0).bind fun r4 => some r4.2
def impl_GoodPattern (n : Nat) (a0 : ByteArray) : Option (Tup [.bool]) := goRec impl_GoodPattern.step n (.p0 a0)
def impl_GoodPattern.spec : Ctr := ⟨102, [.v .str], [.bool], [], fun n x => impl_GoodPattern n x.1⟩
theorem impl_GoodPattern.seg_eq (n : Nat) (goto : Nat → St → Option (Tup [.bool])) (y : impl_GoodPattern.Pt) : seg ⟨ty, gl, impl_GoodPattern.md, calOf impl_GoodPattern.T n⟩ impl_GoodPattern.F.np impl_GoodPattern.F.ks goto (impl_GoodPattern.F.fin ⟨ty, gl, impl_GoodPattern.md, calOf impl_GoodPattern.T 0⟩ [.bool]) impl_GoodPattern.F.c (impl_GoodPattern.lb y) (impl_GoodPattern.st y) = impl_GoodPattern.step n (fun z => goto (impl_GoodPattern.lb z) (impl_GoodPattern.st z)) y := by
  cases y <;> kernel_rfl
theorem impl_GoodPattern.text : Text Go.Proofs.Try.prog impl_GoodPattern.F impl_GoodPattern.spec := ⟨⟨Go.Proofs.Try.f102, by kernel_rfl, by kernel_rfl, by decide +kernel, by kernel_rfl, by kernel_rfl, of_decide_eq_true (by kernel_rfl)⟩, fun _ => rfl, fun _ => rfl, rfl⟩
theorem impl_GoodPattern.ok : CtrOK Go.Proofs.Try.prog gl impl_GoodPattern.spec :=
  ctr_ok (T := impl_GoodPattern.T) (F := impl_GoodPattern.F) (lb := impl_GoodPattern.lb) (st := impl_GoodPattern.st) (step := impl_GoodPattern.step) (md := impl_GoodPattern.md) tabs impl_GoodPattern.text impl_GoodPattern.seg_eq (fun n x => ⟨.p0 x.1, rfl, rfl, rfl⟩) (consC impl_alternatives.ok (nilC))

/-! loop.example/g00039/impl.goodMatcher -/
def impl_goodMatcher.T : List Ctr := [impl_isName.spec, impl_printed.spec, impl_GoodPattern.spec]
def impl_goodMatcher.md : List (Nat × List Md) := []
noncomputable def impl_goodMatcher.F : Fun := ⟨(Go.Proofs.Try.f75.body).getD .skip, [.v (.pair .str (.pair (.int .i64) (.pair .str .unit)))], [(.tmp 2, .bool)], [], 0, [(4, ⟨[1, 22], [], []⟩)]⟩
inductive impl_goodMatcher.Pt where
  | p0 (a0 : (ByteArray) × ((Int) × ((ByteArray) × (Unit))))
  | p4 (y1 : Bool) (y2 : ByteArray) (y3 : Int) (y4 : ByteArray)
def impl_goodMatcher.lb : impl_goodMatcher.Pt → Nat
  | .p0 _ => 0
  | .p4 _ _ _ _ => 4
def impl_goodMatcher.st : impl_goodMatcher.Pt → St
  | .p0 a0 => enter [.v (.pair .str (.pair (.int .i64) (.pair .str .unit))) a0] 0
  | .p4 y1 y2 y3 y4 => ⟨[(1, .po 0 0), (22, .im .bool y1)], [(0, .obj [.im .str y2, .im (.int .i64) y3, .im .str y4])], 1⟩
def impl_goodMatcher.step (n : Nat) (K : impl_goodMatcher.Pt → Option (Tup [.bool])) : impl_goodMatcher.Pt → Option (Tup [.bool])
  | .p0 a0 => (impl_isName n a0.1).bind fun r4 => cond (!r4) (K (.p4 true a0.1 a0.2.1 a0.2.2.1)) (cond (decide (a0.2.1 < (1 : Int))) (K (.p4 true a0.1 a0.2.1 a0.2.2.1)) (cond (decide ((4 : Int) < a0.2.1)) (K (.p4 true a0.1 a0.2.1 a0.2.2.1)) ((impl_printed n a0.2.2.1 (100 : Int)).bind fun r5 => K (.p4 (!r5) a0.1 a0.2.1 a0.2.2.1))))
  | .p4 y1 y2 y3 y4 => cond y1 (some false) (cond (decide (y3 < (3 : Int))) (some true) ((impl_GoodPattern n y4).bind fun r7 => some r7))
def impl_goodMatcher (n : Nat) (a0 : (ByteArray) × ((Int) × ((ByteArray) × (Unit)))) : Option (Tup [.bool]) := goRec impl_goodMatcher.step n (.p0 a0)
def impl_goodMatcher.spec : Ctr := ⟨75, [.v (.pair .str (.pair (.int .i64) (.pair .str .unit)))], [.bool], [], fun n x => impl_goodMatcher n x.1⟩
theorem impl_goodMatcher.seg_eq (n : Nat) (goto : Nat → St → Option (Tup [.bool])) (y : impl_goodMatcher.Pt) : seg ⟨ty, gl, impl_goodMatcher.md, calOf impl_goodMatcher.T n⟩ impl_goodMatcher.F.np impl_goodMatcher.F.ks goto (impl_goodMatcher.F.fin ⟨ty, gl, impl_goodMatcher.md, calOf impl_goodMatcher.T 0⟩ [.bool]) impl_goodMatcher.F.c (impl_goodMatcher.lb y) (impl_goodMatcher.st y) = impl_goodMatcher.step n (fun z => goto (impl_goodMatcher.lb z) (impl_goodMatcher.st z)) y := by
  cases y <;> kernel_rfl
theorem impl_goodMatcher.text : Text Go.Proofs.Try.prog impl_goodMatcher.F impl_goodMatcher.spec := ⟨⟨Go.Proofs.Try.f75, by kernel_rfl, by kernel_rfl, by decide +kernel, by kernel_rfl, by kernel_rfl, of_decide_eq_true (by kernel_rfl)⟩, fun _ => rfl, fun _ => rfl, rfl⟩
theorem impl_goodMatcher.ok : CtrOK Go.Proofs.Try.prog gl impl_goodMatcher.spec :=
  ctr_ok (T := impl_goodMatcher.T) (F := impl_goodMatcher.F) (lb := impl_goodMatcher.lb) (st := impl_goodMatcher.st) (step := impl_goodMatcher.step) (md := impl_goodMatcher.md) tabs impl_goodMatcher.text impl_goodMatcher.seg_eq (fun n x => ⟨.p0 x.1, rfl, rfl, rfl⟩) (consC impl_isName.ok (consC impl_printed.ok (consC impl_GoodPattern.ok (nilC))))

/-! loop.example/g00039/impl.GoodMatchers$1 -/
def impl_GoodMatchers_1.T : List Ctr := [impl_goodMatcher.spec]
def impl_GoodMatchers_1.md : List (Nat × List Md) := []
noncomputable def impl_GoodMatchers_1.F : Fun := ⟨(Go.Proofs.Try.f74.body).getD .skip, [.v (.pair .str (.pair (.int .i64) (.pair .str .unit)))], [(.tmp 2, .bool)], [], 0, []⟩
inductive impl_GoodMatchers_1.Pt where
  | p0 (a0 : (ByteArray) × ((Int) × ((ByteArray) × (Unit))))
def impl_GoodMatchers_1.lb : impl_GoodMatchers_1.Pt → Nat
  | .p0 _ => 0
def impl_GoodMatchers_1.st : impl_GoodMatchers_1.Pt → St
  | .p0 a0 => enter [.v (.pair .str (.pair (.int .i64) (.pair .str .unit))) a0] 0
def impl_GoodMatchers_1.step (n : Nat) (K : impl_GoodMatchers_1.Pt → Option (Tup [.bool])) : impl_GoodMatchers_1.Pt → Option (Tup [.bool])
  | .p0 a0 => (impl_goodMatcher n (a0.1, (a0.2.1, (a0.2.2.1, ())))).bind fun r4 => some (!r4)
def impl_GoodMatchers_1 (n : Nat) (a0 : (ByteArray) × ((Int) × ((ByteArray) × (Unit)))) : Option (Tup [.bool]) := goRec impl_GoodMatchers_1.step n (.p0 a0)
def impl_GoodMatchers_1.spec : Ctr := ⟨74, [.v (.pair .str (.pair (.int .i64) (.pair .str .unit)))], [.bool], [], fun n x => impl_GoodMatchers_1 n x.1⟩
theorem impl_GoodMatchers_1.seg_eq (n : Nat) (goto : Nat → St → Option (Tup [.bool])) (y : impl_GoodMatchers_1.Pt) : seg ⟨ty, gl, impl_GoodMatchers_1.md, calOf impl_GoodMatchers_1.T n⟩ impl_GoodMatchers_1.F.np impl_GoodMatchers_1.F.ks goto (impl_GoodMatchers_1.F.fin ⟨ty, gl, impl_GoodMatchers_1.md, calOf impl_GoodMatchers_1.T 0⟩ [.bool]) impl_GoodMatchers_1.F.c (impl_GoodMatchers_1.lb y) (impl_GoodMatchers_1.st y) = impl_GoodMatchers_1.step n (fun z => goto (impl_GoodMatchers_1.lb z) (impl_GoodMatchers_1.st z)) y := by
  cases y <;> kernel_rfl
theorem impl_GoodMatchers_1.text : Text Go.Proofs.Try.prog impl_GoodMatchers_1.F impl_GoodMatchers_1.spec := ⟨⟨Go.Proofs.Try.f74, by kernel_rfl, by kernel_rfl, by decide +kernel, by kernel_rfl, by kernel_rfl, of_decide_eq_true (by kernel_rfl)⟩, fun _ => rfl, fun _ => rfl, rfl⟩
theorem impl_GoodMatchers_1.ok : CtrOK Go.Proofs.Try.prog gl impl_GoodMatchers_1.spec :=
  ctr_ok (T := impl_GoodMatchers_1.T) (F := impl_GoodMatchers_1.F) (lb := impl_GoodMatchers_1.lb) (st := impl_GoodMatchers_1.st) (step := impl_GoodMatchers_1.step) (md := impl_GoodMatchers_1.md) tabs impl_GoodMatchers_1.text impl_GoodMatchers_1.seg_eq (fun n x => ⟨.p0 x.1, rfl, rfl, rfl⟩) (consC impl_goodMatcher.ok (nilC))

/-! slices.IndexFunc[[]loop.example/g00039/impl.Matcher,loop.example/g00039/impl.Matcher] -/
def slices_IndexFunc_Matcher_impl_GoodMatchers_1.T : List Ctr := [impl_GoodMatchers_1.spec]
def slices_IndexFunc_Matcher_impl_GoodMatchers_1.md : List (Nat × List Md) := []
noncomputable def slices_IndexFunc_Matcher_impl_GoodMatchers_1.F : Fun := ⟨(Go.Proofs.Try.f100.body).getD .skip, [.v (.sl false (.pair .str (.pair (.int .i64) (.pair .str .unit)))), .fn 74 []], [(.tmp 4, (.int .i64))], [], 0, [(7, ⟨[0, 1, 7, 8], [], []⟩)]⟩
inductive slices_IndexFunc_Matcher_impl_GoodMatchers_1.Pt where
  | p0 (a0 : List ((ByteArray) × ((Int) × ((ByteArray) × (Unit)))))
  | p7 (y1 : List ((ByteArray) × ((Int) × ((ByteArray) × (Unit))))) (y2 : Int) (y3 : Int)
def slices_IndexFunc_Matcher_impl_GoodMatchers_1.lb : slices_IndexFunc_Matcher_impl_GoodMatchers_1.Pt → Nat
  | .p0 _ => 0
  | .p7 _ _ _ => 7
def slices_IndexFunc_Matcher_impl_GoodMatchers_1.st : slices_IndexFunc_Matcher_impl_GoodMatchers_1.Pt → St
  | .p0 a0 => enter [.v (.sl false (.pair .str (.pair (.int .i64) (.pair .str .unit)))) a0, .fn 74 []] 0
  | .p7 y1 y2 y3 => ⟨[(0, .im (.sl false (.pair .str (.pair (.int .i64) (.pair .str .unit)))) y1), (1, .fn 74 []), (7, .im (.int .i64) y2), (8, .im (.int .i64) y3)], [], 0⟩
def slices_IndexFunc_Matcher_impl_GoodMatchers_1.step (n : Nat) (K : slices_IndexFunc_Matcher_impl_GoodMatchers_1.Pt → Option (Tup [(.int .i64)])) : slices_IndexFunc_Matcher_impl_GoodMatchers_1.Pt → Option (Tup [(.int .i64)])
  | .p0 a0 => K (.p7 a0 ((List.length a0) : Int) (0 : Int))
  | .p7 y1 y2 y3 => cond (decide (y3 < y2)) (cond (inB y3 (List.length y1)) ((impl_GoodMatchers_1 n ((List.getD y1 (Int.toNat y3) default).1, ((List.getD y1 (Int.toNat y3) default).2.1, ((List.getD y1 (Int.toNat y3) default).2.2.1, ())))).bind fun r6 => cond r6 (some y3) (K (.p7 y1 y2 (IntKind.wrap .i64 (y3 + (1 : Int)))))) (none)) (some (-(1 : Int)))
def slices_IndexFunc_Matcher_impl_GoodMatchers_1 (n : Nat) (a0 : List ((ByteArray) × ((Int) × ((ByteArray) × (Unit))))) : Option (Tup [(.int .i64)]) := goRec slices_IndexFunc_Matcher_impl_GoodMatchers_1.step n (.p0 a0)
def slices_IndexFunc_Matcher_impl_GoodMatchers_1.spec : Ctr := ⟨100, [.v (.sl false (.pair .str (.pair (.int .i64) (.pair .str .unit)))), .fn 74 []], [(.int .i64)], [], fun n x => slices_IndexFunc_Matcher_impl_GoodMatchers_1 n x.1⟩
theorem slices_IndexFunc_Matcher_impl_GoodMatchers_1.seg_eq (n : Nat) (goto : Nat → St → Option (Tup [(.int .i64)])) (y : slices_IndexFunc_Matcher_impl_GoodMatchers_1.Pt) : seg ⟨ty, gl, slices_IndexFunc_Matcher_impl_GoodMatchers_1.md, calOf slices_IndexFunc_Matcher_impl_GoodMatchers_1.T n⟩ slices_IndexFunc_Matcher_impl_GoodMatchers_1.F.np slices_IndexFunc_Matcher_impl_GoodMatchers_1.F.ks goto (slices_IndexFunc_Matcher_impl_GoodMatchers_1.F.fin ⟨ty, gl, slices_IndexFunc_Matcher_impl_GoodMatchers_1.md, calOf slices_IndexFunc_Matcher_impl_GoodMatchers_1.T 0⟩ [(.int .i64)]) slices_IndexFunc_Matcher_impl_GoodMatchers_1.F.c (slices_IndexFunc_Matcher_impl_GoodMatchers_1.lb y) (slices_IndexFunc_Matcher_impl_GoodMatchers_1.st y) = slices_IndexFunc_Matcher_impl_GoodMatchers_1.step n (fun z => goto (slices_IndexFunc_Matcher_impl_GoodMatchers_1.lb z) (slices_IndexFunc_Matcher_impl_GoodMatchers_1.st z)) y := by
  cases y <;> kernel_rfl
theorem slices_IndexFunc_Matcher_impl_GoodMatchers_1.text : Text Go.Proofs.Try.prog slices_IndexFunc_Matcher_impl_GoodMatchers_1.F slices_IndexFunc_Matcher_impl_GoodMatchers_1.spec := ⟨⟨Go.Proofs.Try.f100, by kernel_rfl, by kernel_rfl, by decide +kernel, by kernel_rfl, by kernel_rfl, of_decide_eq_true (by kernel_rfl)⟩, fun _ => rfl, fun _ => rfl, rfl⟩
theorem slices_IndexFunc_Matcher_impl_GoodMatchers_1.ok : CtrOK Go.Proofs.Try.prog gl slices_IndexFunc_Matcher_impl_GoodMatchers_1.spec :=
  ctr_ok (T := slices_IndexFunc_Matcher_impl_GoodMatchers_1.T) (F := slices_IndexFunc_Matcher_impl_GoodMatchers_1.F) (lb := slices_IndexFunc_Matcher_impl_GoodMatchers_1.lb) (st := slices_IndexFunc_Matcher_impl_GoodMatchers_1.st) (step := slices_IndexFunc_Matcher_impl_GoodMatchers_1.step) (md := slices_IndexFunc_Matcher_impl_GoodMatchers_1.md) tabs slices_IndexFunc_Matcher_impl_GoodMatchers_1.text slices_IndexFunc_Matcher_impl_GoodMatchers_1.seg_eq (fun n x => ⟨.p0 x.1, rfl, rfl, rfl⟩) (consC impl_GoodMatchers_1.ok (nilC))

/-! slices.ContainsFunc[[]loop.example/g00039/impl.Matcher,loop.example/g00039/impl.Matcher] -/
def slices_ContainsFunc_Matcher_impl_GoodMatchers_1.T : List Ctr := [slices_IndexFunc_Matcher_impl_GoodMatchers_1.spec]
def slices_ContainsFunc_Matcher_impl_GoodMatchers_1.md : List (Nat × List Md) := [(100, [.v, .fn])]
noncomputable def slices_ContainsFunc_Matcher_impl_GoodMatchers_1.F : Fun := ⟨(Go.Proofs.Try.f73.body).getD .skip, [.v (.sl false (.pair .str (.pair (.int .i64) (.pair .str .unit)))), .fn 74 []], [(.tmp 4, .bool)], [], 0, []⟩
inductive slices_ContainsFunc_Matcher_impl_GoodMatchers_1.Pt where
  | p0 (a0 : List ((ByteArray) × ((Int) × ((ByteArray) × (Unit)))))
def slices_ContainsFunc_Matcher_impl_GoodMatchers_1.lb : slices_ContainsFunc_Matcher_impl_GoodMatchers_1.Pt → Nat
  | .p0 _ => 0
def slices_ContainsFunc_Matcher_impl_GoodMatchers_1.st : slices_ContainsFunc_Matcher_impl_GoodMatchers_1.Pt → St
  | .p0 a0 => enter [.v (.sl false (.pair .str (.pair (.int .i64) (.pair .str .unit)))) a0, .fn 74 []] 0
def slices_ContainsFunc_Matcher_impl_GoodMatchers_1.step (n : Nat) (K : slices_ContainsFunc_Matcher_impl_GoodMatchers_1.Pt → Option (Tup [.bool])) : slices_ContainsFunc_Matcher_impl_GoodMatchers_1.Pt → Option (Tup [.bool])
  | .p0 a0 => (slices_IndexFunc_Matcher_impl_GoodMatchers_1 n a0).bind fun r4 => some (decide ((0 : Int) ≤ r4))
def slices_ContainsFunc_Matcher_impl_GoodMatchers_1 (n : Nat) (a0 : List ((ByteArray) × ((Int) × ((ByteArray) × (Unit))))) : Option (Tup [.bool]) := goRec slices_ContainsFunc_Matcher_impl_GoodMatchers_1.step n (.p0 a0)
def slices_ContainsFunc_Matcher_impl_GoodMatchers_1.spec : Ctr := ⟨73, [.v (.sl false (.pair .str (.pair (.int .i64) (.pair .str .unit)))), .fn 74 []], [.bool], [], fun n x => slices_ContainsFunc_Matcher_impl_GoodMatchers_1 n x.1⟩
theorem slices_ContainsFunc_Matcher_impl_GoodMatchers_1.seg_eq (n : Nat) (goto : Nat → St → Option (Tup [.bool])) (y : slices_ContainsFunc_Matcher_impl_GoodMatchers_1.Pt) : seg ⟨ty, gl, slices_ContainsFunc_Matcher_impl_GoodMatchers_1.md, calOf slices_ContainsFunc_Matcher_impl_GoodMatchers_1.T n⟩ slices_ContainsFunc_Matcher_impl_GoodMatchers_1.F.np slices_ContainsFunc_Matcher_impl_GoodMatchers_1.F.ks goto (slices_ContainsFunc_Matcher_impl_GoodMatchers_1.F.fin ⟨ty, gl, slices_ContainsFunc_Matcher_impl_GoodMatchers_1.md, calOf slices_ContainsFunc_Matcher_impl_GoodMatchers_1.T 0⟩ [.bool]) slices_ContainsFunc_Matcher_impl_GoodMatchers_1.F.c (slices_ContainsFunc_Matcher_impl_GoodMatchers_1.lb y) (slices_ContainsFunc_Matcher_impl_GoodMatchers_1.st y) = slices_ContainsFunc_Matcher_impl_GoodMatchers_1.step n (fun z => goto (slices_ContainsFunc_Matcher_impl_GoodMatchers_1.lb z) (slices_ContainsFunc_Matcher_impl_GoodMatchers_1.st z)) y := by
  cases y <;> kernel_rfl
theorem slices_ContainsFunc_Matcher_impl_GoodMatchers_1.text : Text Go.Proofs.Try.prog slices_ContainsFunc_Matcher_impl_GoodMatchers_1.F slices_ContainsFunc_Matcher_impl_GoodMatchers_1.spec := ⟨⟨Go.Proofs.Try.f73, by kernel_rfl, by kernel_rfl, by decide +kernel, by kernel_rfl, by kernel_rfl, of_decide_eq_true (by kernel_rfl)⟩, fun _ => rfl, fun _ => rfl, rfl⟩
theorem slices_ContainsFunc_Matcher_impl_GoodMatchers_1.ok : CtrOK Go.Proofs.Try.prog gl slices_ContainsFunc_Matcher_impl_GoodMatchers_1.spec :=
  ctr_ok (T := slices_ContainsFunc_Matcher_impl_GoodMatchers_1.T) (F := slices_ContainsFunc_Matcher_impl_GoodMatchers_1.F) (lb := slices_ContainsFunc_Matcher_impl_GoodMatchers_1.lb) (st := slices_ContainsFunc_Matcher_impl_GoodMatchers_1.st) (step := slices_ContainsFunc_Matcher_impl_GoodMatchers_1.step) (md := slices_ContainsFunc_Matcher_impl_GoodMatchers_1.md) tabs slices_ContainsFunc_Matcher_impl_GoodMatchers_1.text slices_ContainsFunc_Matcher_impl_GoodMatchers_1.seg_eq (fun n x => ⟨.p0 x.1, rfl, rfl, rfl⟩) (consC slices_IndexFunc_Matcher_impl_GoodMatchers_1.ok (nilC))

/-! loop.example/g00039/impl.GoodMatchers -/
def impl_GoodMatchers.T : List Ctr := [impl_GoodMatchers_1.spec, slices_ContainsFunc_Matcher_impl_GoodMatchers_1.spec]
def impl_GoodMatchers.md : List (Nat × List Md) := [(73, [.v, .fn])]
noncomputable def impl_GoodMatchers.F : Fun := ⟨(Go.Proofs.Try.f33.body).getD .skip, [.v (.sl false (.pair .str (.pair (.int .i64) (.pair .str .unit))))], [(.tmp 2, .bool)], [], 0, []⟩
inductive impl_GoodMatchers.Pt where
  | p0 (a0 : List ((ByteArray) × ((Int) × ((ByteArray) × (Unit)))))
def impl_GoodMatchers.lb : impl_GoodMatchers.Pt → Nat
  | .p0 _ => 0
def impl_GoodMatchers.st : impl_GoodMatchers.Pt → St
  | .p0 a0 => enter [.v (.sl false (.pair .str (.pair (.int .i64) (.pair .str .unit)))) a0] 0
def impl_GoodMatchers.step (n : Nat) (K : impl_GoodMatchers.Pt → Option (Tup [.bool])) : impl_GoodMatchers.Pt → Option (Tup [.bool])
  | .p0 a0 => cond (decide (((List.length a0) : Int) ≤ (10 : Int))) ((slices_ContainsFunc_Matcher_impl_GoodMatchers_1 n a0).bind fun r4 => some (!r4)) (some false)
def impl_GoodMatchers (n : Nat) (a0 : List ((ByteArray) × ((Int) × ((ByteArray) × (Unit))))) : Option (Tup [.bool]) := goRec impl_GoodMatchers.step n (.p0 a0)
def impl_GoodMatchers.spec : Ctr := ⟨33, [.v (.sl false (.pair .str (.pair (.int .i64) (.pair .str .unit))))], [.bool], [], fun n x => impl_GoodMatchers n x.1⟩
theorem impl_GoodMatchers.seg_eq (n : Nat) (goto : Nat → St → Option (Tup [.bool])) (y : impl_GoodMatchers.Pt) : seg ⟨ty, gl, impl_GoodMatchers.md, calOf impl_GoodMatchers.T n⟩ impl_GoodMatchers.F.np impl_GoodMatchers.F.ks goto (impl_GoodMatchers.F.fin ⟨ty, gl, impl_GoodMatchers.md, calOf impl_GoodMatchers.T 0⟩ [.bool]) impl_GoodMatchers.F.c (impl_GoodMatchers.lb y) (impl_GoodMatchers.st y) = impl_GoodMatchers.step n (fun z => goto (impl_GoodMatchers.lb z) (impl_GoodMatchers.st z)) y := by
  cases y <;> kernel_rfl
theorem impl_GoodMatchers.text : Text Go.Proofs.Try.prog impl_GoodMatchers.F impl_GoodMatchers.spec := ⟨⟨Go.Proofs.Try.f33, by kernel_rfl, by kernel_rfl, by decide +kernel, by kernel_rfl, by kernel_rfl, of_decide_eq_true (by kernel_rfl)⟩, fun _ => rfl, fun _ => rfl, rfl⟩
theorem impl_GoodMatchers.ok : CtrOK Go.Proofs.Try.prog gl impl_GoodMatchers.spec :=
  ctr_ok (T := impl_GoodMatchers.T) (F := impl_GoodMatchers.F) (lb := impl_GoodMatchers.lb) (st := impl_GoodMatchers.st) (step := impl_GoodMatchers.step) (md := impl_GoodMatchers.md) tabs impl_GoodMatchers.text impl_GoodMatchers.seg_eq (fun n x => ⟨.p0 x.1, rfl, rfl, rfl⟩) (consC impl_GoodMatchers_1.ok (consC slices_ContainsFunc_Matcher_impl_GoodMatchers_1.ok (nilC)))

/-! loop.example/g00039/impl.isTime -/
def impl_isTime.T : List Ctr := []
def impl_isTime.md : List (Nat × List Md) := []
noncomputable def impl_isTime.F : Fun := ⟨(Go.Proofs.Try.f34.body).getD .skip, [.v (.int .i64)], [(.tmp 2, .bool)], [], 0, []⟩
inductive impl_isTime.Pt where
  | p0 (a0 : Int)
def impl_isTime.lb : impl_isTime.Pt → Nat
  | .p0 _ => 0
def impl_isTime.st : impl_isTime.Pt → St
  | .p0 a0 => enter [.v (.int .i64) a0] 0
def impl_isTime.step (n : Nat) (K : impl_isTime.Pt → Option (Tup [.bool])) : impl_isTime.Pt → Option (Tup [.bool])
  | .p0 a0 => cond (decide ((0 : Int) ≤ a0)) (some (decide (a0 ≤ (1000000000000 : Int)))) (some false)
def impl_isTime (n : Nat) (a0 : Int) : Option (Tup [.bool]) := goRec impl_isTime.step n (.p0 a0)
def impl_isTime.spec : Ctr := ⟨34, [.v (.int .i64)], [.bool], [], fun n x => impl_isTime n x.1⟩
theorem impl_isTime.seg_eq (n : Nat) (goto : Nat → St → Option (Tup [.bool])) (y : impl_isTime.Pt) : seg ⟨ty, gl, impl_isTime.md, calOf impl_isTime.T n⟩ impl_isTime.F.np impl_isTime.F.ks goto (impl_isTime.F.fin ⟨ty, gl, impl_isTime.md, calOf impl_isTime.T 0⟩ [.bool]) impl_isTime.F.c (impl_isTime.lb y) (impl_isTime.st y) = impl_isTime.step n (fun z => goto (impl_isTime.lb z) (impl_isTime.st z)) y := by
  cases y <;> kernel_rfl
theorem impl_isTime.text : Text Go.Proofs.Try.prog impl_isTime.F impl_isTime.spec := ⟨⟨Go.Proofs.Try.f34, by kernel_rfl, by kernel_rfl, by decide +kernel, by kernel_rfl, by kernel_rfl, of_decide_eq_true (by kernel_rfl)⟩, fun _ => rfl, fun _ => rfl, rfl⟩
theorem impl_isTime.ok : CtrOK Go.Proofs.Try.prog gl impl_isTime.spec :=
  ctr_ok (T := impl_isTime.T) (F := impl_isTime.F) (lb := impl_isTime.lb) (st := impl_isTime.st) (step := impl_isTime.step) (md := impl_isTime.md) tabs impl_isTime.text impl_isTime.seg_eq (fun n x => ⟨.p0 x.1, rfl, rfl, rfl⟩) (nilC)

/-! loop.example/g00039/impl.GoodSilences -/
def impl_GoodSilences.T : List Ctr := [impl_isName.spec, impl_GoodMatchers.spec, impl_isTime.spec]
def impl_GoodSilences.md : List (Nat × List Md) := []
noncomputable def impl_GoodSilences.F : Fun := ⟨(Go.Proofs.Try.f10.body).getD .skip, [.v (.sl false (.pair .str (.pair (.sl false (.pair .str (.pair (.int .i64) (.pair .str .unit)))) (.pair (.int .i64) (.pair (.int .i64) .unit)))))], [(.tmp 2, .bool)], [], 0, [(15, ⟨[0, 8, 9, 10], [(8, (.pair .str (.pair (.sl false (.pair .str (.pair (.int .i64) (.pair .str .unit)))) (.pair (.int .i64) (.pair (.int .i64) .unit)))))], []⟩), (26, ⟨[0, 8, 9, 10, 64], [(8, (.pair .str (.pair (.sl false (.pair .str (.pair (.int .i64) (.pair .str .unit)))) (.pair (.int .i64) (.pair (.int .i64) .unit)))))], []⟩)]⟩
inductive impl_GoodSilences.Pt where
  | p0 (a0 : List ((ByteArray) × ((List ((ByteArray) × ((Int) × ((ByteArray) × (Unit))))) × ((Int) × ((Int) × (Unit))))))
  | p15 (y1 : List ((ByteArray) × ((List ((ByteArray) × ((Int) × ((ByteArray) × (Unit))))) × ((Int) × ((Int) × (Unit)))))) (y2 : List ((ByteArray) × ((List ((ByteArray) × ((Int) × ((ByteArray) × (Unit))))) × ((Int) × ((Int) × (Unit)))))) (y3 : Int) (y4 : Int)
  | p26 (y1 : List ((ByteArray) × ((List ((ByteArray) × ((Int) × ((ByteArray) × (Unit))))) × ((Int) × ((Int) × (Unit)))))) (y2 : List ((ByteArray) × ((List ((ByteArray) × ((Int) × ((ByteArray) × (Unit))))) × ((Int) × ((Int) × (Unit)))))) (y3 : Int) (y4 : Int) (y5 : Bool)
def impl_GoodSilences.lb : impl_GoodSilences.Pt → Nat
  | .p0 _ => 0
  | .p15 _ _ _ _ => 15
  | .p26 _ _ _ _ _ => 26
def impl_GoodSilences.st : impl_GoodSilences.Pt → St
  | .p0 a0 => enter [.v (.sl false (.pair .str (.pair (.sl false (.pair .str (.pair (.int .i64) (.pair .str .unit)))) (.pair (.int .i64) (.pair (.int .i64) .unit))))) a0] 0
  | .p15 y1 y2 y3 y4 => ⟨[(0, .im (.sl false (.pair .str (.pair (.sl false (.pair .str (.pair (.int .i64) (.pair .str .unit)))) (.pair (.int .i64) (.pair (.int .i64) .unit))))) y1), (8, .im (.sl false (.pair .str (.pair (.sl false (.pair .str (.pair (.int .i64) (.pair .str .unit)))) (.pair (.int .i64) (.pair (.int .i64) .unit))))) y2), (9, .im (.int .i64) y3), (10, .im (.int .i64) y4)], [], 0⟩
  | .p26 y1 y2 y3 y4 y5 => ⟨[(0, .im (.sl false (.pair .str (.pair (.sl false (.pair .str (.pair (.int .i64) (.pair .str .unit)))) (.pair (.int .i64) (.pair (.int .i64) .unit))))) y1), (8, .im (.sl false (.pair .str (.pair (.sl false (.pair .str (.pair (.int .i64) (.pair .str .unit)))) (.pair (.int .i64) (.pair (.int .i64) .unit))))) y2), (9, .im (.int .i64) y3), (10, .im (.int .i64) y4), (64, .im .bool y5)], [], 0⟩
def impl_GoodSilences.step (n : Nat) (K : impl_GoodSilences.Pt → Option (Tup [.bool])) : impl_GoodSilences.Pt → Option (Tup [.bool])
  | .p0 a0 => cond (decide ((50 : Int) < ((List.length a0) : Int))) (some false) (K (.p15 a0 a0 ((List.length a0) : Int) (0 : Int)))
  | .p15 y1 y2 y3 y4 => cond (decide (y4 < y3)) (cond (inB y4 (List.length y2)) ((impl_isName n (List.getD y2 (Int.toNat y4) default).1).bind fun r7 => cond (!r7) (K (.p26 y1 y2 y3 y4 true)) (cond (decide ((0 : Int) < y4)) (cond (inB (IntKind.wrap .i64 (y4 - (1 : Int))) (List.length y1)) (cond (!(slt (List.getD y1 (Int.toNat (IntKind.wrap .i64 (y4 - (1 : Int)))) default).1 (List.getD y2 (Int.toNat y4) default).1)) (K (.p26 y1 y2 y3 y4 true)) (cond (decide (((List.length (List.getD y2 (Int.toNat y4) default).2.1) : Int) = (0 : Int))) (K (.p26 y1 y2 y3 y4 true)) ((impl_GoodMatchers n (List.getD y2 (Int.toNat y4) default).2.1).bind fun r8 => cond (!r8) (K (.p26 y1 y2 y3 y4 true)) ((impl_isTime n (List.getD y2 (Int.toNat y4) default).2.2.1).bind fun r9 => cond (!r9) (K (.p26 y1 y2 y3 y4 true)) ((impl_isTime n (List.getD y2 (Int.toNat y4) default).2.2.2.1).bind fun r10 => cond (!r10) (K (.p26 y1 y2 y3 y4 true)) (K (.p26 y1 y2 y3 y4 (decide ((List.getD y2 (Int.toNat y4) default).2.2.2.1 < (List.getD y2 (Int.toNat y4) default).2.2.1))))))))) (none)) (cond (decide (((List.length (List.getD y2 (Int.toNat y4) default).2.1) : Int) = (0 : Int))) (K (.p26 y1 y2 y3 y4 true)) ((impl_GoodMatchers n (List.getD y2 (Int.toNat y4) default).2.1).bind fun r8 => cond (!r8) (K (.p26 y1 y2 y3 y4 true)) ((impl_isTime n (List.getD y2 (Int.toNat y4) default).2.2.1).bind fun r9 => cond (!r9) (K (.p26 y1 y2 y3 y4 true)) ((impl_isTime n (List.getD y2 (Int.toNat y4) default).2.2.2.1).bind fun r10 => cond (!r10) (K (.p26 y1 y2 y3 y4 true)) (K (.p26 y1 y2 y3 y4 (decide ((List.getD y2 (Int.toNat y4) default).2.2.2.1 < (List.getD y2 (Int.toNat y4) default).2.2.1)))))))))) (none)) (some true)
  | .p26 y1 y2 y3 y4 y5 => cond y5 (some false) (K (.p15 y1 y2 y3 (IntKind.wrap .i64 (y4 + (1 : Int)))))
def impl_GoodSilences (n : Nat) (a0 : List ((ByteArray) × ((List ((ByteArray) × ((Int) × ((ByteArray) × (Unit))))) × ((Int) × ((Int) × (Unit)))))) : Option (Tup [.bool]) := goRec impl_GoodSilences.step n (.p0 a0)
def impl_GoodSilences.spec : Ctr := ⟨10, [.v (.sl false (.pair .str (.pair (.sl false (.pair .str (.pair (.int .i64) (.pair .str .unit)))) (.pair (.int .i64) (.pair (.int .i64) .unit)))))], [.bool], [], fun n x => impl_GoodSilences n x.1⟩
theorem impl_GoodSilences.seg_eq (n : Nat) (goto : Nat → St → Option (Tup [.bool])) (y : impl_GoodSilences.Pt) : seg ⟨ty, gl, impl_GoodSilences.md, calOf impl_GoodSilences.T n⟩ impl_GoodSilences.F.np impl_GoodSilences.F.ks goto (impl_GoodSilences.F.fin ⟨ty, gl, impl_GoodSilences.md, calOf impl_GoodSilences.T 0⟩ [.bool]) impl_GoodSilences.F.c (impl_GoodSilences.lb y) (impl_GoodSilences.st y) = impl_GoodSilences.step n (fun z => goto (impl_GoodSilences.lb z) (impl_GoodSilences.st z)) y := by
  cases y <;> kernel_rfl
theorem impl_GoodSilences.text : Text Go.Proofs.Try.prog impl_GoodSilences.F impl_GoodSilences.spec := ⟨⟨Go.Proofs.Try.f10, by kernel_rfl, by kernel_rfl, by decide +kernel, by kernel_rfl, by kernel_rfl, of_decide_eq_true (by kernel_rfl)⟩, fun _ => rfl, fun _ => rfl, rfl⟩
theorem impl_GoodSilences.ok : CtrOK Go.Proofs.Try.prog gl impl_GoodSilences.spec :=
  ctr_ok (T := impl_GoodSilences.T) (F := impl_GoodSilences.F) (lb := impl_GoodSilences.lb) (st := impl_GoodSilences.st) (step := impl_GoodSilences.step) (md := impl_GoodSilences.md) tabs impl_GoodSilences.text impl_GoodSilences.seg_eq (fun n x => ⟨.p0 x.1, rfl, rfl, rfl⟩) (consC impl_isName.ok (consC impl_GoodMatchers.ok (consC impl_isTime.ok (nilC))))

/-! loop.example/g00039/laws.eqMatcher -/
def laws_eqMatcher.T : List Ctr := []
def laws_eqMatcher.md : List (Nat × List Md) := []
noncomputable def laws_eqMatcher.F : Fun := ⟨(Go.Proofs.Try.f103.body).getD .skip, [.v (.pair .str (.pair (.int .i64) (.pair .str .unit))), .v (.pair .str (.pair (.int .i64) (.pair .str .unit)))], [(.tmp 4, .bool)], [], 0, []⟩
inductive laws_eqMatcher.Pt where
  | p0 (a0 : (ByteArray) × ((Int) × ((ByteArray) × (Unit)))) (a1 : (ByteArray) × ((Int) × ((ByteArray) × (Unit))))
def laws_eqMatcher.lb : laws_eqMatcher.Pt → Nat
  | .p0 _ _ => 0
def laws_eqMatcher.st : laws_eqMatcher.Pt → St
  | .p0 a0 a1 => enter [.v (.pair .str (.pair (.int .i64) (.pair .str .unit))) a0, .v (.pair .str (.pair (.int .i64) (.pair .str .unit))) a1] 0
def laws_eqMatcher.step (n : Nat) (K : laws_eqMatcher.Pt → Option (Tup [.bool])) : laws_eqMatcher.Pt → Option (Tup [.bool])
  | .p0 a0 a1 => cond (!(seq a0.1 a1.1)) (some false) (cond (!(decide (a0.2.1 = a1.2.1))) (some false) (cond (!(seq a0.2.2.1 a1.2.2.1)) (some false) (some true)))
def laws_eqMatcher (n : Nat) (a0 : (ByteArray) × ((Int) × ((ByteArray) × (Unit)))) (a1 : (ByteArray) × ((Int) × ((ByteArray) × (Unit)))) : Option (Tup [.bool]) := goRec laws_eqMatcher.step n (.p0 a0 a1)
def laws_eqMatcher.spec : Ctr := ⟨103, [.v (.pair .str (.pair (.int .i64) (.pair .str .unit))), .v (.pair .str (.pair (.int .i64) (.pair .str .unit)))], [.bool], [], fun n x => laws_eqMatcher n x.1 x.2.1⟩
theorem laws_eqMatcher.seg_eq (n : Nat) (goto : Nat → St → Option (Tup [.bool])) (y : laws_eqMatcher.Pt) : seg ⟨ty, gl, laws_eqMatcher.md, calOf laws_eqMatcher.T n⟩ laws_eqMatcher.F.np laws_eqMatcher.F.ks goto (laws_eqMatcher.F.fin ⟨ty, gl, laws_eqMatcher.md, calOf laws_eqMatcher.T 0⟩ [.bool]) laws_eqMatcher.F.c (laws_eqMatcher.lb y) (laws_eqMatcher.st y) = laws_eqMatcher.step n (fun z => goto (laws_eqMatcher.lb z) (laws_eqMatcher.st z)) y := by
  cases y <;> kernel_rfl
theorem laws_eqMatcher.text : Text Go.Proofs.Try.prog laws_eqMatcher.F laws_eqMatcher.spec := ⟨⟨Go.Proofs.Try.f103, by kernel_rfl, by kernel_rfl, by decide +kernel, by kernel_rfl, by kernel_rfl, of_decide_eq_true (by kernel_rfl)⟩, fun _ => rfl, fun _ => rfl, rfl⟩
theorem laws_eqMatcher.ok : CtrOK Go.Proofs.Try.prog gl laws_eqMatcher.spec :=
  ctr_ok (T := laws_eqMatcher.T) (F := laws_eqMatcher.F) (lb := laws_eqMatcher.lb) (st := laws_eqMatcher.st) (step := laws_eqMatcher.step) (md := laws_eqMatcher.md) tabs laws_eqMatcher.text laws_eqMatcher.seg_eq (fun n x => ⟨.p0 x.1 x.2.1, rfl, rfl, rfl⟩) (nilC)

/-! loop.example/g00039/laws.eqMatcherS -/
def laws_eqMatcherS.T : List Ctr := [laws_eqMatcher.spec]
def laws_eqMatcherS.md : List (Nat × List Md) := []
noncomputable def laws_eqMatcherS.F : Fun := ⟨(Go.Proofs.Try.f76.body).getD .skip, [.v (.sl false (.pair .str (.pair (.int .i64) (.pair .str .unit)))), .v (.sl false (.pair .str (.pair (.int .i64) (.pair .str .unit))))], [(.tmp 4, .bool)], [], 0, [(15, ⟨[0, 1, 5], [], []⟩)]⟩
inductive laws_eqMatcherS.Pt where
  | p0 (a0 : List ((ByteArray) × ((Int) × ((ByteArray) × (Unit))))) (a1 : List ((ByteArray) × ((Int) × ((ByteArray) × (Unit)))))
  | p15 (y1 : List ((ByteArray) × ((Int) × ((ByteArray) × (Unit))))) (y2 : List ((ByteArray) × ((Int) × ((ByteArray) × (Unit))))) (y3 : Int)
def laws_eqMatcherS.lb : laws_eqMatcherS.Pt → Nat
  | .p0 _ _ => 0
  | .p15 _ _ _ => 15
def laws_eqMatcherS.st : laws_eqMatcherS.Pt → St
  | .p0 a0 a1 => enter [.v (.sl false (.pair .str (.pair (.int .i64) (.pair .str .unit)))) a0, .v (.sl false (.pair .str (.pair (.int .i64) (.pair .str .unit)))) a1] 0
  | .p15 y1 y2 y3 => ⟨[(0, .im (.sl false (.pair .str (.pair (.int .i64) (.pair .str .unit)))) y1), (1, .im (.sl false (.pair .str (.pair (.int .i64) (.pair .str .unit)))) y2), (5, .im (.int .i64) y3)], [], 0⟩
def laws_eqMatcherS.step (n : Nat) (K : laws_eqMatcherS.Pt → Option (Tup [.bool])) : laws_eqMatcherS.Pt → Option (Tup [.bool])
  | .p0 a0 a1 => cond (!(decide (((List.length a0) : Int) = ((List.length a1) : Int)))) (some false) (K (.p15 a0 a1 (0 : Int)))
  | .p15 y1 y2 y3 => cond (decide (y3 < ((List.length y1) : Int))) (cond (inB y3 (List.length y1)) (cond (inB y3 (List.length y2)) ((laws_eqMatcher n ((List.getD y1 (Int.toNat y3) default).1, ((List.getD y1 (Int.toNat y3) default).2.1, ((List.getD y1 (Int.toNat y3) default).2.2.1, ()))) ((List.getD y2 (Int.toNat y3) default).1, ((List.getD y2 (Int.toNat y3) default).2.1, ((List.getD y2 (Int.toNat y3) default).2.2.1, ())))).bind fun r6 => cond (!r6) (some false) (K (.p15 y1 y2 (IntKind.wrap .i64 (y3 + (1 : Int)))))) (none)) (none)) (some true)
def laws_eqMatcherS (n : Nat) (a0 : List ((ByteArray) × ((Int) × ((ByteArray) × (Unit))))) (a1 : List ((ByteArray) × ((Int) × ((ByteArray) × (Unit))))) : Option (Tup [.bool]) := goRec laws_eqMatcherS.step n (.p0 a0 a1)
def laws_eqMatcherS.spec : Ctr := ⟨76, [.v (.sl false (.pair .str (.pair (.int .i64) (.pair .str .unit)))), .v (.sl false (.pair .str (.pair (.int .i64) (.pair .str .unit))))], [.bool], [], fun n x => laws_eqMatcherS n x.1 x.2.1⟩
theorem laws_eqMatcherS.seg_eq (n : Nat) (goto : Nat → St → Option (Tup [.bool])) (y : laws_eqMatcherS.Pt) : seg ⟨ty, gl, laws_eqMatcherS.md, calOf laws_eqMatcherS.T n⟩ laws_eqMatcherS.F.np laws_eqMatcherS.F.ks goto (laws_eqMatcherS.F.fin ⟨ty, gl, laws_eqMatcherS.md, calOf laws_eqMatcherS.T 0⟩ [.bool]) laws_eqMatcherS.F.c (laws_eqMatcherS.lb y) (laws_eqMatcherS.st y) = laws_eqMatcherS.step n (fun z => goto (laws_eqMatcherS.lb z) (laws_eqMatcherS.st z)) y := by
  cases y <;> kernel_rfl
theorem laws_eqMatcherS.text : Text Go.Proofs.Try.prog laws_eqMatcherS.F laws_eqMatcherS.spec := ⟨⟨Go.Proofs.Try.f76, by kernel_rfl, by kernel_rfl, by decide +kernel, by kernel_rfl, by kernel_rfl, of_decide_eq_true (by kernel_rfl)⟩, fun _ => rfl, fun _ => rfl, rfl⟩
theorem laws_eqMatcherS.ok : CtrOK Go.Proofs.Try.prog gl laws_eqMatcherS.spec :=
  ctr_ok (T := laws_eqMatcherS.T) (F := laws_eqMatcherS.F) (lb := laws_eqMatcherS.lb) (st := laws_eqMatcherS.st) (step := laws_eqMatcherS.step) (md := laws_eqMatcherS.md) tabs laws_eqMatcherS.text laws_eqMatcherS.seg_eq (fun n x => ⟨.p0 x.1 x.2.1, rfl, rfl, rfl⟩) (consC laws_eqMatcher.ok (nilC))

/-! loop.example/g00039/laws.eqSilence -/
def laws_eqSilence.T : List Ctr := [laws_eqMatcherS.spec]
def laws_eqSilence.md : List (Nat × List Md) := []
noncomputable def laws_eqSilence.F : Fun := ⟨(Go.Proofs.Try.f35.body).getD .skip, [.v (.pair .str (.pair (.sl false (.pair .str (.pair (.int .i64) (.pair .str .unit)))) (.pair (.int .i64) (.pair (.int .i64) .unit)))), .v (.pair .str (.pair (.sl false (.pair .str (.pair (.int .i64) (.pair .str .unit)))) (.pair (.int .i64) (.pair (.int .i64) .unit))))], [(.tmp 4, .bool)], [], 0, []⟩
inductive laws_eqSilence.Pt where
  | p0 (a0 : (ByteArray) × ((List ((ByteArray) × ((Int) × ((ByteArray) × (Unit))))) × ((Int) × ((Int) × (Unit))))) (a1 : (ByteArray) × ((List ((ByteArray) × ((Int) × ((ByteArray) × (Unit))))) × ((Int) × ((Int) × (Unit)))))
def laws_eqSilence.lb : laws_eqSilence.Pt → Nat
  | .p0 _ _ => 0
def laws_eqSilence.st : laws_eqSilence.Pt → St
  | .p0 a0 a1 => enter [.v (.pair .str (.pair (.sl false (.pair .str (.pair (.int .i64) (.pair .str .unit)))) (.pair (.int .i64) (.pair (.int .i64) .unit)))) a0, .v (.pair .str (.pair (.sl false (.pair .str (.pair (.int .i64) (.pair .str .unit)))) (.pair (.int .i64) (.pair (.int .i64) .unit)))) a1] 0
def laws_eqSilence.step (n : Nat) (K : laws_eqSilence.Pt → Option (Tup [.bool])) : laws_eqSilence.Pt → Option (Tup [.bool])
  | .p0 a0 a1 => cond (!(seq a0.1 a1.1)) (some false) ((laws_eqMatcherS n a0.2.1 a1.2.1).bind fun r5 => cond (!r5) (some false) (cond (!(decide (a0.2.2.1 = a1.2.2.1))) (some false) (cond (!(decide (a0.2.2.2.1 = a1.2.2.2.1))) (some false) (some true))))
def laws_eqSilence (n : Nat) (a0 : (ByteArray) × ((List ((ByteArray) × ((Int) × ((ByteArray) × (Unit))))) × ((Int) × ((Int) × (Unit))))) (a1 : (ByteArray) × ((List ((ByteArray) × ((Int) × ((ByteArray) × (Unit))))) × ((Int) × ((Int) × (Unit))))) : Option (Tup [.bool]) := goRec laws_eqSilence.step n (.p0 a0 a1)
def laws_eqSilence.spec : Ctr := ⟨35, [.v (.pair .str (.pair (.sl false (.pair .str (.pair (.int .i64) (.pair .str .unit)))) (.pair (.int .i64) (.pair (.int .i64) .unit)))), .v (.pair .str (.pair (.sl false (.pair .str (.pair (.int .i64) (.pair .str .unit)))) (.pair (.int .i64) (.pair (.int .i64) .unit))))], [.bool], [], fun n x => laws_eqSilence n x.1 x.2.1⟩
theorem laws_eqSilence.seg_eq (n : Nat) (goto : Nat → St → Option (Tup [.bool])) (y : laws_eqSilence.Pt) : seg ⟨ty, gl, laws_eqSilence.md, calOf laws_eqSilence.T n⟩ laws_eqSilence.F.np laws_eqSilence.F.ks goto (laws_eqSilence.F.fin ⟨ty, gl, laws_eqSilence.md, calOf laws_eqSilence.T 0⟩ [.bool]) laws_eqSilence.F.c (laws_eqSilence.lb y) (laws_eqSilence.st y) = laws_eqSilence.step n (fun z => goto (laws_eqSilence.lb z) (laws_eqSilence.st z)) y := by
  cases y <;> kernel_rfl
theorem laws_eqSilence.text : Text Go.Proofs.Try.prog laws_eqSilence.F laws_eqSilence.spec := ⟨⟨Go.Proofs.Try.f35, by kernel_rfl, by kernel_rfl, by decide +kernel, by kernel_rfl, by kernel_rfl, of_decide_eq_true (by kernel_rfl)⟩, fun _ => rfl, fun _ => rfl, rfl⟩
theorem laws_eqSilence.ok : CtrOK Go.Proofs.Try.prog gl laws_eqSilence.spec :=
  ctr_ok (T := laws_eqSilence.T) (F := laws_eqSilence.F) (lb := laws_eqSilence.lb) (st := laws_eqSilence.st) (step := laws_eqSilence.step) (md := laws_eqSilence.md) tabs laws_eqSilence.text laws_eqSilence.seg_eq (fun n x => ⟨.p0 x.1 x.2.1, rfl, rfl, rfl⟩) (consC laws_eqMatcherS.ok (nilC))

/-! loop.example/g00039/laws.eqSilenceS -/
def laws_eqSilenceS.T : List Ctr := [laws_eqSilence.spec]
def laws_eqSilenceS.md : List (Nat × List Md) := []
noncomputable def laws_eqSilenceS.F : Fun := ⟨(Go.Proofs.Try.f11.body).getD .skip, [.v (.sl false (.pair .str (.pair (.sl false (.pair .str (.pair (.int .i64) (.pair .str .unit)))) (.pair (.int .i64) (.pair (.int .i64) .unit))))), .v (.sl false (.pair .str (.pair (.sl false (.pair .str (.pair (.int .i64) (.pair .str .unit)))) (.pair (.int .i64) (.pair (.int .i64) .unit)))))], [(.tmp 4, .bool)], [], 0, [(15, ⟨[0, 1, 5], [], []⟩)]⟩
inductive laws_eqSilenceS.Pt where
  | p0 (a0 : List ((ByteArray) × ((List ((ByteArray) × ((Int) × ((ByteArray) × (Unit))))) × ((Int) × ((Int) × (Unit)))))) (a1 : List ((ByteArray) × ((List ((ByteArray) × ((Int) × ((ByteArray) × (Unit))))) × ((Int) × ((Int) × (Unit))))))
  | p15 (y1 : List ((ByteArray) × ((List ((ByteArray) × ((Int) × ((ByteArray) × (Unit))))) × ((Int) × ((Int) × (Unit)))))) (y2 : List ((ByteArray) × ((List ((ByteArray) × ((Int) × ((ByteArray) × (Unit))))) × ((Int) × ((Int) × (Unit)))))) (y3 : Int)
def laws_eqSilenceS.lb : laws_eqSilenceS.Pt → Nat
  | .p0 _ _ => 0
  | .p15 _ _ _ => 15
def laws_eqSilenceS.st : laws_eqSilenceS.Pt → St
  | .p0 a0 a1 => enter [.v (.sl false (.pair .str (.pair (.sl false (.pair .str (.pair (.int .i64) (.pair .str .unit)))) (.pair (.int .i64) (.pair (.int .i64) .unit))))) a0, .v (.sl false (.pair .str (.pair (.sl false (.pair .str (.pair (.int .i64) (.pair .str .unit)))) (.pair (.int .i64) (.pair (.int .i64) .unit))))) a1] 0
  | .p15 y1 y2 y3 => ⟨[(0, .im (.sl false (.pair .str (.pair (.sl false (.pair .str (.pair (.int .i64) (.pair .str .unit)))) (.pair (.int .i64) (.pair (.int .i64) .unit))))) y1), (1, .im (.sl false (.pair .str (.pair (.sl false (.pair .str (.pair (.int .i64) (.pair .str .unit)))) (.pair (.int .i64) (.pair (.int .i64) .unit))))) y2), (5, .im (.int .i64) y3)], [], 0⟩
def laws_eqSilenceS.step (n : Nat) (K : laws_eqSilenceS.Pt → Option (Tup [.bool])) : laws_eqSilenceS.Pt → Option (Tup [.bool])
  | .p0 a0 a1 => cond (!(decide (((List.length a0) : Int) = ((List.length a1) : Int)))) (some false) (K (.p15 a0 a1 (0 : Int)))
  | .p15 y1 y2 y3 => cond (decide (y3 < ((List.length y1) : Int))) (cond (inB y3 (List.length y1)) (cond (inB y3 (List.length y2)) ((laws_eqSilence n ((List.getD y1 (Int.toNat y3) default).1, ((List.getD y1 (Int.toNat y3) default).2.1, ((List.getD y1 (Int.toNat y3) default).2.2.1, ((List.getD y1 (Int.toNat y3) default).2.2.2.1, ())))) ((List.getD y2 (Int.toNat y3) default).1, ((List.getD y2 (Int.toNat y3) default).2.1, ((List.getD y2 (Int.toNat y3) default).2.2.1, ((List.getD y2 (Int.toNat y3) default).2.2.2.1, ()))))).bind fun r6 => cond (!r6) (some false) (K (.p15 y1 y2 (IntKind.wrap .i64 (y3 + (1 : Int)))))) (none)) (none)) (some true)
def laws_eqSilenceS (n : Nat) (a0 : List ((ByteArray) × ((List ((ByteArray) × ((Int) × ((ByteArray) × (Unit))))) × ((Int) × ((Int) × (Unit)))))) (a1 : List ((ByteArray) × ((List ((ByteArray) × ((Int) × ((ByteArray) × (Unit))))) × ((Int) × ((Int) × (Unit)))))) : Option (Tup [.bool]) := goRec laws_eqSilenceS.step n (.p0 a0 a1)
def laws_eqSilenceS.spec : Ctr := ⟨11, [.v (.sl false (.pair .str (.pair (.sl false (.pair .str (.pair (.int .i64) (.pair .str .unit)))) (.pair (.int .i64) (.pair (.int .i64) .unit))))), .v (.sl false (.pair .str (.pair (.sl false (.pair .str (.pair (.int .i64) (.pair .str .unit)))) (.pair (.int .i64) (.pair (.int .i64) .unit)))))], [.bool], [], fun n x => laws_eqSilenceS n x.1 x.2.1⟩
theorem laws_eqSilenceS.seg_eq (n : Nat) (goto : Nat → St → Option (Tup [.bool])) (y : laws_eqSilenceS.Pt) : seg ⟨ty, gl, laws_eqSilenceS.md, calOf laws_eqSilenceS.T n⟩ laws_eqSilenceS.F.np laws_eqSilenceS.F.ks goto (laws_eqSilenceS.F.fin ⟨ty, gl, laws_eqSilenceS.md, calOf laws_eqSilenceS.T 0⟩ [.bool]) laws_eqSilenceS.F.c (laws_eqSilenceS.lb y) (laws_eqSilenceS.st y) = laws_eqSilenceS.step n (fun z => goto (laws_eqSilenceS.lb z) (laws_eqSilenceS.st z)) y := by
  cases y <;> kernel_rfl
theorem laws_eqSilenceS.text : Text Go.Proofs.Try.prog laws_eqSilenceS.F laws_eqSilenceS.spec := ⟨⟨Go.Proofs.Try.f11, by kernel_rfl, by kernel_rfl, by decide +kernel, by kernel_rfl, by kernel_rfl, of_decide_eq_true (by kernel_rfl)⟩, fun _ => rfl, fun _ => rfl, rfl⟩
theorem laws_eqSilenceS.ok : CtrOK Go.Proofs.Try.prog gl laws_eqSilenceS.spec :=
  ctr_ok (T := laws_eqSilenceS.T) (F := laws_eqSilenceS.F) (lb := laws_eqSilenceS.lb) (st := laws_eqSilenceS.st) (step := laws_eqSilenceS.step) (md := laws_eqSilenceS.md) tabs laws_eqSilenceS.text laws_eqSilenceS.seg_eq (fun n x => ⟨.p0 x.1 x.2.1, rfl, rfl, rfl⟩) (consC laws_eqSilence.ok (nilC))

/-! loop.example/g00039/laws.FnExactGoodSilences -/
def laws_FnExactGoodSilences.T : List Ctr := [laws_szSilenceS.spec, laws_toSilenceS.spec, spec_GoodSilences.spec, impl_GoodSilences.spec, laws_eqSilenceS.spec]
def laws_FnExactGoodSilences.md : List (Nat × List Md) := []
noncomputable def laws_FnExactGoodSilences.F : Fun := ⟨(Go.Proofs.Try.f3.body).getD .skip, [.v (.sl false (.pair .str (.pair (.sl false (.pair .str (.pair (.int .i64) (.pair .str .unit)))) (.pair (.int .i64) (.pair (.int .i64) .unit)))))], [(.tmp 2, .bool)], [], 0, []⟩
inductive laws_FnExactGoodSilences.Pt where
  | p0 (a0 : List ((ByteArray) × ((List ((ByteArray) × ((Int) × ((ByteArray) × (Unit))))) × ((Int) × ((Int) × (Unit))))))
def laws_FnExactGoodSilences.lb : laws_FnExactGoodSilences.Pt → Nat
  | .p0 _ => 0
def laws_FnExactGoodSilences.st : laws_FnExactGoodSilences.Pt → St
  | .p0 a0 => enter [.v (.sl false (.pair .str (.pair (.sl false (.pair .str (.pair (.int .i64) (.pair .str .unit)))) (.pair (.int .i64) (.pair (.int .i64) .unit))))) a0] 0
def laws_FnExactGoodSilences.step (n : Nat) (K : laws_FnExactGoodSilences.Pt → Option (Tup [.bool])) : laws_FnExactGoodSilences.Pt → Option (Tup [.bool])
  | .p0 a0 => (laws_szSilenceS n a0 (1048576 : Int)).bind fun r4 => cond (decide (r4 < (0 : Int))) (some true) ((laws_toSilenceS n a0).bind fun r5 => (spec_GoodSilences n r5).bind fun r6 => (laws_toSilenceS n a0).bind fun r7 => (impl_GoodSilences n r7).bind fun r8 => cond (r8 != r6) (some false) ((laws_toSilenceS n a0).bind fun r9 => (laws_eqSilenceS n r7 r9).bind fun r10 => cond (!r10) (some false) (some true)))
def laws_FnExactGoodSilences (n : Nat) (a0 : List ((ByteArray) × ((List ((ByteArray) × ((Int) × ((ByteArray) × (Unit))))) × ((Int) × ((Int) × (Unit)))))) : Option (Tup [.bool]) := goRec laws_FnExactGoodSilences.step n (.p0 a0)
def laws_FnExactGoodSilences.spec : Ctr := ⟨3, [.v (.sl false (.pair .str (.pair (.sl false (.pair .str (.pair (.int .i64) (.pair .str .unit)))) (.pair (.int .i64) (.pair (.int .i64) .unit)))))], [.bool], [], fun n x => laws_FnExactGoodSilences n x.1⟩
theorem laws_FnExactGoodSilences.seg_eq (n : Nat) (goto : Nat → St → Option (Tup [.bool])) (y : laws_FnExactGoodSilences.Pt) : seg ⟨ty, gl, laws_FnExactGoodSilences.md, calOf laws_FnExactGoodSilences.T n⟩ laws_FnExactGoodSilences.F.np laws_FnExactGoodSilences.F.ks goto (laws_FnExactGoodSilences.F.fin ⟨ty, gl, laws_FnExactGoodSilences.md, calOf laws_FnExactGoodSilences.T 0⟩ [.bool]) laws_FnExactGoodSilences.F.c (laws_FnExactGoodSilences.lb y) (laws_FnExactGoodSilences.st y) = laws_FnExactGoodSilences.step n (fun z => goto (laws_FnExactGoodSilences.lb z) (laws_FnExactGoodSilences.st z)) y := by
  cases y <;> kernel_rfl
theorem laws_FnExactGoodSilences.text : Text Go.Proofs.Try.prog laws_FnExactGoodSilences.F laws_FnExactGoodSilences.spec := ⟨⟨Go.Proofs.Try.f3, by kernel_rfl, by kernel_rfl, by decide +kernel, by kernel_rfl, by kernel_rfl, of_decide_eq_true (by kernel_rfl)⟩, fun _ => rfl, fun _ => rfl, rfl⟩
theorem laws_FnExactGoodSilences.ok : CtrOK Go.Proofs.Try.prog gl laws_FnExactGoodSilences.spec :=
  ctr_ok (T := laws_FnExactGoodSilences.T) (F := laws_FnExactGoodSilences.F) (lb := laws_FnExactGoodSilences.lb) (st := laws_FnExactGoodSilences.st) (step := laws_FnExactGoodSilences.step) (md := laws_FnExactGoodSilences.md) tabs laws_FnExactGoodSilences.text laws_FnExactGoodSilences.seg_eq (fun n x => ⟨.p0 x.1, rfl, rfl, rfl⟩) (consC laws_szSilenceS.ok (consC laws_toSilenceS.ok (consC spec_GoodSilences.ok (consC impl_GoodSilences.ok (consC laws_eqSilenceS.ok (nilC))))))
end Go.GS
