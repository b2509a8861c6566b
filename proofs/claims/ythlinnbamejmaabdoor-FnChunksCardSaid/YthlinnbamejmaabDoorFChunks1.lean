/- The functions that the law reaches, each as a Lean function and with its contract, part 1. -/
import Derived.Test.YthlinnbamejmaabDoorV1
import Derived.Test.YthlinnbamejmaabDoorV2
import Derived.Test.YthlinnbamejmaabDoorV3
import Derived.Tactics
import Derived.Tactics2
import Derived.Defers
import Derived.Recover
import Derived.Laws.Pointers
import Derived.WalkKit
import Derived.Test.YthlinnbamejmaabDoorProg
open Go Go.VM
namespace Go.CH
set_option maxRecDepth 100000
set_option linter.unusedVariables false
set_option linter.unusedSimpArgs false
set_option linter.unusedSectionVars false
variable [Bor]
def ty : List (Nat × U) := [(1, .oth), (2, (.int .i64)), (3, (.int .i64)), (4, .bool), (5, (.int .u8)), (6, (.int .u8)), (7, (.pair (.int .i64) (.pair (.int .i64) (.pair .bool (.pair (.int .u8) .unit))))), (8, (.pair (.int .i64) (.pair (.int .i64) (.pair .bool (.pair (.int .u8) .unit))))), (9, .str), (10, .str), (11, .str), (12, (.int .u64)), (15, .oth), (16, .oth), (17, .oth), (18, (.pair .oth .unit)), (19, (.pair .oth .unit)), (20, .oth), (21, (.int .i32)), (22, (.sl false (.pair (.int .i64) (.pair (.int .i64) .unit)))), (23, .oth), (24, (.sl false (.int .u8))), (25, (.pair (.sl false (.int .u8)) (.pair (.int .i64) .unit))), (26, (.pair (.sl false (.int .u8)) (.pair (.int .i64) .unit))), (27, .oth), (28, (.sl false (.pair (.int .i64) (.pair (.int .i64) .unit)))), (29, .oth), (30, .oth), (31, .oth), (32, .oth), (33, .oth), (34, .oth), (35, .oth), (36, .oth), (38, .oth), (39, .oth), (40, .oth), (41, .oth), (42, (.pair (.int .i64) (.pair (.int .i64) .unit))), (43, (.pair (.int .i64) (.pair (.int .i64) .unit))), (44, .oth), (45, .oth), (46, .oth), (47, (.pair (.int .i64) (.pair (.int .i64) .unit))), (48, .oth), (49, .oth), (50, (.int .u64)), (51, (.pair (.bs (.int .u8)) (.pair (.int .i64) (.pair (.int .u64) .unit)))), (52, (.pair (.bs (.int .u8)) (.pair (.int .i64) (.pair (.int .u64) .unit)))), (53, .oth), (54, .oth), (55, .oth), (56, .oth), (57, .oth), (58, .oth), (59, .unit), (60, .unit), (61, .oth), (62, (.int .u64)), (63, .oth), (64, .oth), (66, .oth), (67, .oth), (68, (.pair (.sl false (.int .u8)) (.pair (.int .i64) .unit))), (69, (.pair (.sl false (.int .u8)) (.pair (.int .i64) .unit))), (70, .oth), (71, .oth), (72, .oth), (73, .oth), (74, (.ar 64 (.int .u8))), (75, .oth), (76, (.pair .oth (.pair .oth (.pair .oth (.pair .str .unit))))), (77, (.pair .oth (.pair .oth (.pair .oth (.pair .str .unit))))), (78, (.ar 0 .oth)), (81, (.int .u32)), (82, (.int .u8)), (83, (.int .u8)), (84, .oth), (85, .oth), (86, (.int .i32)), (87, (.int .i32)), (88, (.pair (.int .u64) (.pair (.int .u64) (.pair (.int .u32) (.pair (.int .u8) (.pair (.int .u8) (.pair (.int .u8) (.pair (.int .u8) (.pair .oth (.pair .oth (.pair (.int .i32) (.pair (.int .i32) .unit)))))))))))), (89, (.pair (.int .u64) (.pair (.int .u64) (.pair (.int .u32) (.pair (.int .u8) (.pair (.int .u8) (.pair (.int .u8) (.pair (.int .u8) (.pair .oth (.pair .oth (.pair (.int .i32) (.pair (.int .i32) .unit)))))))))))), (90, .oth)]
def gl : List (Nat × TV) := [(0, ⟨.ar 64 (.int .u8), ([0, 1, 56, 2, 57, 49, 28, 3, 61, 58, 42, 50, 38, 29, 17, 4, 62, 47, 59, 36, 45, 43, 51, 22, 53, 39, 33, 30, 24, 18, 12, 5, 63, 55, 48, 27, 60, 41, 37, 16, 46, 35, 44, 21, 52, 32, 23, 11, 54, 26, 40, 15, 34, 20, 31, 10, 25, 14, 19, 9, 13, 8, 7, 6] : List Int)⟩)]
theorem tabs : Tabs Go.Proofs.Tryd.prog ty gl := tabs_ofG (by kernel_rfl) (by kernel_rfl) (by kernel_rfl)
/-! (*loop.example/g00039/spec.l1Cur).next -/
def spec_l1Cur__next.T : List Ctr := []
def spec_l1Cur__next.md : List (Nat × List Md) := []
noncomputable def spec_l1Cur__next.F : Fun := ⟨(Go.Proofs.Tryd.f53.body).getD .skip, [.p (.pair (.bs (.int .u8)) (.pair (.int .i64) (.pair (.int .u64) .unit)))], [(.tmp 2, (.int .i64))], [some (.pair (.bs (.int .u8)) (.pair (.int .i64) (.pair (.int .u64) .unit)))], 1, [(5, ⟨[0, 3], [], [], false⟩)]⟩
inductive spec_l1Cur__next.Pt where
  | p0 (a0 : (List (Int)) × ((Int) × ((Int) × (Unit))))
  | p5 (y1 : Int) (y2 : List (Int)) (y3 : Int) (y4 : Int)
def spec_l1Cur__next.lb : spec_l1Cur__next.Pt → Nat
  | .p0 _ => 0
  | .p5 _ _ _ _ => 5
def spec_l1Cur__next.st : spec_l1Cur__next.Pt → St
  | .p0 a0 => enter [.p (.pair (.bs (.int .u8)) (.pair (.int .i64) (.pair (.int .u64) .unit))) a0] 1
  | .p5 y1 y2 y3 y4 => ⟨[(0, .po 0 0), (3, .im (.int .i64) y1)], [(0, .obj [.im (.bs (.int .u8)) y2, .im (.int .i64) y3, .im (.int .u64) y4])], 1⟩
def spec_l1Cur__next.step (n : Nat) (K : spec_l1Cur__next.Pt → Option (Tup [(.int .i64), (.pair (.bs (.int .u8)) (.pair (.int .i64) (.pair (.int .u64) .unit)))])) : spec_l1Cur__next.Pt → Option (Tup [(.int .i64), (.pair (.bs (.int .u8)) (.pair (.int .i64) (.pair (.int .u64) .unit)))])
  | .p0 a0 => cond (decide (a0.2.1 < ((List.length a0.1) : Int))) (cond (inB a0.2.1 (List.length a0.1)) (K (.p5 (IntKind.wrap .i64 (List.getD a0.1 (Int.toNat a0.2.1) default)) a0.1 a0.2.1 a0.2.2.1)) (none)) (K (.p5 (0 : Int) a0.1 a0.2.1 a0.2.2.1))
  | .p5 y1 y2 y3 y4 => cond (decide ((IntKind.wrap .i64 (y3 + (1 : Int))) ≤ ((List.length y2) : Int))) (some (y1, (y2, ((IntKind.wrap .i64 (y3 + (1 : Int))), ((IntKind.wrap .u64 ((IntKind.wrap .u64 ((IntKind.wrap .u64 ((6364136223846793005 : Int) * y4)) + (IntKind.wrap .u64 y1))) + (1442695040888963407 : Int))), ()))))) (some ((IntKind.wrap .i64 (band .u64 (shr .u64 (IntKind.wrap .u64 ((IntKind.wrap .u64 ((IntKind.wrap .u64 ((6364136223846793005 : Int) * y4)) + (IntKind.wrap .u64 y1))) + (1442695040888963407 : Int))) (40 : Int)) (255 : Int))), (y2, ((IntKind.wrap .i64 (y3 + (1 : Int))), ((IntKind.wrap .u64 ((IntKind.wrap .u64 ((IntKind.wrap .u64 ((6364136223846793005 : Int) * y4)) + (IntKind.wrap .u64 y1))) + (1442695040888963407 : Int))), ())))))
def spec_l1Cur__next (n : Nat) (a0 : (List (Int)) × ((Int) × ((Int) × (Unit)))) : Option (Tup [(.int .i64), (.pair (.bs (.int .u8)) (.pair (.int .i64) (.pair (.int .u64) .unit)))]) := goRec spec_l1Cur__next.step n (.p0 a0)
def spec_l1Cur__next.spec : Ctr := ⟨53, [.p (.pair (.bs (.int .u8)) (.pair (.int .i64) (.pair (.int .u64) .unit)))], [(.int .i64)], [(.pair (.bs (.int .u8)) (.pair (.int .i64) (.pair (.int .u64) .unit)))], none, fun n x => spec_l1Cur__next n x.1⟩
theorem spec_l1Cur__next.seg_eq : SegEq ty gl spec_l1Cur__next.F spec_l1Cur__next.md spec_l1Cur__next.T spec_l1Cur__next.spec spec_l1Cur__next.lb spec_l1Cur__next.st spec_l1Cur__next.step := by
  intro n goto y; cases y <;> kernel_rfl
theorem spec_l1Cur__next.text : Text Go.Proofs.Tryd.prog spec_l1Cur__next.F spec_l1Cur__next.spec := textOf Go.Proofs.Tryd.f53
theorem spec_l1Cur__next.ok : CtrOK Go.Proofs.Tryd.prog gl spec_l1Cur__next.spec :=
  ctr_okS tabs spec_l1Cur__next.text spec_l1Cur__next.seg_eq (fun n x => ⟨.p0 x.1, rfl, rfl, rfl⟩) (nilC)

/-! (*loop.example/g00039/spec.l1Cur).pick -/
def spec_l1Cur__pick.T : List Ctr := [spec_l1Cur__next.spec]
def spec_l1Cur__pick.md : List (Nat × List Md) := [(53, [.p (.pair (.bs (.int .u8)) (.pair (.int .i64) (.pair (.int .u64) .unit)))])]
noncomputable def spec_l1Cur__pick.F : Fun := ⟨(Go.Proofs.Tryd.f34.body).getD .skip, [.p (.pair (.bs (.int .u8)) (.pair (.int .i64) (.pair (.int .u64) .unit))), .v (.int .i64)], [(.tmp 4, (.int .i64))], [some (.pair (.bs (.int .u8)) (.pair (.int .i64) (.pair (.int .u64) .unit)))], 1, []⟩
inductive spec_l1Cur__pick.Pt where
  | p0 (a0 : (List (Int)) × ((Int) × ((Int) × (Unit)))) (a1 : Int)
def spec_l1Cur__pick.lb : spec_l1Cur__pick.Pt → Nat
  | .p0 _ _ => 0
def spec_l1Cur__pick.st : spec_l1Cur__pick.Pt → St
  | .p0 a0 a1 => enter [.p (.pair (.bs (.int .u8)) (.pair (.int .i64) (.pair (.int .u64) .unit))) a0, .v (.int .i64) a1] 1
def spec_l1Cur__pick.step (n : Nat) (K : spec_l1Cur__pick.Pt → Option (Tup [(.int .i64), (.pair (.bs (.int .u8)) (.pair (.int .i64) (.pair (.int .u64) .unit)))])) : spec_l1Cur__pick.Pt → Option (Tup [(.int .i64), (.pair (.bs (.int .u8)) (.pair (.int .i64) (.pair (.int .u64) .unit)))])
  | .p0 a0 a1 => cond (decide (a1 ≤ (1 : Int))) (some ((0 : Int), (a0.1, a0.2))) ((spec_l1Cur__next n (a0.1, a0.2)).bind fun r5 => cond (decide ((200 : Int) < a1)) ((spec_l1Cur__next n (r5.2.1, r5.2.2)).bind fun r6 => cond (decide (a1 = (0 : Int))) (none) (some ((Int.tmod (IntKind.wrap .i64 ((IntKind.wrap .i64 (r5.1 * (256 : Int))) + r6.1)) a1), (r6.2.1, r6.2.2)))) (cond (decide (a1 = (0 : Int))) (none) (some ((Int.tmod r5.1 a1), (r5.2.1, r5.2.2)))))
def spec_l1Cur__pick (n : Nat) (a0 : (List (Int)) × ((Int) × ((Int) × (Unit)))) (a1 : Int) : Option (Tup [(.int .i64), (.pair (.bs (.int .u8)) (.pair (.int .i64) (.pair (.int .u64) .unit)))]) := goRec spec_l1Cur__pick.step n (.p0 a0 a1)
def spec_l1Cur__pick.spec : Ctr := ⟨34, [.p (.pair (.bs (.int .u8)) (.pair (.int .i64) (.pair (.int .u64) .unit))), .v (.int .i64)], [(.int .i64)], [(.pair (.bs (.int .u8)) (.pair (.int .i64) (.pair (.int .u64) .unit)))], none, fun n x => spec_l1Cur__pick n x.1 x.2.1⟩
theorem spec_l1Cur__pick.seg_eq : SegEq ty gl spec_l1Cur__pick.F spec_l1Cur__pick.md spec_l1Cur__pick.T spec_l1Cur__pick.spec spec_l1Cur__pick.lb spec_l1Cur__pick.st spec_l1Cur__pick.step := by
  intro n goto y; cases y <;> kernel_rfl
theorem spec_l1Cur__pick.text : Text Go.Proofs.Tryd.prog spec_l1Cur__pick.F spec_l1Cur__pick.spec := textOf Go.Proofs.Tryd.f34
theorem spec_l1Cur__pick.ok : CtrOK Go.Proofs.Tryd.prog gl spec_l1Cur__pick.spec :=
  ctr_okS tabs spec_l1Cur__pick.text spec_l1Cur__pick.seg_eq (fun n x => ⟨.p0 x.1 x.2.1, rfl, rfl, rfl⟩) (consC spec_l1Cur__next.ok (nilC))

/-! loop.example/g00039/spec.l1Many -/
def spec_l1Many.T : List Ctr := []
def spec_l1Many.md : List (Nat × List Md) := []
noncomputable def spec_l1Many.F : Fun := ⟨(Go.Proofs.Tryd.f35.body).getD .skip, [.v (.sl false (.int .u8)), .v (.int .i64), .v (.int .i64)], [(.tmp 6, (.int .i64))], [], 0, []⟩
inductive spec_l1Many.Pt where
  | p0 (a0 : List (Int)) (a1 : Int) (a2 : Int)
def spec_l1Many.lb : spec_l1Many.Pt → Nat
  | .p0 _ _ _ => 0
def spec_l1Many.st : spec_l1Many.Pt → St
  | .p0 a0 a1 a2 => enter [.v (.sl false (.int .u8)) a0, .v (.int .i64) a1, .v (.int .i64) a2] 0
def spec_l1Many.step (n : Nat) (K : spec_l1Many.Pt → Option (Tup [(.int .i64)])) : spec_l1Many.Pt → Option (Tup [(.int .i64)])
  | .p0 a0 a1 a2 => cond (decide (a1 = (0 : Int))) (none) (cond (decide (a2 < (IntKind.wrap .i64 (Int.tdiv ((List.length a0) : Int) a1)))) (some a2) (some (IntKind.wrap .i64 (Int.tdiv ((List.length a0) : Int) a1))))
def spec_l1Many (n : Nat) (a0 : List (Int)) (a1 : Int) (a2 : Int) : Option (Tup [(.int .i64)]) := goRec spec_l1Many.step n (.p0 a0 a1 a2)
def spec_l1Many.spec : Ctr := ⟨35, [.v (.sl false (.int .u8)), .v (.int .i64), .v (.int .i64)], [(.int .i64)], [], none, fun n x => spec_l1Many n x.1 x.2.1 x.2.2.1⟩
theorem spec_l1Many.seg_eq : SegEq ty gl spec_l1Many.F spec_l1Many.md spec_l1Many.T spec_l1Many.spec spec_l1Many.lb spec_l1Many.st spec_l1Many.step := by
  intro n goto y; cases y <;> kernel_rfl
theorem spec_l1Many.text : Text Go.Proofs.Tryd.prog spec_l1Many.F spec_l1Many.spec := textOf Go.Proofs.Tryd.f35
theorem spec_l1Many.ok : CtrOK Go.Proofs.Tryd.prog gl spec_l1Many.spec :=
  ctr_okS tabs spec_l1Many.text spec_l1Many.seg_eq (fun n x => ⟨.p0 x.1 x.2.1 x.2.2.1, rfl, rfl, rfl⟩) (nilC)

/-! (*loop.example/g00039/spec.l1Cur).wide -/
def spec_l1Cur__wide.T : List Ctr := [spec_l1Cur__next.spec]
def spec_l1Cur__wide.md : List (Nat × List Md) := [(53, [.p (.pair (.bs (.int .u8)) (.pair (.int .i64) (.pair (.int .u64) .unit)))])]
noncomputable def spec_l1Cur__wide.F : Fun := ⟨(Go.Proofs.Tryd.f58.body).getD .skip, [.p (.pair (.bs (.int .u8)) (.pair (.int .i64) (.pair (.int .u64) .unit)))], [(.tmp 2, (.int .i64))], [some (.pair (.bs (.int .u8)) (.pair (.int .i64) (.pair (.int .u64) .unit)))], 1, [(9, ⟨[0, 3, 4], [], [], false⟩)]⟩
inductive spec_l1Cur__wide.Pt where
  | p0 (a0 : (List (Int)) × ((Int) × ((Int) × (Unit))))
  | p9 (y1 : Int) (y2 : Int) (y3 : List (Int)) (y4 : Int) (y5 : Int)
def spec_l1Cur__wide.lb : spec_l1Cur__wide.Pt → Nat
  | .p0 _ => 0
  | .p9 _ _ _ _ _ => 9
def spec_l1Cur__wide.st : spec_l1Cur__wide.Pt → St
  | .p0 a0 => enter [.p (.pair (.bs (.int .u8)) (.pair (.int .i64) (.pair (.int .u64) .unit))) a0] 1
  | .p9 y1 y2 y3 y4 y5 => ⟨[(0, .po 0 0), (3, .im (.int .i64) y1), (4, .im (.int .i64) y2)], [(0, .obj [.im (.bs (.int .u8)) y3, .im (.int .i64) y4, .im (.int .u64) y5])], 1⟩
def spec_l1Cur__wide.step (n : Nat) (K : spec_l1Cur__wide.Pt → Option (Tup [(.int .i64), (.pair (.bs (.int .u8)) (.pair (.int .i64) (.pair (.int .u64) .unit)))])) : spec_l1Cur__wide.Pt → Option (Tup [(.int .i64), (.pair (.bs (.int .u8)) (.pair (.int .i64) (.pair (.int .u64) .unit)))])
  | .p0 a0 => K (.p9 (0 : Int) (0 : Int) a0.1 a0.2.1 a0.2.2.1)
  | .p9 y1 y2 y3 y4 y5 => cond (decide (y2 < (8 : Int))) ((spec_l1Cur__next n (y3, (y4, (y5, ())))).bind fun r8 => K (.p9 (bor .i64 (shl .i64 y1 (8 : Int)) r8.1) (IntKind.wrap .i64 (y2 + (1 : Int))) r8.2.1 r8.2.2.1 r8.2.2.2.1)) (some (y1, (y3, (y4, (y5, ())))))
def spec_l1Cur__wide (n : Nat) (a0 : (List (Int)) × ((Int) × ((Int) × (Unit)))) : Option (Tup [(.int .i64), (.pair (.bs (.int .u8)) (.pair (.int .i64) (.pair (.int .u64) .unit)))]) := goRec spec_l1Cur__wide.step n (.p0 a0)
def spec_l1Cur__wide.spec : Ctr := ⟨58, [.p (.pair (.bs (.int .u8)) (.pair (.int .i64) (.pair (.int .u64) .unit)))], [(.int .i64)], [(.pair (.bs (.int .u8)) (.pair (.int .i64) (.pair (.int .u64) .unit)))], none, fun n x => spec_l1Cur__wide n x.1⟩
theorem spec_l1Cur__wide.seg_eq : SegEq ty gl spec_l1Cur__wide.F spec_l1Cur__wide.md spec_l1Cur__wide.T spec_l1Cur__wide.spec spec_l1Cur__wide.lb spec_l1Cur__wide.st spec_l1Cur__wide.step := by
  intro n goto y; cases y <;> kernel_rfl
theorem spec_l1Cur__wide.text : Text Go.Proofs.Tryd.prog spec_l1Cur__wide.F spec_l1Cur__wide.spec := textOf Go.Proofs.Tryd.f58
theorem spec_l1Cur__wide.ok : CtrOK Go.Proofs.Tryd.prog gl spec_l1Cur__wide.spec :=
  ctr_okS tabs spec_l1Cur__wide.text spec_l1Cur__wide.seg_eq (fun n x => ⟨.p0 x.1, rfl, rfl, rfl⟩) (consC spec_l1Cur__next.ok (nilC))

/-! (*loop.example/g00039/spec.l1Cur).one -/
def spec_l1Cur__one.T : List Ctr := [spec_l1Cur__pick.spec]
def spec_l1Cur__one.md : List (Nat × List Md) := [(34, [.p (.pair (.bs (.int .u8)) (.pair (.int .i64) (.pair (.int .u64) .unit))), .v])]
noncomputable def spec_l1Cur__one.F : Fun := ⟨(Go.Proofs.Tryd.f36.body).getD .skip, [.p (.pair (.bs (.int .u8)) (.pair (.int .i64) (.pair (.int .u64) .unit))), .v (.int .i64)], [(.tmp 4, .bool)], [some (.pair (.bs (.int .u8)) (.pair (.int .i64) (.pair (.int .u64) .unit)))], 1, []⟩
inductive spec_l1Cur__one.Pt where
  | p0 (a0 : (List (Int)) × ((Int) × ((Int) × (Unit)))) (a1 : Int)
def spec_l1Cur__one.lb : spec_l1Cur__one.Pt → Nat
  | .p0 _ _ => 0
def spec_l1Cur__one.st : spec_l1Cur__one.Pt → St
  | .p0 a0 a1 => enter [.p (.pair (.bs (.int .u8)) (.pair (.int .i64) (.pair (.int .u64) .unit))) a0, .v (.int .i64) a1] 1
def spec_l1Cur__one.step (n : Nat) (K : spec_l1Cur__one.Pt → Option (Tup [.bool, (.pair (.bs (.int .u8)) (.pair (.int .i64) (.pair (.int .u64) .unit)))])) : spec_l1Cur__one.Pt → Option (Tup [.bool, (.pair (.bs (.int .u8)) (.pair (.int .i64) (.pair (.int .u64) .unit)))])
  | .p0 a0 a1 => (spec_l1Cur__pick n (a0.1, a0.2) a1).bind fun r5 => some ((decide (r5.1 = (0 : Int))), (r5.2.1, r5.2.2))
def spec_l1Cur__one (n : Nat) (a0 : (List (Int)) × ((Int) × ((Int) × (Unit)))) (a1 : Int) : Option (Tup [.bool, (.pair (.bs (.int .u8)) (.pair (.int .i64) (.pair (.int .u64) .unit)))]) := goRec spec_l1Cur__one.step n (.p0 a0 a1)
def spec_l1Cur__one.spec : Ctr := ⟨36, [.p (.pair (.bs (.int .u8)) (.pair (.int .i64) (.pair (.int .u64) .unit))), .v (.int .i64)], [.bool], [(.pair (.bs (.int .u8)) (.pair (.int .i64) (.pair (.int .u64) .unit)))], none, fun n x => spec_l1Cur__one n x.1 x.2.1⟩
theorem spec_l1Cur__one.seg_eq : SegEq ty gl spec_l1Cur__one.F spec_l1Cur__one.md spec_l1Cur__one.T spec_l1Cur__one.spec spec_l1Cur__one.lb spec_l1Cur__one.st spec_l1Cur__one.step := by
  intro n goto y; cases y <;> kernel_rfl
theorem spec_l1Cur__one.text : Text Go.Proofs.Tryd.prog spec_l1Cur__one.F spec_l1Cur__one.spec := textOf Go.Proofs.Tryd.f36
theorem spec_l1Cur__one.ok : CtrOK Go.Proofs.Tryd.prog gl spec_l1Cur__one.spec :=
  ctr_okS tabs spec_l1Cur__one.text spec_l1Cur__one.seg_eq (fun n x => ⟨.p0 x.1 x.2.1, rfl, rfl, rfl⟩) (consC spec_l1Cur__pick.ok (nilC))

/-! (*loop.example/g00039/spec.l1Cur).sized -/
def spec_l1Cur__sized.T : List Ctr := [spec_l1Cur__pick.spec, spec_l1Cur__wide.spec, spec_l1Cur__one.spec]
def spec_l1Cur__sized.md : List (Nat × List Md) := [(34, [.p (.pair (.bs (.int .u8)) (.pair (.int .i64) (.pair (.int .u64) .unit))), .v]), (58, [.p (.pair (.bs (.int .u8)) (.pair (.int .i64) (.pair (.int .u64) .unit)))]), (36, [.p (.pair (.bs (.int .u8)) (.pair (.int .i64) (.pair (.int .u64) .unit))), .v])]
noncomputable def spec_l1Cur__sized.F : Fun := ⟨(Go.Proofs.Tryd.f57.body).getD .skip, [.p (.pair (.bs (.int .u8)) (.pair (.int .i64) (.pair (.int .u64) .unit)))], [(.tmp 2, (.int .i64))], [some (.pair (.bs (.int .u8)) (.pair (.int .i64) (.pair (.int .u64) .unit)))], 1, [(8, ⟨[0, 3], [], [], false⟩)]⟩
inductive spec_l1Cur__sized.Pt where
  | p0 (a0 : (List (Int)) × ((Int) × ((Int) × (Unit))))
  | p8 (y1 : Int) (y2 : List (Int)) (y3 : Int) (y4 : Int)
def spec_l1Cur__sized.lb : spec_l1Cur__sized.Pt → Nat
  | .p0 _ => 0
  | .p8 _ _ _ _ => 8
def spec_l1Cur__sized.st : spec_l1Cur__sized.Pt → St
  | .p0 a0 => enter [.p (.pair (.bs (.int .u8)) (.pair (.int .i64) (.pair (.int .u64) .unit))) a0] 1
  | .p8 y1 y2 y3 y4 => ⟨[(0, .po 0 0), (3, .im (.int .i64) y1)], [(0, .obj [.im (.bs (.int .u8)) y2, .im (.int .i64) y3, .im (.int .u64) y4])], 1⟩
def spec_l1Cur__sized.step (n : Nat) (K : spec_l1Cur__sized.Pt → Option (Tup [(.int .i64), (.pair (.bs (.int .u8)) (.pair (.int .i64) (.pair (.int .u64) .unit)))])) : spec_l1Cur__sized.Pt → Option (Tup [(.int .i64), (.pair (.bs (.int .u8)) (.pair (.int .i64) (.pair (.int .u64) .unit)))])
  | .p0 a0 => (spec_l1Cur__pick n (a0.1, a0.2) (5 : Int)).bind fun r4 => (spec_l1Cur__pick n (r4.2.1, r4.2.2) (8 : Int)).bind fun r5 => cond (decide (r5.1 = (0 : Int))) ((spec_l1Cur__pick n (r5.2.1, r5.2.2) (300 : Int)).bind fun r6 => K (.p8 r6.1 r6.2.1 r6.2.2.1 r6.2.2.2.1)) (cond (decide (r5.1 = (1 : Int))) ((spec_l1Cur__wide n (r5.2.1, r5.2.2)).bind fun r6 => (spec_l1Cur__pick n (r6.2.1, r6.2.2) (64 : Int)).bind fun r7 => cond (decide (0 ≤ (IntKind.wrap .u64 r7.1))) (K (.p8 (shr .i64 r6.1 (IntKind.wrap .u64 r7.1)) r7.2.1 r7.2.2.1 r7.2.2.2.1)) (none)) (cond (decide (r5.1 = (2 : Int))) ((spec_l1Cur__pick n (r5.2.1, r5.2.2) (64 : Int)).bind fun r6 => cond (decide (0 ≤ (IntKind.wrap .u64 r6.1))) (K (.p8 (shl .i64 (1 : Int) (IntKind.wrap .u64 r6.1)) r6.2.1 r6.2.2.1 r6.2.2.2.1)) (none)) (cond (decide (r5.1 = (3 : Int))) ((spec_l1Cur__pick n (r5.2.1, r5.2.2) (64 : Int)).bind fun r6 => cond (decide (0 ≤ (IntKind.wrap .u64 r6.1))) (K (.p8 (IntKind.wrap .i64 ((shl .i64 (1 : Int) (IntKind.wrap .u64 r6.1)) - (1 : Int))) r6.2.1 r6.2.2.1 r6.2.2.2.1)) (none)) (K (.p8 r4.1 r5.2.1 r5.2.2.1 r5.2.2.2.1)))))
  | .p8 y1 y2 y3 y4 => (spec_l1Cur__one n (y2, (y3, (y4, ()))) (3 : Int)).bind fun r7 => cond r7.1 (some ((IntKind.wrap .i64 ((0 : Int) - y1)), (r7.2.1, r7.2.2))) (some (y1, (r7.2.1, r7.2.2)))
def spec_l1Cur__sized (n : Nat) (a0 : (List (Int)) × ((Int) × ((Int) × (Unit)))) : Option (Tup [(.int .i64), (.pair (.bs (.int .u8)) (.pair (.int .i64) (.pair (.int .u64) .unit)))]) := goRec spec_l1Cur__sized.step n (.p0 a0)
def spec_l1Cur__sized.spec : Ctr := ⟨57, [.p (.pair (.bs (.int .u8)) (.pair (.int .i64) (.pair (.int .u64) .unit)))], [(.int .i64)], [(.pair (.bs (.int .u8)) (.pair (.int .i64) (.pair (.int .u64) .unit)))], none, fun n x => spec_l1Cur__sized n x.1⟩
theorem spec_l1Cur__sized.seg_eq : SegEq ty gl spec_l1Cur__sized.F spec_l1Cur__sized.md spec_l1Cur__sized.T spec_l1Cur__sized.spec spec_l1Cur__sized.lb spec_l1Cur__sized.st spec_l1Cur__sized.step := by
  intro n goto y; cases y <;> kernel_rfl
theorem spec_l1Cur__sized.text : Text Go.Proofs.Tryd.prog spec_l1Cur__sized.F spec_l1Cur__sized.spec := textOf Go.Proofs.Tryd.f57
theorem spec_l1Cur__sized.ok : CtrOK Go.Proofs.Tryd.prog gl spec_l1Cur__sized.spec :=
  ctr_okS tabs spec_l1Cur__sized.text spec_l1Cur__sized.seg_eq (fun n x => ⟨.p0 x.1, rfl, rfl, rfl⟩) (consC spec_l1Cur__pick.ok (consC spec_l1Cur__wide.ok (consC spec_l1Cur__one.ok (nilC))))

/-! (*loop.example/g00039/spec.l1Cur).valueBy -/
def spec_l1Cur__valueBy.T : List Ctr := [spec_l1Cur__pick.spec, spec_l1Cur__sized.spec]
def spec_l1Cur__valueBy.md : List (Nat × List Md) := [(34, [.p (.pair (.bs (.int .u8)) (.pair (.int .i64) (.pair (.int .u64) .unit))), .v]), (57, [.p (.pair (.bs (.int .u8)) (.pair (.int .i64) (.pair (.int .u64) .unit)))])]
noncomputable def spec_l1Cur__valueBy.F : Fun := ⟨(Go.Proofs.Tryd.f52.body).getD .skip, [.p (.pair (.bs (.int .u8)) (.pair (.int .i64) (.pair (.int .u64) .unit))), .v (.int .i64)], [(.tmp 4, (.int .i64))], [some (.pair (.bs (.int .u8)) (.pair (.int .i64) (.pair (.int .u64) .unit)))], 1, []⟩
inductive spec_l1Cur__valueBy.Pt where
  | p0 (a0 : (List (Int)) × ((Int) × ((Int) × (Unit)))) (a1 : Int)
def spec_l1Cur__valueBy.lb : spec_l1Cur__valueBy.Pt → Nat
  | .p0 _ _ => 0
def spec_l1Cur__valueBy.st : spec_l1Cur__valueBy.Pt → St
  | .p0 a0 a1 => enter [.p (.pair (.bs (.int .u8)) (.pair (.int .i64) (.pair (.int .u64) .unit))) a0, .v (.int .i64) a1] 1
def spec_l1Cur__valueBy.step (n : Nat) (K : spec_l1Cur__valueBy.Pt → Option (Tup [(.int .i64), (.pair (.bs (.int .u8)) (.pair (.int .i64) (.pair (.int .u64) .unit)))])) : spec_l1Cur__valueBy.Pt → Option (Tup [(.int .i64), (.pair (.bs (.int .u8)) (.pair (.int .i64) (.pair (.int .u64) .unit)))])
  | .p0 a0 a1 => (spec_l1Cur__pick n (a0.1, a0.2) (10 : Int)).bind fun r5 => cond (decide (r5.1 = (0 : Int))) ((spec_l1Cur__sized n (r5.2.1, r5.2.2)).bind fun r6 => some (r6.1, (r6.2.1, r6.2.2))) (cond (decide (r5.1 = (1 : Int))) (some ((-(9223372036854775808 : Int)), (r5.2.1, r5.2.2))) (cond (decide (r5.1 = (2 : Int))) (cond (decide (r5.1 = (2 : Int))) (some (a1, (r5.2.1, r5.2.2))) ((spec_l1Cur__pick n (r5.2.1, r5.2.2) (9 : Int)).bind fun r6 => some ((IntKind.wrap .i64 ((IntKind.wrap .i64 (a1 + r6.1)) - (2 : Int))), (r6.2.1, r6.2.2)))) (cond (decide (r5.1 = (3 : Int))) (some (a1, (r5.2.1, r5.2.2))) ((spec_l1Cur__pick n (r5.2.1, r5.2.2) (9 : Int)).bind fun r6 => some ((IntKind.wrap .i64 ((IntKind.wrap .i64 (a1 + r6.1)) - (2 : Int))), (r6.2.1, r6.2.2))))))
def spec_l1Cur__valueBy (n : Nat) (a0 : (List (Int)) × ((Int) × ((Int) × (Unit)))) (a1 : Int) : Option (Tup [(.int .i64), (.pair (.bs (.int .u8)) (.pair (.int .i64) (.pair (.int .u64) .unit)))]) := goRec spec_l1Cur__valueBy.step n (.p0 a0 a1)
def spec_l1Cur__valueBy.spec : Ctr := ⟨52, [.p (.pair (.bs (.int .u8)) (.pair (.int .i64) (.pair (.int .u64) .unit))), .v (.int .i64)], [(.int .i64)], [(.pair (.bs (.int .u8)) (.pair (.int .i64) (.pair (.int .u64) .unit)))], none, fun n x => spec_l1Cur__valueBy n x.1 x.2.1⟩
theorem spec_l1Cur__valueBy.seg_eq : SegEq ty gl spec_l1Cur__valueBy.F spec_l1Cur__valueBy.md spec_l1Cur__valueBy.T spec_l1Cur__valueBy.spec spec_l1Cur__valueBy.lb spec_l1Cur__valueBy.st spec_l1Cur__valueBy.step := by
  intro n goto y; cases y <;> kernel_rfl
theorem spec_l1Cur__valueBy.text : Text Go.Proofs.Tryd.prog spec_l1Cur__valueBy.F spec_l1Cur__valueBy.spec := textOf Go.Proofs.Tryd.f52
theorem spec_l1Cur__valueBy.ok : CtrOK Go.Proofs.Tryd.prog gl spec_l1Cur__valueBy.spec :=
  ctr_okS tabs spec_l1Cur__valueBy.text spec_l1Cur__valueBy.seg_eq (fun n x => ⟨.p0 x.1 x.2.1, rfl, rfl, rfl⟩) (consC spec_l1Cur__pick.ok (consC spec_l1Cur__sized.ok (nilC)))

/-! (*loop.example/g00039/spec.l1Cur).samples -/
def spec_l1Cur__samples.T : List Ctr := [spec_l1Cur__pick.spec, spec_l1Cur__valueBy.spec]
def spec_l1Cur__samples.md : List (Nat × List Md) := [(34, [.p (.pair (.bs (.int .u8)) (.pair (.int .i64) (.pair (.int .u64) .unit))), .v]), (52, [.p (.pair (.bs (.int .u8)) (.pair (.int .i64) (.pair (.int .u64) .unit))), .v])]
noncomputable def spec_l1Cur__samples.F : Fun := ⟨(Go.Proofs.Tryd.f33.body).getD .skip, [.p (.pair (.bs (.int .u8)) (.pair (.int .i64) (.pair (.int .u64) .unit))), .v (.int .i64), .v (.int .i64)], [(.tmp 6, (.sl false (.pair (.int .i64) (.pair (.int .i64) .unit))))], [some (.pair (.bs (.int .u8)) (.pair (.int .i64) (.pair (.int .u64) .unit)))], 1, [(15, ⟨[0, 7, 8, 9, 10, 11], [(7, (.pair (.int .i64) (.pair (.int .i64) .unit)))], [], false⟩), (31, ⟨[0, 7, 8, 9, 10, 11], [(7, (.pair (.int .i64) (.pair (.int .i64) .unit)))], [], false⟩)]⟩
inductive spec_l1Cur__samples.Pt where
  | p0 (a0 : (List (Int)) × ((Int) × ((Int) × (Unit)))) (a1 : Int) (a2 : Int)
  | p15 (y1 : Int) (y2 : Int) (y3 : Int) (y4 : Int) (y5 : List (Int)) (y6 : Int) (y7 : Int) (y8 : List ((Int) × ((Int) × (Unit))))
  | p31 (y1 : Int) (y2 : Int) (y3 : Int) (y4 : Int) (y5 : List (Int)) (y6 : Int) (y7 : Int) (y8 : List ((Int) × ((Int) × (Unit))))
def spec_l1Cur__samples.lb : spec_l1Cur__samples.Pt → Nat
  | .p0 _ _ _ => 0
  | .p15 _ _ _ _ _ _ _ _ => 15
  | .p31 _ _ _ _ _ _ _ _ => 31
def spec_l1Cur__samples.st : spec_l1Cur__samples.Pt → St
  | .p0 a0 a1 a2 => enter [.p (.pair (.bs (.int .u8)) (.pair (.int .i64) (.pair (.int .u64) .unit))) a0, .v (.int .i64) a1, .v (.int .i64) a2] 1
  | .p15 y1 y2 y3 y4 y5 y6 y7 y8 => ⟨[(0, .po 0 0), (7, .hs 1 [] none 0), (8, .im (.int .i64) y1), (9, .im (.int .i64) y2), (10, .im (.int .i64) y3), (11, .im (.int .i64) y4)], [(0, .obj [.im (.bs (.int .u8)) y5, .im (.int .i64) y6, .im (.int .u64) y7]), (1, .arr true (.pair (.int .i64) (.pair (.int .i64) .unit)) y8 0)], 2⟩
  | .p31 y1 y2 y3 y4 y5 y6 y7 y8 => ⟨[(0, .po 0 0), (7, .hs 1 [] none 0), (8, .im (.int .i64) y1), (9, .im (.int .i64) y2), (10, .im (.int .i64) y3), (11, .im (.int .i64) y4)], [(0, .obj [.im (.bs (.int .u8)) y5, .im (.int .i64) y6, .im (.int .u64) y7]), (1, .arr true (.pair (.int .i64) (.pair (.int .i64) .unit)) y8 0)], 2⟩
def spec_l1Cur__samples.step (n : Nat) (K : spec_l1Cur__samples.Pt → Option (Tup [(.sl false (.pair (.int .i64) (.pair (.int .i64) .unit))), (.pair (.bs (.int .u8)) (.pair (.int .i64) (.pair (.int .u64) .unit)))])) : spec_l1Cur__samples.Pt → Option (Tup [(.sl false (.pair (.int .i64) (.pair (.int .i64) .unit))), (.pair (.bs (.int .u8)) (.pair (.int .i64) (.pair (.int .u64) .unit)))])
  | .p0 a0 a1 a2 => (spec_l1Cur__pick n (a0.1, a0.2) (100 : Int)).bind fun r6 => (spec_l1Cur__pick n (r6.2.1, r6.2.2) (15 : Int)).bind fun r7 => (spec_l1Cur__pick n (r7.2.1, r7.2.2) a2).bind fun r8 => K (.p15 a1 r6.1 (IntKind.wrap .i64 ((1 : Int) + r7.1)) r8.1 r8.2.1 r8.2.2.1 r8.2.2.2.1 ([] : List ((Int) × ((Int) × (Unit)))))
  | .p15 y1 y2 y3 y4 y5 y6 y7 y8 => cond (decide ((0 : Int) < y4)) ((spec_l1Cur__valueBy n (y5, (y6, (y7, ()))) y2).bind fun r11 => cond (room ((List.length y8) + (List.length [(y1, (r11.1, ()))]))) ((spec_l1Cur__pick n (r11.2.1, r11.2.2) (12 : Int)).bind fun r12 => cond (decide (r12.1 = (0 : Int))) ((spec_l1Cur__pick n (r12.2.1, r12.2.2) (400 : Int)).bind fun r13 => K (.p31 y1 r11.1 (IntKind.wrap .i64 ((1 : Int) + r13.1)) y4 r13.2.1 r13.2.2.1 r13.2.2.2.1 (y8 ++ [(y1, (r11.1, ()))]))) (cond (decide (r12.1 = (1 : Int))) ((spec_l1Cur__pick n (r12.2.1, r12.2.2) (5000 : Int)).bind fun r13 => K (.p31 y1 r11.1 (IntKind.wrap .i64 ((1 : Int) + r13.1)) y4 r13.2.1 r13.2.2.1 r13.2.2.2.1 (y8 ++ [(y1, (r11.1, ()))]))) (cond (decide (r12.1 = (2 : Int))) ((spec_l1Cur__pick n (r12.2.1, r12.2.2) (30 : Int)).bind fun r13 => K (.p31 y1 r11.1 (IntKind.wrap .i64 ((1 : Int) + r13.1)) y4 r13.2.1 r13.2.2.1 r13.2.2.2.1 (y8 ++ [(y1, (r11.1, ()))]))) (K (.p31 y1 r11.1 y3 y4 r12.2.1 r12.2.2.1 r12.2.2.2.1 (y8 ++ [(y1, (r11.1, ()))])))))) (none)) (some (y8, (y5, (y6, (y7, ())))))
  | .p31 y1 y2 y3 y4 y5 y6 y7 y8 => K (.p15 (IntKind.wrap .i64 (y1 + y3)) y2 y3 (IntKind.wrap .i64 (y4 - (1 : Int))) y5 y6 y7 y8)
def spec_l1Cur__samples (n : Nat) (a0 : (List (Int)) × ((Int) × ((Int) × (Unit)))) (a1 : Int) (a2 : Int) : Option (Tup [(.sl false (.pair (.int .i64) (.pair (.int .i64) .unit))), (.pair (.bs (.int .u8)) (.pair (.int .i64) (.pair (.int .u64) .unit)))]) := goRec spec_l1Cur__samples.step n (.p0 a0 a1 a2)
def spec_l1Cur__samples.spec : Ctr := ⟨33, [.p (.pair (.bs (.int .u8)) (.pair (.int .i64) (.pair (.int .u64) .unit))), .v (.int .i64), .v (.int .i64)], [(.sl false (.pair (.int .i64) (.pair (.int .i64) .unit)))], [(.pair (.bs (.int .u8)) (.pair (.int .i64) (.pair (.int .u64) .unit)))], none, fun n x => spec_l1Cur__samples n x.1 x.2.1 x.2.2.1⟩
theorem spec_l1Cur__samples.seg_eq : SegEq ty gl spec_l1Cur__samples.F spec_l1Cur__samples.md spec_l1Cur__samples.T spec_l1Cur__samples.spec spec_l1Cur__samples.lb spec_l1Cur__samples.st spec_l1Cur__samples.step := by
  intro n goto y; cases y <;> kernel_rfl
theorem spec_l1Cur__samples.text : Text Go.Proofs.Tryd.prog spec_l1Cur__samples.F spec_l1Cur__samples.spec := textOf Go.Proofs.Tryd.f33
theorem spec_l1Cur__samples.ok : CtrOK Go.Proofs.Tryd.prog gl spec_l1Cur__samples.spec :=
  ctr_okS tabs spec_l1Cur__samples.text spec_l1Cur__samples.seg_eq (fun n x => ⟨.p0 x.1 x.2.1 x.2.2.1, rfl, rfl, rfl⟩) (consC spec_l1Cur__pick.ok (consC spec_l1Cur__valueBy.ok (nilC)))

/-! (*loop.example/g00039/spec.l1Cur).of2 -/
def spec_l1Cur__of2.T : List Ctr := [spec_l1Cur__one.spec]
def spec_l1Cur__of2.md : List (Nat × List Md) := [(36, [.p (.pair (.bs (.int .u8)) (.pair (.int .i64) (.pair (.int .u64) .unit))), .v])]
noncomputable def spec_l1Cur__of2.F : Fun := ⟨(Go.Proofs.Tryd.f51.body).getD .skip, [.p (.pair (.bs (.int .u8)) (.pair (.int .i64) (.pair (.int .u64) .unit))), .v (.int .i64), .v (.int .i64)], [(.tmp 6, (.int .i64))], [some (.pair (.bs (.int .u8)) (.pair (.int .i64) (.pair (.int .u64) .unit)))], 1, []⟩
inductive spec_l1Cur__of2.Pt where
  | p0 (a0 : (List (Int)) × ((Int) × ((Int) × (Unit)))) (a1 : Int) (a2 : Int)
def spec_l1Cur__of2.lb : spec_l1Cur__of2.Pt → Nat
  | .p0 _ _ _ => 0
def spec_l1Cur__of2.st : spec_l1Cur__of2.Pt → St
  | .p0 a0 a1 a2 => enter [.p (.pair (.bs (.int .u8)) (.pair (.int .i64) (.pair (.int .u64) .unit))) a0, .v (.int .i64) a1, .v (.int .i64) a2] 1
def spec_l1Cur__of2.step (n : Nat) (K : spec_l1Cur__of2.Pt → Option (Tup [(.int .i64), (.pair (.bs (.int .u8)) (.pair (.int .i64) (.pair (.int .u64) .unit)))])) : spec_l1Cur__of2.Pt → Option (Tup [(.int .i64), (.pair (.bs (.int .u8)) (.pair (.int .i64) (.pair (.int .u64) .unit)))])
  | .p0 a0 a1 a2 => (spec_l1Cur__one n (a0.1, a0.2) (2 : Int)).bind fun r6 => cond r6.1 (some (a1, (r6.2.1, r6.2.2))) (some (a2, (r6.2.1, r6.2.2)))
def spec_l1Cur__of2 (n : Nat) (a0 : (List (Int)) × ((Int) × ((Int) × (Unit)))) (a1 : Int) (a2 : Int) : Option (Tup [(.int .i64), (.pair (.bs (.int .u8)) (.pair (.int .i64) (.pair (.int .u64) .unit)))]) := goRec spec_l1Cur__of2.step n (.p0 a0 a1 a2)
def spec_l1Cur__of2.spec : Ctr := ⟨51, [.p (.pair (.bs (.int .u8)) (.pair (.int .i64) (.pair (.int .u64) .unit))), .v (.int .i64), .v (.int .i64)], [(.int .i64)], [(.pair (.bs (.int .u8)) (.pair (.int .i64) (.pair (.int .u64) .unit)))], none, fun n x => spec_l1Cur__of2 n x.1 x.2.1 x.2.2.1⟩
theorem spec_l1Cur__of2.seg_eq : SegEq ty gl spec_l1Cur__of2.F spec_l1Cur__of2.md spec_l1Cur__of2.T spec_l1Cur__of2.spec spec_l1Cur__of2.lb spec_l1Cur__of2.st spec_l1Cur__of2.step := by
  intro n goto y; cases y <;> kernel_rfl
theorem spec_l1Cur__of2.text : Text Go.Proofs.Tryd.prog spec_l1Cur__of2.F spec_l1Cur__of2.spec := textOf Go.Proofs.Tryd.f51
theorem spec_l1Cur__of2.ok : CtrOK Go.Proofs.Tryd.prog gl spec_l1Cur__of2.spec :=
  ctr_okS tabs spec_l1Cur__of2.text spec_l1Cur__of2.seg_eq (fun n x => ⟨.p0 x.1 x.2.1 x.2.2.1, rfl, rfl, rfl⟩) (consC spec_l1Cur__one.ok (nilC))

/-! (*loop.example/g00039/spec.l1Cur).oddSamples -/
def spec_l1Cur__oddSamples.T : List Ctr := [spec_l1Cur__pick.spec, spec_l1Cur__of2.spec]
def spec_l1Cur__oddSamples.md : List (Nat × List Md) := [(34, [.p (.pair (.bs (.int .u8)) (.pair (.int .i64) (.pair (.int .u64) .unit))), .v]), (51, [.p (.pair (.bs (.int .u8)) (.pair (.int .i64) (.pair (.int .u64) .unit))), .v, .v])]
noncomputable def spec_l1Cur__oddSamples.F : Fun := ⟨(Go.Proofs.Tryd.f32.body).getD .skip, [.p (.pair (.bs (.int .u8)) (.pair (.int .i64) (.pair (.int .u64) .unit))), .g (.sl false (.pair (.int .i64) (.pair (.int .i64) .unit)))], [(.tmp 4, (.sl false (.pair (.int .i64) (.pair (.int .i64) .unit))))], [some (.pair (.bs (.int .u8)) (.pair (.int .i64) (.pair (.int .u64) .unit)))], 1, []⟩
inductive spec_l1Cur__oddSamples.Pt where
  | p0 (a0 : (List (Int)) × ((Int) × ((Int) × (Unit)))) (a1 : List ((Int) × ((Int) × (Unit))))
def spec_l1Cur__oddSamples.lb : spec_l1Cur__oddSamples.Pt → Nat
  | .p0 _ _ => 0
def spec_l1Cur__oddSamples.st : spec_l1Cur__oddSamples.Pt → St
  | .p0 a0 a1 => enter [.p (.pair (.bs (.int .u8)) (.pair (.int .i64) (.pair (.int .u64) .unit))) a0, .g (.sl false (.pair (.int .i64) (.pair (.int .i64) .unit))) a1] 1
def spec_l1Cur__oddSamples.step (n : Nat) (K : spec_l1Cur__oddSamples.Pt → Option (Tup [(.sl false (.pair (.int .i64) (.pair (.int .i64) .unit))), (.pair (.bs (.int .u8)) (.pair (.int .i64) (.pair (.int .u64) .unit)))])) : spec_l1Cur__oddSamples.Pt → Option (Tup [(.sl false (.pair (.int .i64) (.pair (.int .i64) .unit))), (.pair (.bs (.int .u8)) (.pair (.int .i64) (.pair (.int .u64) .unit)))])
  | .p0 a0 a1 => (spec_l1Cur__pick n (a0.1, a0.2) (20 : Int)).bind fun r5 => cond (decide (r5.1 = (0 : Int))) (cond (decide ((1 : Int) < ((List.length a1) : Int))) (cond (inB (0 : Int) (List.length a1)) (cond (inB (1 : Int) (List.length a1)) (some ((List.set a1 (0 + (Int.toNat (1 : Int))) ((List.getD a1 (0 + (Int.toNat (0 : Int))) default).1, (List.getD a1 (0 + (Int.toNat (1 : Int))) default).2)), (r5.2.1, r5.2.2))) (none)) (none)) (some (a1, (r5.2.1, r5.2.2)))) (cond (decide (r5.1 = (1 : Int))) ((spec_l1Cur__of2 n (r5.2.1, r5.2.2) (1000000000000 : Int) (1000000000001 : Int)).bind fun r6 => cond (room ((List.length a1) + (List.length [(r6.1, (default : (Int) × (Unit)))]))) (some ((a1 ++ [(r6.1, (default : (Int) × (Unit)))]), (r6.2.1, r6.2.2))) (none)) (cond (decide (r5.1 = (2 : Int))) (cond (decide ((0 : Int) < ((List.length a1) : Int))) (cond (inB (0 : Int) (List.length a1)) (some ((List.set a1 (0 + (Int.toNat (0 : Int))) ((-(1 : Int)), (List.getD a1 (0 + (Int.toNat (0 : Int))) default).2)), (r5.2.1, r5.2.2))) (none)) (some (a1, (r5.2.1, r5.2.2)))) (some (a1, (r5.2.1, r5.2.2)))))
def spec_l1Cur__oddSamples (n : Nat) (a0 : (List (Int)) × ((Int) × ((Int) × (Unit)))) (a1 : List ((Int) × ((Int) × (Unit)))) : Option (Tup [(.sl false (.pair (.int .i64) (.pair (.int .i64) .unit))), (.pair (.bs (.int .u8)) (.pair (.int .i64) (.pair (.int .u64) .unit)))]) := goRec spec_l1Cur__oddSamples.step n (.p0 a0 a1)
def spec_l1Cur__oddSamples.spec : Ctr := ⟨32, [.p (.pair (.bs (.int .u8)) (.pair (.int .i64) (.pair (.int .u64) .unit))), .g (.sl false (.pair (.int .i64) (.pair (.int .i64) .unit)))], [(.sl false (.pair (.int .i64) (.pair (.int .i64) .unit)))], [(.pair (.bs (.int .u8)) (.pair (.int .i64) (.pair (.int .u64) .unit)))], none, fun n x => spec_l1Cur__oddSamples n x.1 x.2.1⟩
theorem spec_l1Cur__oddSamples.seg_eq : SegEq ty gl spec_l1Cur__oddSamples.F spec_l1Cur__oddSamples.md spec_l1Cur__oddSamples.T spec_l1Cur__oddSamples.spec spec_l1Cur__oddSamples.lb spec_l1Cur__oddSamples.st spec_l1Cur__oddSamples.step := by
  intro n goto y; cases y <;> kernel_rfl
theorem spec_l1Cur__oddSamples.text : Text Go.Proofs.Tryd.prog spec_l1Cur__oddSamples.F spec_l1Cur__oddSamples.spec := textOf Go.Proofs.Tryd.f32
theorem spec_l1Cur__oddSamples.ok : CtrOK Go.Proofs.Tryd.prog gl spec_l1Cur__oddSamples.spec :=
  ctr_okS tabs spec_l1Cur__oddSamples.text spec_l1Cur__oddSamples.seg_eq (fun n x => ⟨.p0 x.1 x.2.1, rfl, rfl, rfl⟩) (consC spec_l1Cur__pick.ok (consC spec_l1Cur__of2.ok (nilC)))

/-! (*loop.example/g00039/spec.l1Cur).longSamples -/
def spec_l1Cur__longSamples.T : List Ctr := []
def spec_l1Cur__longSamples.md : List (Nat × List Md) := []
noncomputable def spec_l1Cur__longSamples.F : Fun := ⟨(Go.Proofs.Tryd.f37.body).getD .skip, [.q (.pair (.bs (.int .u8)) (.pair (.int .i64) (.pair (.int .u64) .unit))), .v (.int .i64)], [(.tmp 4, (.sl false (.pair (.int .i64) (.pair (.int .i64) .unit))))], [], 0, [(9, ⟨[1, 5, 6], [(5, (.pair (.int .i64) (.pair (.int .i64) .unit)))], [], false⟩)]⟩
inductive spec_l1Cur__longSamples.Pt where
  | p0 (a0 : (List (Int)) × ((Int) × ((Int) × (Unit)))) (a1 : Int)
  | p9 (y1 : Int) (y2 : Int) (y3 : List ((Int) × ((Int) × (Unit))))
def spec_l1Cur__longSamples.lb : spec_l1Cur__longSamples.Pt → Nat
  | .p0 _ _ => 0
  | .p9 _ _ _ => 9
def spec_l1Cur__longSamples.st : spec_l1Cur__longSamples.Pt → St
  | .p0 a0 a1 => enter [.q (.pair (.bs (.int .u8)) (.pair (.int .i64) (.pair (.int .u64) .unit))) a0, .v (.int .i64) a1] 0
  | .p9 y1 y2 y3 => ⟨[(1, .im (.int .i64) y1), (5, .hs 0 [] none 0), (6, .im (.int .i64) y2)], [(0, .arr true (.pair (.int .i64) (.pair (.int .i64) .unit)) y3 0)], 1⟩
def spec_l1Cur__longSamples.step (n : Nat) (K : spec_l1Cur__longSamples.Pt → Option (Tup [(.sl false (.pair (.int .i64) (.pair (.int .i64) .unit)))])) : spec_l1Cur__longSamples.Pt → Option (Tup [(.sl false (.pair (.int .i64) (.pair (.int .i64) .unit)))])
  | .p0 a0 a1 => K (.p9 a1 (0 : Int) ([] : List ((Int) × ((Int) × (Unit)))))
  | .p9 y1 y2 y3 => cond (decide (y2 < y1)) (cond (room ((List.length y3) + (List.length [((IntKind.wrap .i64 (y2 * (3 : Int))), ((IntKind.wrap .i64 (y2 * y2)), ()))]))) (K (.p9 y1 (IntKind.wrap .i64 (y2 + (1 : Int))) (y3 ++ [((IntKind.wrap .i64 (y2 * (3 : Int))), ((IntKind.wrap .i64 (y2 * y2)), ()))]))) (none)) (some y3)
def spec_l1Cur__longSamples (n : Nat) (a0 : (List (Int)) × ((Int) × ((Int) × (Unit)))) (a1 : Int) : Option (Tup [(.sl false (.pair (.int .i64) (.pair (.int .i64) .unit)))]) := goRec spec_l1Cur__longSamples.step n (.p0 a0 a1)
def spec_l1Cur__longSamples.spec : Ctr := ⟨37, [.q (.pair (.bs (.int .u8)) (.pair (.int .i64) (.pair (.int .u64) .unit))), .v (.int .i64)], [(.sl false (.pair (.int .i64) (.pair (.int .i64) .unit)))], [], none, fun n x => spec_l1Cur__longSamples n x.1 x.2.1⟩
theorem spec_l1Cur__longSamples.seg_eq : SegEq ty gl spec_l1Cur__longSamples.F spec_l1Cur__longSamples.md spec_l1Cur__longSamples.T spec_l1Cur__longSamples.spec spec_l1Cur__longSamples.lb spec_l1Cur__longSamples.st spec_l1Cur__longSamples.step := by
  intro n goto y; cases y <;> kernel_rfl
theorem spec_l1Cur__longSamples.text : Text Go.Proofs.Tryd.prog spec_l1Cur__longSamples.F spec_l1Cur__longSamples.spec := textOf Go.Proofs.Tryd.f37
theorem spec_l1Cur__longSamples.ok : CtrOK Go.Proofs.Tryd.prog gl spec_l1Cur__longSamples.spec :=
  ctr_okS tabs spec_l1Cur__longSamples.text spec_l1Cur__longSamples.seg_eq (fun n x => ⟨.p0 x.1 x.2.1, rfl, rfl, rfl⟩) (nilC)

/-! loop.example/g00039/spec.DrawPackChunk -/
def spec_DrawPackChunk.T : List Ctr := [spec_l1Cur__pick.spec, spec_l1Many.spec, spec_l1Cur__one.spec, spec_l1Cur__samples.spec, spec_l1Cur__oddSamples.spec, spec_l1Cur__longSamples.spec]
def spec_DrawPackChunk.md : List (Nat × List Md) := [(34, [.p (.pair (.bs (.int .u8)) (.pair (.int .i64) (.pair (.int .u64) .unit))), .v]), (33, [.p (.pair (.bs (.int .u8)) (.pair (.int .i64) (.pair (.int .u64) .unit))), .v, .v]), (32, [.p (.pair (.bs (.int .u8)) (.pair (.int .i64) (.pair (.int .u64) .unit))), .g (.sl false (.pair (.int .i64) (.pair (.int .i64) .unit)))]), (36, [.p (.pair (.bs (.int .u8)) (.pair (.int .i64) (.pair (.int .u64) .unit))), .v]), (37, [.q (.pair (.bs (.int .u8)) (.pair (.int .i64) (.pair (.int .u64) .unit))), .v])]
noncomputable def spec_DrawPackChunk.F : Fun := ⟨(Go.Proofs.Tryd.f14.body).getD .skip, [.v (.bs (.int .u8))], [(.tmp 2, (.sl false (.pair (.int .i64) (.pair (.int .i64) .unit))))], [], 0, [(7, ⟨[3, 4], [(4, (.pair (.int .i64) (.pair (.int .i64) .unit)))], [], false⟩)]⟩
inductive spec_DrawPackChunk.Pt where
  | p0 (a0 : List (Int))
  | p7 (y1 : List (Int)) (y2 : Int) (y3 : Int) (y4 : List ((Int) × ((Int) × (Unit))))
def spec_DrawPackChunk.lb : spec_DrawPackChunk.Pt → Nat
  | .p0 _ => 0
  | .p7 _ _ _ _ => 7
def spec_DrawPackChunk.st : spec_DrawPackChunk.Pt → St
  | .p0 a0 => enter [.v (.bs (.int .u8)) a0] 0
  | .p7 y1 y2 y3 y4 => ⟨[(3, .po 0 0), (4, .hs 1 [] none 0)], [(0, .obj [.im (.bs (.int .u8)) y1, .im (.int .i64) y2, .im (.int .u64) y3]), (1, .arr false (.pair (.int .i64) (.pair (.int .i64) .unit)) y4 0)], 2⟩
def spec_DrawPackChunk.step (n : Nat) (K : spec_DrawPackChunk.Pt → Option (Tup [(.sl false (.pair (.int .i64) (.pair (.int .i64) .unit)))])) : spec_DrawPackChunk.Pt → Option (Tup [(.sl false (.pair (.int .i64) (.pair (.int .i64) .unit)))])
  | .p0 a0 => (spec_l1Cur__pick n (a0, (default : (Int) × ((Int) × (Unit)))) (50 : Int)).bind fun r4 => (spec_l1Many n a0 (8 : Int) (90 : Int)).bind fun (r5 : Int) => (spec_l1Cur__samples n (r4.2.1, r4.2.2) r4.1 (IntKind.wrap .i64 ((20 : Int) + r5))).bind fun r6 => (spec_l1Cur__oddSamples n (r6.2.1, r6.2.2) r6.1).bind fun r7 => (spec_l1Cur__one n (r7.2.1, r7.2.2) (30 : Int)).bind fun r8 => cond r8.1 ((spec_l1Cur__pick n (r8.2.1, r8.2.2) (3 : Int)).bind fun r9 => (spec_l1Cur__longSamples n (r9.2.1, r9.2.2) (IntKind.wrap .i64 ((119 : Int) + r9.1))).bind fun r10 => K (.p7 r9.2.1 r9.2.2.1 r9.2.2.2.1 r10)) (K (.p7 r8.2.1 r8.2.2.1 r8.2.2.2.1 r7.1))
  | .p7 y1 y2 y3 y4 => (spec_l1Cur__one n (y1, (y2, (y3, ()))) (12 : Int)).bind fun r7 => cond r7.1 ((spec_l1Cur__pick n (r7.2.1, r7.2.2) (2 : Int)).bind fun r8 => some ((List.take ((Int.toNat (0 : Int)) - (Int.toNat (0 : Int))) y4) ++ [((0 : Int), ((1 : Int), ())), ((IntKind.wrap .i64 ((1000000000000 : Int) - r8.1)), (default : (Int) × (Unit))), ((1000000000000 : Int), ((-(1 : Int)), ()))])) (some y4)
def spec_DrawPackChunk (n : Nat) (a0 : List (Int)) : Option (Tup [(.sl false (.pair (.int .i64) (.pair (.int .i64) .unit)))]) := goRec spec_DrawPackChunk.step n (.p0 a0)
def spec_DrawPackChunk.spec : Ctr := ⟨14, [.v (.bs (.int .u8))], [(.sl false (.pair (.int .i64) (.pair (.int .i64) .unit)))], [], none, fun n x => spec_DrawPackChunk n x.1⟩
theorem spec_DrawPackChunk.seg_eq : SegEq ty gl spec_DrawPackChunk.F spec_DrawPackChunk.md spec_DrawPackChunk.T spec_DrawPackChunk.spec spec_DrawPackChunk.lb spec_DrawPackChunk.st spec_DrawPackChunk.step := by
  intro n goto y; cases y <;> kernel_rfl
theorem spec_DrawPackChunk.text : Text Go.Proofs.Tryd.prog spec_DrawPackChunk.F spec_DrawPackChunk.spec := textOf Go.Proofs.Tryd.f14
theorem spec_DrawPackChunk.ok : CtrOK Go.Proofs.Tryd.prog gl spec_DrawPackChunk.spec :=
  ctr_okS tabs spec_DrawPackChunk.text spec_DrawPackChunk.seg_eq (fun n x => ⟨.p0 x.1, rfl, rfl, rfl⟩) (consC spec_l1Cur__pick.ok (consC spec_l1Many.ok (consC spec_l1Cur__one.ok (consC spec_l1Cur__samples.ok (consC spec_l1Cur__oddSamples.ok (consC spec_l1Cur__longSamples.ok (nilC)))))))

/-! loop.example/g00039/impl.isTime -/
def impl_isTime.T : List Ctr := []
def impl_isTime.md : List (Nat × List Md) := []
noncomputable def impl_isTime.F : Fun := ⟨(Go.Proofs.Tryd.f47.body).getD .skip, [.v (.int .i64)], [(.tmp 2, .bool)], [], 0, []⟩
inductive impl_isTime.Pt where
  | p0 (a0 : Int)
def impl_isTime.lb : impl_isTime.Pt → Nat
  | .p0 _ => 0
def impl_isTime.st : impl_isTime.Pt → St
  | .p0 a0 => enter [.v (.int .i64) a0] 0
def impl_isTime.step (n : Nat) (K : impl_isTime.Pt → Option (Tup [.bool])) : impl_isTime.Pt → Option (Tup [.bool])
  | .p0 a0 => cond (decide ((0 : Int) ≤ a0)) (some (decide (a0 ≤ (1000000000000 : Int)))) (some false)
def impl_isTime (n : Nat) (a0 : Int) : Option (Tup [.bool]) := goRec impl_isTime.step n (.p0 a0)
def impl_isTime.spec : Ctr := ⟨47, [.v (.int .i64)], [.bool], [], none, fun n x => impl_isTime n x.1⟩
theorem impl_isTime.seg_eq : SegEq ty gl impl_isTime.F impl_isTime.md impl_isTime.T impl_isTime.spec impl_isTime.lb impl_isTime.st impl_isTime.step := by
  intro n goto y; cases y <;> kernel_rfl
theorem impl_isTime.text : Text Go.Proofs.Tryd.prog impl_isTime.F impl_isTime.spec := textOf Go.Proofs.Tryd.f47
theorem impl_isTime.ok : CtrOK Go.Proofs.Tryd.prog gl impl_isTime.spec :=
  ctr_okS tabs impl_isTime.text impl_isTime.seg_eq (fun n x => ⟨.p0 x.1, rfl, rfl, rfl⟩) (nilC)

/-! loop.example/g00039/impl.GoodSamples -/
def impl_GoodSamples.T : List Ctr := [impl_isTime.spec]
def impl_GoodSamples.md : List (Nat × List Md) := []
noncomputable def impl_GoodSamples.F : Fun := ⟨(Go.Proofs.Tryd.f26.body).getD .skip, [.v (.sl false (.pair (.int .i64) (.pair (.int .i64) .unit)))], [(.tmp 2, .bool)], [], 0, [(15, ⟨[0, 8, 9, 10], [(8, (.pair (.int .i64) (.pair (.int .i64) .unit)))], [], false⟩), (26, ⟨[0, 8, 9, 10, 33], [(8, (.pair (.int .i64) (.pair (.int .i64) .unit)))], [], false⟩)]⟩
inductive impl_GoodSamples.Pt where
  | p0 (a0 : List ((Int) × ((Int) × (Unit))))
  | p15 (y1 : List ((Int) × ((Int) × (Unit)))) (y2 : List ((Int) × ((Int) × (Unit)))) (y3 : Int) (y4 : Int)
  | p26 (y1 : List ((Int) × ((Int) × (Unit)))) (y2 : List ((Int) × ((Int) × (Unit)))) (y3 : Int) (y4 : Int) (y5 : Bool)
def impl_GoodSamples.lb : impl_GoodSamples.Pt → Nat
  | .p0 _ => 0
  | .p15 _ _ _ _ => 15
  | .p26 _ _ _ _ _ => 26
def impl_GoodSamples.st : impl_GoodSamples.Pt → St
  | .p0 a0 => enter [.v (.sl false (.pair (.int .i64) (.pair (.int .i64) .unit))) a0] 0
  | .p15 y1 y2 y3 y4 => ⟨[(0, .im (.sl false (.pair (.int .i64) (.pair (.int .i64) .unit))) y1), (8, .im (.sl false (.pair (.int .i64) (.pair (.int .i64) .unit))) y2), (9, .im (.int .i64) y3), (10, .im (.int .i64) y4)], [], 0⟩
  | .p26 y1 y2 y3 y4 y5 => ⟨[(0, .im (.sl false (.pair (.int .i64) (.pair (.int .i64) .unit))) y1), (8, .im (.sl false (.pair (.int .i64) (.pair (.int .i64) .unit))) y2), (9, .im (.int .i64) y3), (10, .im (.int .i64) y4), (33, .im .bool y5)], [], 0⟩
def impl_GoodSamples.step (n : Nat) (K : impl_GoodSamples.Pt → Option (Tup [.bool])) : impl_GoodSamples.Pt → Option (Tup [.bool])
  | .p0 a0 => cond (decide ((2000 : Int) < ((List.length a0) : Int))) (some false) (K (.p15 a0 a0 ((List.length a0) : Int) (0 : Int)))
  | .p15 y1 y2 y3 y4 => cond (decide (y4 < y3)) (cond (inB y4 (List.length y2)) ((impl_isTime n (List.getD y2 (Int.toNat y4) default).1).bind fun r7 => cond (!r7) (K (.p26 y1 y2 y3 y4 true)) (cond (decide ((0 : Int) < y4)) (cond (inB (IntKind.wrap .i64 (y4 - (1 : Int))) (List.length y1)) (K (.p26 y1 y2 y3 y4 (decide ((List.getD y2 (Int.toNat y4) default).1 ≤ (List.getD y1 (Int.toNat (IntKind.wrap .i64 (y4 - (1 : Int)))) default).1)))) (none)) (K (.p26 y1 y2 y3 y4 false)))) (none)) (some true)
  | .p26 y1 y2 y3 y4 y5 => cond y5 (some false) (K (.p15 y1 y2 y3 (IntKind.wrap .i64 (y4 + (1 : Int)))))
def impl_GoodSamples (n : Nat) (a0 : List ((Int) × ((Int) × (Unit)))) : Option (Tup [.bool]) := goRec impl_GoodSamples.step n (.p0 a0)
def impl_GoodSamples.spec : Ctr := ⟨26, [.v (.sl false (.pair (.int .i64) (.pair (.int .i64) .unit)))], [.bool], [], none, fun n x => impl_GoodSamples n x.1⟩
theorem impl_GoodSamples.seg_eq : SegEq ty gl impl_GoodSamples.F impl_GoodSamples.md impl_GoodSamples.T impl_GoodSamples.spec impl_GoodSamples.lb impl_GoodSamples.st impl_GoodSamples.step := by
  intro n goto y; cases y <;> kernel_rfl
theorem impl_GoodSamples.text : Text Go.Proofs.Tryd.prog impl_GoodSamples.F impl_GoodSamples.spec := textOf Go.Proofs.Tryd.f26
theorem impl_GoodSamples.ok : CtrOK Go.Proofs.Tryd.prog gl impl_GoodSamples.spec :=
  ctr_okS tabs impl_GoodSamples.text impl_GoodSamples.seg_eq (fun n x => ⟨.p0 x.1, rfl, rfl, rfl⟩) (consC impl_isTime.ok (nilC))

/-! (*loop.example/g00039/impl.bitWriter).put -/
def impl_bitWriter__put.T : List Ctr := []
def impl_bitWriter__put.md : List (Nat × List Md) := []
noncomputable def impl_bitWriter__put.F : Fun := ⟨(Go.Proofs.Tryd.f48.body).getD .skip, [.p (.pair (.sl false (.int .u8)) (.pair (.int .i64) .unit)), .v (.int .i64), .v (.int .i64)], [], [some (.pair (.sl false (.int .u8)) (.pair (.int .i64) .unit))], 1, [(4, ⟨[0, 1, 6], [], [], false⟩), (13, ⟨[0, 1, 6], [], [], false⟩)]⟩
inductive impl_bitWriter__put.Pt where
  | p0 (a0 : (List (Int)) × ((Int) × (Unit))) (a1 : Int) (a2 : Int)
  | p4 (y1 : Int) (y2 : Int) (y3 : Int) (y4 : List (Int))
  | p13 (y1 : Int) (y2 : Int) (y3 : Int) (y4 : List (Int))
def impl_bitWriter__put.lb : impl_bitWriter__put.Pt → Nat
  | .p0 _ _ _ => 0
  | .p4 _ _ _ _ => 4
  | .p13 _ _ _ _ => 13
def impl_bitWriter__put.st : impl_bitWriter__put.Pt → St
  | .p0 a0 a1 a2 => enter [.p (.pair (.sl false (.int .u8)) (.pair (.int .i64) .unit)) a0, .v (.int .i64) a1, .v (.int .i64) a2] 1
  | .p4 y1 y2 y3 y4 => ⟨[(0, .po 0 0), (1, .im (.int .i64) y1), (6, .im (.int .i64) y2)], [(0, .obj [.hs 1 [] none 0, .im (.int .i64) y3]), (1, .arr false (.int .u8) y4 0)], 2⟩
  | .p13 y1 y2 y3 y4 => ⟨[(0, .po 0 0), (1, .im (.int .i64) y1), (6, .im (.int .i64) y2)], [(0, .obj [.hs 1 [] none 0, .im (.int .i64) y3]), (1, .arr false (.int .u8) y4 0)], 2⟩
def impl_bitWriter__put.step (n : Nat) (K : impl_bitWriter__put.Pt → Option (Tup [(.pair (.sl false (.int .u8)) (.pair (.int .i64) .unit))])) : impl_bitWriter__put.Pt → Option (Tup [(.pair (.sl false (.int .u8)) (.pair (.int .i64) .unit))])
  | .p0 a0 a1 a2 => K (.p4 a1 (IntKind.wrap .i64 (a2 - (1 : Int))) a0.2.1 a0.1)
  | .p4 y1 y2 y3 y4 => cond (decide ((0 : Int) ≤ y2)) (cond (decide ((Int.tmod y3 (8 : Int)) = (0 : Int))) (cond (room ((List.length y4) + (List.length [(0 : Int)]))) (K (.p13 y1 y2 y3 (y4 ++ [(0 : Int)]))) (none)) (K (.p13 y1 y2 y3 y4))) (some (y4, (y3, ())))
  | .p13 y1 y2 y3 y4 => cond (decide (0 ≤ y2)) (cond (decide ((band .u64 (shr .u64 (IntKind.wrap .u64 y1) y2) (1 : Int)) = (1 : Int))) (cond (inB (IntKind.wrap .i64 (Int.tdiv y3 (8 : Int))) (List.length y4)) (cond (decide (0 ≤ (Int.tmod y3 (8 : Int)))) (cond (inB (IntKind.wrap .i64 (Int.tdiv y3 (8 : Int))) (List.length y4)) (K (.p4 y1 (IntKind.wrap .i64 (y2 - (1 : Int))) (IntKind.wrap .i64 (y3 + (1 : Int))) (List.set y4 (0 + (Int.toNat (IntKind.wrap .i64 (Int.tdiv y3 (8 : Int))))) (bor .u8 (List.getD y4 (0 + (Int.toNat (IntKind.wrap .i64 (Int.tdiv y3 (8 : Int))))) default) (shr .u8 (128 : Int) (Int.tmod y3 (8 : Int))))))) (none)) (none)) (none)) (K (.p4 y1 (IntKind.wrap .i64 (y2 - (1 : Int))) (IntKind.wrap .i64 (y3 + (1 : Int))) y4))) (none)
def impl_bitWriter__put (n : Nat) (a0 : (List (Int)) × ((Int) × (Unit))) (a1 : Int) (a2 : Int) : Option (Tup [(.pair (.sl false (.int .u8)) (.pair (.int .i64) .unit))]) := goRec impl_bitWriter__put.step n (.p0 a0 a1 a2)
def impl_bitWriter__put.spec : Ctr := ⟨48, [.p (.pair (.sl false (.int .u8)) (.pair (.int .i64) .unit)), .v (.int .i64), .v (.int .i64)], [], [(.pair (.sl false (.int .u8)) (.pair (.int .i64) .unit))], none, fun n x => impl_bitWriter__put n x.1 x.2.1 x.2.2.1⟩
theorem impl_bitWriter__put.seg_eq : SegEq ty gl impl_bitWriter__put.F impl_bitWriter__put.md impl_bitWriter__put.T impl_bitWriter__put.spec impl_bitWriter__put.lb impl_bitWriter__put.st impl_bitWriter__put.step := by
  intro n goto y; cases y <;> kernel_rfl
theorem impl_bitWriter__put.text : Text Go.Proofs.Tryd.prog impl_bitWriter__put.F impl_bitWriter__put.spec := textOf Go.Proofs.Tryd.f48
theorem impl_bitWriter__put.ok : CtrOK Go.Proofs.Tryd.prog gl impl_bitWriter__put.spec :=
  ctr_okS tabs impl_bitWriter__put.text impl_bitWriter__put.seg_eq (fun n x => ⟨.p0 x.1 x.2.1 x.2.2.1, rfl, rfl, rfl⟩) (nilC)

/-! math/bits.Len64 -/
def bits_Len64.T : List Ctr := []
def bits_Len64.md : List (Nat × List Md) := []
noncomputable def bits_Len64.F : Fun := ⟨(Go.Proofs.Tryd.f56.body).getD .skip, [.v (.int .u64)], [(.tmp 2, (.int .i64))], [], 0, [(11, ⟨[0, 2], [], [], false⟩)]⟩
inductive bits_Len64.Pt where
  | p0 (a0 : Int)
  | p11 (y1 : Int) (y2 : Int)
def bits_Len64.lb : bits_Len64.Pt → Nat
  | .p0 _ => 0
  | .p11 _ _ => 11
def bits_Len64.st : bits_Len64.Pt → St
  | .p0 a0 => enter [.v (.int .u64) a0] 0
  | .p11 y1 y2 => ⟨[(0, .im (.int .u64) y1), (2, .im (.int .i64) y2)], [], 0⟩
def bits_Len64.step (n : Nat) (K : bits_Len64.Pt → Option (Tup [(.int .i64)])) : bits_Len64.Pt → Option (Tup [(.int .i64)])
  | .p0 a0 => cond (decide ((4294967296 : Int) ≤ a0)) (cond (decide ((65536 : Int) ≤ (shr .u64 a0 (32 : Int)))) (K (.p11 (shr .u64 (shr .u64 a0 (32 : Int)) (16 : Int)) (IntKind.wrap .i64 ((32 : Int) + (16 : Int))))) (K (.p11 (shr .u64 a0 (32 : Int)) (32 : Int)))) (cond (decide ((65536 : Int) ≤ a0)) (K (.p11 (shr .u64 a0 (16 : Int)) (IntKind.wrap .i64 ((0 : Int) + (16 : Int))))) (K (.p11 a0 (0 : Int))))
  | .p11 y1 y2 => cond (decide ((256 : Int) ≤ y1)) (cond (inB (IntKind.wrap .u8 (shr .u64 y1 (8 : Int))) (ByteArray.size (⟨#[0, 1, 2, 2, 3, 3, 3, 3, 4, 4, 4, 4, 4, 4, 4, 4, 5, 5, 5, 5, 5, 5, 5, 5, 5, 5, 5, 5, 5, 5, 5, 5, 6, 6, 6, 6, 6, 6, 6, 6, 6, 6, 6, 6, 6, 6, 6, 6, 6, 6, 6, 6, 6, 6, 6, 6, 6, 6, 6, 6, 6, 6, 6, 6, 7, 7, 7, 7, 7, 7, 7, 7, 7, 7, 7, 7, 7, 7, 7, 7, 7, 7, 7, 7, 7, 7, 7, 7, 7, 7, 7, 7, 7, 7, 7, 7, 7, 7, 7, 7, 7, 7, 7, 7, 7, 7, 7, 7, 7, 7, 7, 7, 7, 7, 7, 7, 7, 7, 7, 7, 7, 7, 7, 7, 7, 7, 7, 7, 8, 8, 8, 8, 8, 8, 8, 8, 8, 8, 8, 8, 8, 8, 8, 8, 8, 8, 8, 8, 8, 8, 8, 8, 8, 8, 8, 8, 8, 8, 8, 8, 8, 8, 8, 8, 8, 8, 8, 8, 8, 8, 8, 8, 8, 8, 8, 8, 8, 8, 8, 8, 8, 8, 8, 8, 8, 8, 8, 8, 8, 8, 8, 8, 8, 8, 8, 8, 8, 8, 8, 8, 8, 8, 8, 8, 8, 8, 8, 8, 8, 8, 8, 8, 8, 8, 8, 8, 8, 8, 8, 8, 8, 8, 8, 8, 8, 8, 8, 8, 8, 8, 8, 8, 8, 8, 8, 8, 8, 8, 8, 8, 8, 8, 8, 8, 8, 8, 8, 8, 8, 8, 8, 8, 8, 8, 8, 8]⟩ : ByteArray))) (some (IntKind.wrap .i64 ((IntKind.wrap .i64 (y2 + (8 : Int))) + (IntKind.wrap .i64 (bt (⟨#[0, 1, 2, 2, 3, 3, 3, 3, 4, 4, 4, 4, 4, 4, 4, 4, 5, 5, 5, 5, 5, 5, 5, 5, 5, 5, 5, 5, 5, 5, 5, 5, 6, 6, 6, 6, 6, 6, 6, 6, 6, 6, 6, 6, 6, 6, 6, 6, 6, 6, 6, 6, 6, 6, 6, 6, 6, 6, 6, 6, 6, 6, 6, 6, 7, 7, 7, 7, 7, 7, 7, 7, 7, 7, 7, 7, 7, 7, 7, 7, 7, 7, 7, 7, 7, 7, 7, 7, 7, 7, 7, 7, 7, 7, 7, 7, 7, 7, 7, 7, 7, 7, 7, 7, 7, 7, 7, 7, 7, 7, 7, 7, 7, 7, 7, 7, 7, 7, 7, 7, 7, 7, 7, 7, 7, 7, 7, 7, 8, 8, 8, 8, 8, 8, 8, 8, 8, 8, 8, 8, 8, 8, 8, 8, 8, 8, 8, 8, 8, 8, 8, 8, 8, 8, 8, 8, 8, 8, 8, 8, 8, 8, 8, 8, 8, 8, 8, 8, 8, 8, 8, 8, 8, 8, 8, 8, 8, 8, 8, 8, 8, 8, 8, 8, 8, 8, 8, 8, 8, 8, 8, 8, 8, 8, 8, 8, 8, 8, 8, 8, 8, 8, 8, 8, 8, 8, 8, 8, 8, 8, 8, 8, 8, 8, 8, 8, 8, 8, 8, 8, 8, 8, 8, 8, 8, 8, 8, 8, 8, 8, 8, 8, 8, 8, 8, 8, 8, 8, 8, 8, 8, 8, 8, 8, 8, 8, 8, 8, 8, 8, 8, 8, 8, 8, 8, 8]⟩ : ByteArray) (IntKind.wrap .u8 (shr .u64 y1 (8 : Int)))))))) (none)) (cond (inB (IntKind.wrap .u8 y1) (ByteArray.size (⟨#[0, 1, 2, 2, 3, 3, 3, 3, 4, 4, 4, 4, 4, 4, 4, 4, 5, 5, 5, 5, 5, 5, 5, 5, 5, 5, 5, 5, 5, 5, 5, 5, 6, 6, 6, 6, 6, 6, 6, 6, 6, 6, 6, 6, 6, 6, 6, 6, 6, 6, 6, 6, 6, 6, 6, 6, 6, 6, 6, 6, 6, 6, 6, 6, 7, 7, 7, 7, 7, 7, 7, 7, 7, 7, 7, 7, 7, 7, 7, 7, 7, 7, 7, 7, 7, 7, 7, 7, 7, 7, 7, 7, 7, 7, 7, 7, 7, 7, 7, 7, 7, 7, 7, 7, 7, 7, 7, 7, 7, 7, 7, 7, 7, 7, 7, 7, 7, 7, 7, 7, 7, 7, 7, 7, 7, 7, 7, 7, 8, 8, 8, 8, 8, 8, 8, 8, 8, 8, 8, 8, 8, 8, 8, 8, 8, 8, 8, 8, 8, 8, 8, 8, 8, 8, 8, 8, 8, 8, 8, 8, 8, 8, 8, 8, 8, 8, 8, 8, 8, 8, 8, 8, 8, 8, 8, 8, 8, 8, 8, 8, 8, 8, 8, 8, 8, 8, 8, 8, 8, 8, 8, 8, 8, 8, 8, 8, 8, 8, 8, 8, 8, 8, 8, 8, 8, 8, 8, 8, 8, 8, 8, 8, 8, 8, 8, 8, 8, 8, 8, 8, 8, 8, 8, 8, 8, 8, 8, 8, 8, 8, 8, 8, 8, 8, 8, 8, 8, 8, 8, 8, 8, 8, 8, 8, 8, 8, 8, 8, 8, 8, 8, 8, 8, 8, 8, 8]⟩ : ByteArray))) (some (IntKind.wrap .i64 (y2 + (IntKind.wrap .i64 (bt (⟨#[0, 1, 2, 2, 3, 3, 3, 3, 4, 4, 4, 4, 4, 4, 4, 4, 5, 5, 5, 5, 5, 5, 5, 5, 5, 5, 5, 5, 5, 5, 5, 5, 6, 6, 6, 6, 6, 6, 6, 6, 6, 6, 6, 6, 6, 6, 6, 6, 6, 6, 6, 6, 6, 6, 6, 6, 6, 6, 6, 6, 6, 6, 6, 6, 7, 7, 7, 7, 7, 7, 7, 7, 7, 7, 7, 7, 7, 7, 7, 7, 7, 7, 7, 7, 7, 7, 7, 7, 7, 7, 7, 7, 7, 7, 7, 7, 7, 7, 7, 7, 7, 7, 7, 7, 7, 7, 7, 7, 7, 7, 7, 7, 7, 7, 7, 7, 7, 7, 7, 7, 7, 7, 7, 7, 7, 7, 7, 7, 8, 8, 8, 8, 8, 8, 8, 8, 8, 8, 8, 8, 8, 8, 8, 8, 8, 8, 8, 8, 8, 8, 8, 8, 8, 8, 8, 8, 8, 8, 8, 8, 8, 8, 8, 8, 8, 8, 8, 8, 8, 8, 8, 8, 8, 8, 8, 8, 8, 8, 8, 8, 8, 8, 8, 8, 8, 8, 8, 8, 8, 8, 8, 8, 8, 8, 8, 8, 8, 8, 8, 8, 8, 8, 8, 8, 8, 8, 8, 8, 8, 8, 8, 8, 8, 8, 8, 8, 8, 8, 8, 8, 8, 8, 8, 8, 8, 8, 8, 8, 8, 8, 8, 8, 8, 8, 8, 8, 8, 8, 8, 8, 8, 8, 8, 8, 8, 8, 8, 8, 8, 8, 8, 8, 8, 8, 8, 8]⟩ : ByteArray) (IntKind.wrap .u8 y1)))))) (none))
def bits_Len64 (n : Nat) (a0 : Int) : Option (Tup [(.int .i64)]) := goRec bits_Len64.step n (.p0 a0)
def bits_Len64.spec : Ctr := ⟨56, [.v (.int .u64)], [(.int .i64)], [], none, fun n x => bits_Len64 n x.1⟩
theorem bits_Len64.seg_eq : SegEq ty gl bits_Len64.F bits_Len64.md bits_Len64.T bits_Len64.spec bits_Len64.lb bits_Len64.st bits_Len64.step := by
  intro n goto y; cases y <;> kernel_rfl
theorem bits_Len64.text : Text Go.Proofs.Tryd.prog bits_Len64.F bits_Len64.spec := textOf Go.Proofs.Tryd.f56
theorem bits_Len64.ok : CtrOK Go.Proofs.Tryd.prog gl bits_Len64.spec :=
  ctr_okS tabs bits_Len64.text bits_Len64.seg_eq (fun n x => ⟨.p0 x.1, rfl, rfl, rfl⟩) (nilC)

/-! math/bits.LeadingZeros64 -/
def bits_LeadingZeros64.T : List Ctr := [bits_Len64.spec]
def bits_LeadingZeros64.md : List (Nat × List Md) := []
noncomputable def bits_LeadingZeros64.F : Fun := ⟨(Go.Proofs.Tryd.f49.body).getD .skip, [.v (.int .u64)], [(.tmp 2, (.int .i64))], [], 0, []⟩
inductive bits_LeadingZeros64.Pt where
  | p0 (a0 : Int)
def bits_LeadingZeros64.lb : bits_LeadingZeros64.Pt → Nat
  | .p0 _ => 0
def bits_LeadingZeros64.st : bits_LeadingZeros64.Pt → St
  | .p0 a0 => enter [.v (.int .u64) a0] 0
def bits_LeadingZeros64.step (n : Nat) (K : bits_LeadingZeros64.Pt → Option (Tup [(.int .i64)])) : bits_LeadingZeros64.Pt → Option (Tup [(.int .i64)])
  | .p0 a0 => (bits_Len64 n a0).bind fun (r4 : Int) => some (IntKind.wrap .i64 ((64 : Int) - r4))
def bits_LeadingZeros64 (n : Nat) (a0 : Int) : Option (Tup [(.int .i64)]) := goRec bits_LeadingZeros64.step n (.p0 a0)
def bits_LeadingZeros64.spec : Ctr := ⟨49, [.v (.int .u64)], [(.int .i64)], [], none, fun n x => bits_LeadingZeros64 n x.1⟩
theorem bits_LeadingZeros64.seg_eq : SegEq ty gl bits_LeadingZeros64.F bits_LeadingZeros64.md bits_LeadingZeros64.T bits_LeadingZeros64.spec bits_LeadingZeros64.lb bits_LeadingZeros64.st bits_LeadingZeros64.step := by
  intro n goto y; cases y <;> kernel_rfl
theorem bits_LeadingZeros64.text : Text Go.Proofs.Tryd.prog bits_LeadingZeros64.F bits_LeadingZeros64.spec := textOf Go.Proofs.Tryd.f49
theorem bits_LeadingZeros64.ok : CtrOK Go.Proofs.Tryd.prog gl bits_LeadingZeros64.spec :=
  ctr_okS tabs bits_LeadingZeros64.text bits_LeadingZeros64.seg_eq (fun n x => ⟨.p0 x.1, rfl, rfl, rfl⟩) (consC bits_Len64.ok (nilC))

/-! math/bits.TrailingZeros64 -/
def bits_TrailingZeros64.T : List Ctr := []
def bits_TrailingZeros64.md : List (Nat × List Md) := []
noncomputable def bits_TrailingZeros64.F : Fun := ⟨(Go.Proofs.Tryd.f50.body).getD .skip, [.v (.int .u64)], [(.tmp 2, (.int .i64))], [], 0, []⟩
inductive bits_TrailingZeros64.Pt where
  | p0 (a0 : Int)
def bits_TrailingZeros64.lb : bits_TrailingZeros64.Pt → Nat
  | .p0 _ => 0
def bits_TrailingZeros64.st : bits_TrailingZeros64.Pt → St
  | .p0 a0 => enter [.v (.int .u64) a0] 0
def bits_TrailingZeros64.step (n : Nat) (K : bits_TrailingZeros64.Pt → Option (Tup [(.int .i64)])) : bits_TrailingZeros64.Pt → Option (Tup [(.int .i64)])
  | .p0 a0 => cond (decide (a0 = (0 : Int))) (some (64 : Int)) (cond (inB (shr .u64 (IntKind.wrap .u64 ((285870213051353865 : Int) * (band .u64 a0 (IntKind.wrap .u64 ((0 : Int) - a0))))) (58 : Int)) 64) (some (IntKind.wrap .i64 (List.getD (List.getD [[(0 : Int), (1 : Int), (56 : Int), (2 : Int), (57 : Int), (49 : Int), (28 : Int), (3 : Int), (61 : Int), (58 : Int), (42 : Int), (50 : Int), (38 : Int), (29 : Int), (17 : Int), (4 : Int), (62 : Int), (47 : Int), (59 : Int), (36 : Int), (45 : Int), (43 : Int), (51 : Int), (22 : Int), (53 : Int), (39 : Int), (33 : Int), (30 : Int), (24 : Int), (18 : Int), (12 : Int), (5 : Int), (63 : Int), (55 : Int), (48 : Int), (27 : Int), (60 : Int), (41 : Int), (37 : Int), (16 : Int), (46 : Int), (35 : Int), (44 : Int), (21 : Int), (52 : Int), (32 : Int), (23 : Int), (11 : Int), (54 : Int), (26 : Int), (40 : Int), (15 : Int), (34 : Int), (20 : Int), (31 : Int), (10 : Int), (25 : Int), (14 : Int), (19 : Int), (9 : Int), (13 : Int), (8 : Int), (7 : Int), (6 : Int)]] 0 default) (Int.toNat (shr .u64 (IntKind.wrap .u64 ((285870213051353865 : Int) * (band .u64 a0 (IntKind.wrap .u64 ((0 : Int) - a0))))) (58 : Int))) default))) (none))
def bits_TrailingZeros64 (n : Nat) (a0 : Int) : Option (Tup [(.int .i64)]) := goRec bits_TrailingZeros64.step n (.p0 a0)
def bits_TrailingZeros64.spec : Ctr := ⟨50, [.v (.int .u64)], [(.int .i64)], [], none, fun n x => bits_TrailingZeros64 n x.1⟩
theorem bits_TrailingZeros64.seg_eq : SegEq ty gl bits_TrailingZeros64.F bits_TrailingZeros64.md bits_TrailingZeros64.T bits_TrailingZeros64.spec bits_TrailingZeros64.lb bits_TrailingZeros64.st bits_TrailingZeros64.step := by
  intro n goto y; cases y <;> kernel_rfl
theorem bits_TrailingZeros64.text : Text Go.Proofs.Tryd.prog bits_TrailingZeros64.F bits_TrailingZeros64.spec := textOf Go.Proofs.Tryd.f50
theorem bits_TrailingZeros64.ok : CtrOK Go.Proofs.Tryd.prog gl bits_TrailingZeros64.spec :=
  ctr_okS tabs bits_TrailingZeros64.text bits_TrailingZeros64.seg_eq (fun n x => ⟨.p0 x.1, rfl, rfl, rfl⟩) (nilC)

/-! loop.example/g00039/impl.packChunk -/
def impl_packChunk.T : List Ctr := [impl_bitWriter__put.spec, bits_LeadingZeros64.spec, bits_TrailingZeros64.spec]
def impl_packChunk.md : List (Nat × List Md) := [(48, [.p (.pair (.sl false (.int .u8)) (.pair (.int .i64) .unit)), .v, .v])]
noncomputable def impl_packChunk.F : Fun := ⟨(Go.Proofs.Tryd.f27.body).getD .skip, [.v (.sl false (.pair (.int .i64) (.pair (.int .i64) .unit)))], [(.cell 2 26, (.pair (.sl false (.int .u8)) (.pair (.int .i64) .unit)))], [], 0, [(15, ⟨[0, 2, 3, 4, 5, 6, 7, 21, 22, 23], [(21, (.pair (.int .i64) (.pair (.int .i64) .unit)))], [(2, 0, (.int .u8))], false⟩), (42, ⟨[0, 2, 3, 4, 5, 6, 7, 8, 9, 11, 21, 22, 23], [(21, (.pair (.int .i64) (.pair (.int .i64) .unit)))], [(2, 0, (.int .u8))], false⟩), (49, ⟨[0, 2, 3, 4, 5, 6, 7, 8, 9, 21, 22, 23], [(21, (.pair (.int .i64) (.pair (.int .i64) .unit)))], [(2, 0, (.int .u8))], false⟩), (54, ⟨[0, 2, 3, 4, 5, 6, 7, 8, 9, 11, 21, 22, 23, 64], [(21, (.pair (.int .i64) (.pair (.int .i64) .unit)))], [(2, 0, (.int .u8))], false⟩), (60, ⟨[0, 2, 3, 4, 5, 6, 7, 8, 9, 11, 21, 22, 23, 77], [(21, (.pair (.int .i64) (.pair (.int .i64) .unit)))], [(2, 0, (.int .u8))], false⟩), (66, ⟨[0, 2, 3, 4, 5, 6, 7, 8, 9, 11, 21, 22, 23, 90], [(21, (.pair (.int .i64) (.pair (.int .i64) .unit)))], [(2, 0, (.int .u8))], false⟩), (88, ⟨[0, 2, 3, 4, 5, 6, 7, 12, 13, 14, 21, 22, 23, 131], [(21, (.pair (.int .i64) (.pair (.int .i64) .unit)))], [(2, 0, (.int .u8))], false⟩)]⟩
inductive impl_packChunk.Pt where
  | p0 (a0 : List ((Int) × ((Int) × (Unit))))
  | p15 (y1 : List ((Int) × ((Int) × (Unit)))) (y2 : Int) (y3 : Bool) (y4 : Int) (y5 : Int) (y6 : List ((Int) × ((Int) × (Unit)))) (y7 : Int) (y8 : Int) (y9 : Int) (y10 : Int) (y11 : List (Int)) (y12 : List (Int))
  | p42 (y1 : List ((Int) × ((Int) × (Unit)))) (y2 : Int) (y3 : Bool) (y4 : Int) (y5 : Int) (y6 : Int) (y7 : Int) (y8 : List ((Int) × ((Int) × (Unit)))) (y9 : Int) (y10 : Int) (y11 : Int) (y12 : Int) (y13 : Int) (y14 : Int) (y15 : List (Int)) (y16 : List (Int))
  | p49 (y1 : List ((Int) × ((Int) × (Unit)))) (y2 : Int) (y3 : Bool) (y4 : Int) (y5 : Int) (y6 : Int) (y7 : List ((Int) × ((Int) × (Unit)))) (y8 : Int) (y9 : Int) (y10 : Int) (y11 : Int) (y12 : Int) (y13 : Int) (y14 : List (Int)) (y15 : List (Int))
  | p54 (y1 : List ((Int) × ((Int) × (Unit)))) (y2 : Int) (y3 : Bool) (y4 : Int) (y5 : Int) (y6 : Int) (y7 : Int) (y8 : List ((Int) × ((Int) × (Unit)))) (y9 : Int) (y10 : Int) (y11 : Bool) (y12 : Int) (y13 : Int) (y14 : Int) (y15 : Int) (y16 : List (Int)) (y17 : List (Int))
  | p88 (y1 : List ((Int) × ((Int) × (Unit)))) (y2 : Int) (y3 : Bool) (y4 : Int) (y5 : Int) (y6 : Int) (y7 : Int) (y8 : Int) (y9 : List ((Int) × ((Int) × (Unit)))) (y10 : Int) (y11 : Int) (y12 : Bool) (y13 : Int) (y14 : Int) (y15 : List (Int)) (y16 : List (Int))
  | p60 (y1 : List ((Int) × ((Int) × (Unit)))) (y2 : Int) (y3 : Bool) (y4 : Int) (y5 : Int) (y6 : Int) (y7 : Int) (y8 : List ((Int) × ((Int) × (Unit)))) (y9 : Int) (y10 : Int) (y11 : Bool) (y12 : Int) (y13 : Int) (y14 : Int) (y15 : Int) (y16 : List (Int)) (y17 : List (Int))
  | p66 (y1 : List ((Int) × ((Int) × (Unit)))) (y2 : Int) (y3 : Bool) (y4 : Int) (y5 : Int) (y6 : Int) (y7 : Int) (y8 : List ((Int) × ((Int) × (Unit)))) (y9 : Int) (y10 : Int) (y11 : Bool) (y12 : Int) (y13 : Int) (y14 : Int) (y15 : Int) (y16 : List (Int)) (y17 : List (Int))
def impl_packChunk.lb : impl_packChunk.Pt → Nat
  | .p0 _ => 0
  | .p15 _ _ _ _ _ _ _ _ _ _ _ _ => 15
  | .p42 _ _ _ _ _ _ _ _ _ _ _ _ _ _ _ _ => 42
  | .p49 _ _ _ _ _ _ _ _ _ _ _ _ _ _ _ => 49
  | .p54 _ _ _ _ _ _ _ _ _ _ _ _ _ _ _ _ _ => 54
  | .p88 _ _ _ _ _ _ _ _ _ _ _ _ _ _ _ _ => 88
  | .p60 _ _ _ _ _ _ _ _ _ _ _ _ _ _ _ _ _ => 60
  | .p66 _ _ _ _ _ _ _ _ _ _ _ _ _ _ _ _ _ => 66
def impl_packChunk.st : impl_packChunk.Pt → St
  | .p0 a0 => enter [.v (.sl false (.pair (.int .i64) (.pair (.int .i64) .unit))) a0] 0
  | .p15 y1 y2 y3 y4 y5 y6 y7 y8 y9 y10 y11 y12 => ⟨[(0, .im (.sl false (.pair (.int .i64) (.pair (.int .i64) .unit))) y1), (2, .po 0 0), (3, .po 1 0), (4, .im (.int .i64) y2), (5, .im .bool y3), (6, .im (.int .i64) y4), (7, .im (.int .i64) y5), (21, .im (.sl false (.pair (.int .i64) (.pair (.int .i64) .unit))) y6), (22, .im (.int .i64) y7), (23, .im (.int .i64) y8)], [(0, .obj [.hs 2 [] none 0, .im (.int .i64) y9]), (1, .obj [.hs 3 [] none 0, .im (.int .i64) y10]), (2, .arr true (.int .u8) y11 0), (3, .arr false (.int .u8) y12 0)], 4⟩
  | .p42 y1 y2 y3 y4 y5 y6 y7 y8 y9 y10 y11 y12 y13 y14 y15 y16 => ⟨[(0, .im (.sl false (.pair (.int .i64) (.pair (.int .i64) .unit))) y1), (2, .po 0 0), (3, .po 1 0), (4, .im (.int .i64) y2), (5, .im .bool y3), (6, .im (.int .i64) y4), (7, .im (.int .i64) y5), (8, .im (.int .i64) y6), (9, .po 2 0), (11, .im (.int .i64) y7), (21, .im (.sl false (.pair (.int .i64) (.pair (.int .i64) .unit))) y8), (22, .im (.int .i64) y9), (23, .im (.int .i64) y10)], [(0, .obj [.hs 3 [] none 0, .im (.int .i64) y11]), (1, .obj [.hs 4 [] none 0, .im (.int .i64) y12]), (2, .obj [.im (.int .i64) y13, .im (.int .i64) y14]), (3, .arr true (.int .u8) y15 0), (4, .arr false (.int .u8) y16 0)], 5⟩
  | .p49 y1 y2 y3 y4 y5 y6 y7 y8 y9 y10 y11 y12 y13 y14 y15 => ⟨[(0, .im (.sl false (.pair (.int .i64) (.pair (.int .i64) .unit))) y1), (2, .po 0 0), (3, .po 1 0), (4, .im (.int .i64) y2), (5, .im .bool y3), (6, .im (.int .i64) y4), (7, .im (.int .i64) y5), (8, .im (.int .i64) y6), (9, .po 2 0), (21, .im (.sl false (.pair (.int .i64) (.pair (.int .i64) .unit))) y7), (22, .im (.int .i64) y8), (23, .im (.int .i64) y9)], [(0, .obj [.hs 3 [] none 0, .im (.int .i64) y10]), (1, .obj [.hs 4 [] none 0, .im (.int .i64) y11]), (2, .obj [.im (.int .i64) y12, .im (.int .i64) y13]), (3, .arr true (.int .u8) y14 0), (4, .arr false (.int .u8) y15 0)], 5⟩
  | .p54 y1 y2 y3 y4 y5 y6 y7 y8 y9 y10 y11 y12 y13 y14 y15 y16 y17 => ⟨[(0, .im (.sl false (.pair (.int .i64) (.pair (.int .i64) .unit))) y1), (2, .po 0 0), (3, .po 1 0), (4, .im (.int .i64) y2), (5, .im .bool y3), (6, .im (.int .i64) y4), (7, .im (.int .i64) y5), (8, .im (.int .i64) y6), (9, .po 2 0), (11, .im (.int .i64) y7), (21, .im (.sl false (.pair (.int .i64) (.pair (.int .i64) .unit))) y8), (22, .im (.int .i64) y9), (23, .im (.int .i64) y10), (64, .im .bool y11)], [(0, .obj [.hs 3 [] none 0, .im (.int .i64) y12]), (1, .obj [.hs 4 [] none 0, .im (.int .i64) y13]), (2, .obj [.im (.int .i64) y14, .im (.int .i64) y15]), (3, .arr true (.int .u8) y16 0), (4, .arr false (.int .u8) y17 0)], 5⟩
  | .p88 y1 y2 y3 y4 y5 y6 y7 y8 y9 y10 y11 y12 y13 y14 y15 y16 => ⟨[(0, .im (.sl false (.pair (.int .i64) (.pair (.int .i64) .unit))) y1), (2, .po 0 0), (3, .po 1 0), (4, .im (.int .i64) y2), (5, .im .bool y3), (6, .im (.int .i64) y4), (7, .im (.int .i64) y5), (12, .im (.int .u64) y6), (13, .im (.int .i64) y7), (14, .im (.int .i64) y8), (21, .im (.sl false (.pair (.int .i64) (.pair (.int .i64) .unit))) y9), (22, .im (.int .i64) y10), (23, .im (.int .i64) y11), (131, .im .bool y12)], [(0, .obj [.hs 2 [] none 0, .im (.int .i64) y13]), (1, .obj [.hs 3 [] none 0, .im (.int .i64) y14]), (2, .arr true (.int .u8) y15 0), (3, .arr false (.int .u8) y16 0)], 4⟩
  | .p60 y1 y2 y3 y4 y5 y6 y7 y8 y9 y10 y11 y12 y13 y14 y15 y16 y17 => ⟨[(0, .im (.sl false (.pair (.int .i64) (.pair (.int .i64) .unit))) y1), (2, .po 0 0), (3, .po 1 0), (4, .im (.int .i64) y2), (5, .im .bool y3), (6, .im (.int .i64) y4), (7, .im (.int .i64) y5), (8, .im (.int .i64) y6), (9, .po 2 0), (11, .im (.int .i64) y7), (21, .im (.sl false (.pair (.int .i64) (.pair (.int .i64) .unit))) y8), (22, .im (.int .i64) y9), (23, .im (.int .i64) y10), (77, .im .bool y11)], [(0, .obj [.hs 3 [] none 0, .im (.int .i64) y12]), (1, .obj [.hs 4 [] none 0, .im (.int .i64) y13]), (2, .obj [.im (.int .i64) y14, .im (.int .i64) y15]), (3, .arr true (.int .u8) y16 0), (4, .arr false (.int .u8) y17 0)], 5⟩
  | .p66 y1 y2 y3 y4 y5 y6 y7 y8 y9 y10 y11 y12 y13 y14 y15 y16 y17 => ⟨[(0, .im (.sl false (.pair (.int .i64) (.pair (.int .i64) .unit))) y1), (2, .po 0 0), (3, .po 1 0), (4, .im (.int .i64) y2), (5, .im .bool y3), (6, .im (.int .i64) y4), (7, .im (.int .i64) y5), (8, .im (.int .i64) y6), (9, .po 2 0), (11, .im (.int .i64) y7), (21, .im (.sl false (.pair (.int .i64) (.pair (.int .i64) .unit))) y8), (22, .im (.int .i64) y9), (23, .im (.int .i64) y10), (90, .im .bool y11)], [(0, .obj [.hs 3 [] none 0, .im (.int .i64) y12]), (1, .obj [.hs 4 [] none 0, .im (.int .i64) y13]), (2, .obj [.im (.int .i64) y14, .im (.int .i64) y15]), (3, .arr true (.int .u8) y16 0), (4, .arr false (.int .u8) y17 0)], 5⟩
def impl_packChunk.step (n : Nat) (K : impl_packChunk.Pt → Option (Tup [(.pair (.sl false (.int .u8)) (.pair (.int .i64) .unit))])) : impl_packChunk.Pt → Option (Tup [(.pair (.sl false (.int .u8)) (.pair (.int .i64) .unit))])
  | .p0 a0 => (impl_bitWriter__put n (([] : List (Int)), (default : (Int) × (Unit))) ((List.length a0) : Int) (8 : Int)).bind fun r4 => K (.p15 a0 (0 : Int) false (0 : Int) (0 : Int) a0 ((List.length a0) : Int) (0 : Int) (default : Int) r4.2.1 ([] : List (Int)) r4.1)
  | .p15 y1 y2 y3 y4 y5 y6 y7 y8 y9 y10 y11 y12 => cond (decide (y8 < y7)) (cond (inB y8 (List.length y6)) (cond (decide (y8 = (0 : Int))) ((impl_bitWriter__put n (y12, (y10, ())) (List.getD y6 (Int.toNat y8) default).1 (40 : Int)).bind fun r15 => (impl_bitWriter__put n (r15.1, r15.2) (List.getD y6 (Int.toNat y8) default).2.1 (64 : Int)).bind fun r16 => K (.p15 y1 y2 y3 y4 y5 y6 y7 (IntKind.wrap .i64 (y8 + (1 : Int))) y9 r16.2.1 y11 r16.1)) (cond (inB (IntKind.wrap .i64 (y8 - (1 : Int))) (List.length y1)) (cond (decide (y8 = (1 : Int))) (K (.p42 y1 (IntKind.wrap .i64 ((List.getD y6 (Int.toNat y8) default).1 - (List.getD y1 (Int.toNat (IntKind.wrap .i64 (y8 - (1 : Int)))) default).1)) y3 y4 y5 y8 (IntKind.wrap .i64 ((List.getD y6 (Int.toNat y8) default).1 - (List.getD y1 (Int.toNat (IntKind.wrap .i64 (y8 - (1 : Int)))) default).1)) y6 y7 y8 y9 y10 (List.getD y6 (Int.toNat y8) default).1 (List.getD y6 (Int.toNat y8) default).2.1 y11 y12)) (K (.p42 y1 (IntKind.wrap .i64 ((List.getD y6 (Int.toNat y8) default).1 - (List.getD y1 (Int.toNat (IntKind.wrap .i64 (y8 - (1 : Int)))) default).1)) y3 y4 y5 y8 (IntKind.wrap .i64 ((IntKind.wrap .i64 ((List.getD y6 (Int.toNat y8) default).1 - (List.getD y1 (Int.toNat (IntKind.wrap .i64 (y8 - (1 : Int)))) default).1)) - y2)) y6 y7 y8 y9 y10 (List.getD y6 (Int.toNat y8) default).1 (List.getD y6 (Int.toNat y8) default).2.1 y11 y12))) (none))) (none)) (some (y12, (y10, ())))
  | .p42 y1 y2 y3 y4 y5 y6 y7 y8 y9 y10 y11 y12 y13 y14 y15 y16 => cond (decide (y7 = (0 : Int))) ((impl_bitWriter__put n (y16, (y12, ())) (0 : Int) (1 : Int)).bind fun r19 => K (.p49 y1 y2 y3 y4 y5 y6 y8 y9 y10 y11 r19.2.1 y13 y14 y15 r19.1)) (cond (decide ((-(63 : Int)) ≤ y7)) (K (.p54 y1 y2 y3 y4 y5 y6 y7 y8 y9 y10 (decide (y7 ≤ (64 : Int))) y11 y12 y13 y14 y15 y16)) (K (.p54 y1 y2 y3 y4 y5 y6 y7 y8 y9 y10 false y11 y12 y13 y14 y15 y16)))
  | .p49 y1 y2 y3 y4 y5 y6 y7 y8 y9 y10 y11 y12 y13 y14 y15 => cond (inB (IntKind.wrap .i64 (y6 - (1 : Int))) (List.length y1)) (cond (decide ((IntKind.wrap .u64 (bxor .i64 y13 (List.getD y1 (Int.toNat (IntKind.wrap .i64 (y6 - (1 : Int)))) default).2.1)) = (0 : Int))) ((impl_bitWriter__put n (y15, (y11, ())) (0 : Int) (1 : Int)).bind fun r18 => K (.p15 y1 y2 y3 y4 y5 y7 y8 (IntKind.wrap .i64 (y9 + (1 : Int))) y10 r18.2.1 y14 r18.1)) ((bits_LeadingZeros64 n (IntKind.wrap .u64 (bxor .i64 y13 (List.getD y1 (Int.toNat (IntKind.wrap .i64 (y6 - (1 : Int)))) default).2.1))).bind fun (r18 : Int) => (bits_TrailingZeros64 n (IntKind.wrap .u64 (bxor .i64 y13 (List.getD y1 (Int.toNat (IntKind.wrap .i64 (y6 - (1 : Int)))) default).2.1))).bind fun (r19 : Int) => cond y3 (cond (decide (y4 ≤ r18)) (K (.p88 y1 y2 y3 y4 y5 (IntKind.wrap .u64 (bxor .i64 y13 (List.getD y1 (Int.toNat (IntKind.wrap .i64 (y6 - (1 : Int)))) default).2.1)) r18 r19 y7 y8 y9 (decide (y5 ≤ r19)) y10 y11 y14 y15)) (K (.p88 y1 y2 y3 y4 y5 (IntKind.wrap .u64 (bxor .i64 y13 (List.getD y1 (Int.toNat (IntKind.wrap .i64 (y6 - (1 : Int)))) default).2.1)) r18 r19 y7 y8 y9 false y10 y11 y14 y15))) (K (.p88 y1 y2 y3 y4 y5 (IntKind.wrap .u64 (bxor .i64 y13 (List.getD y1 (Int.toNat (IntKind.wrap .i64 (y6 - (1 : Int)))) default).2.1)) r18 r19 y7 y8 y9 false y10 y11 y14 y15)))) (none)
  | .p54 y1 y2 y3 y4 y5 y6 y7 y8 y9 y10 y11 y12 y13 y14 y15 y16 y17 => cond y11 ((impl_bitWriter__put n (y17, (y13, ())) (2 : Int) (2 : Int)).bind fun r20 => (impl_bitWriter__put n (r20.1, r20.2) (IntKind.wrap .i64 (y7 + (63 : Int))) (7 : Int)).bind fun r21 => K (.p49 y1 y2 y3 y4 y5 y6 y8 y9 y10 y12 r21.2.1 y14 y15 y16 r21.1)) (cond (decide ((-(255 : Int)) ≤ y7)) (K (.p60 y1 y2 y3 y4 y5 y6 y7 y8 y9 y10 (decide (y7 ≤ (256 : Int))) y12 y13 y14 y15 y16 y17)) (K (.p60 y1 y2 y3 y4 y5 y6 y7 y8 y9 y10 false y12 y13 y14 y15 y16 y17)))
  | .p88 y1 y2 y3 y4 y5 y6 y7 y8 y9 y10 y11 y12 y13 y14 y15 y16 => cond y12 ((impl_bitWriter__put n (y16, (y14, ())) (2 : Int) (2 : Int)).bind fun r19 => cond (decide (0 ≤ y5)) ((impl_bitWriter__put n (r19.1, r19.2) (IntKind.wrap .i64 (shr .u64 y6 y5)) (IntKind.wrap .i64 ((IntKind.wrap .i64 ((64 : Int) - y4)) - y5))).bind fun r20 => K (.p15 y1 y2 y3 y4 y5 y9 y10 (IntKind.wrap .i64 (y11 + (1 : Int))) y13 r20.2.1 y15 r20.1)) (none)) ((impl_bitWriter__put n (y16, (y14, ())) (3 : Int) (2 : Int)).bind fun r19 => (impl_bitWriter__put n (r19.1, r19.2) y7 (6 : Int)).bind fun r20 => (impl_bitWriter__put n (r20.1, r20.2) (IntKind.wrap .i64 ((IntKind.wrap .i64 ((IntKind.wrap .i64 ((64 : Int) - y7)) - y8)) - (1 : Int))) (6 : Int)).bind fun r21 => cond (decide (0 ≤ y8)) ((impl_bitWriter__put n (r21.1, r21.2) (IntKind.wrap .i64 (shr .u64 y6 y8)) (IntKind.wrap .i64 ((IntKind.wrap .i64 ((64 : Int) - y7)) - y8))).bind fun r22 => K (.p15 y1 y2 true y7 y8 y9 y10 (IntKind.wrap .i64 (y11 + (1 : Int))) y13 r22.2.1 y15 r22.1)) (none))
  | .p60 y1 y2 y3 y4 y5 y6 y7 y8 y9 y10 y11 y12 y13 y14 y15 y16 y17 => cond y11 ((impl_bitWriter__put n (y17, (y13, ())) (6 : Int) (3 : Int)).bind fun r20 => (impl_bitWriter__put n (r20.1, r20.2) (IntKind.wrap .i64 (y7 + (255 : Int))) (9 : Int)).bind fun r21 => K (.p49 y1 y2 y3 y4 y5 y6 y8 y9 y10 y12 r21.2.1 y14 y15 y16 r21.1)) (cond (decide ((-(2047 : Int)) ≤ y7)) (K (.p66 y1 y2 y3 y4 y5 y6 y7 y8 y9 y10 (decide (y7 ≤ (2048 : Int))) y12 y13 y14 y15 y16 y17)) (K (.p66 y1 y2 y3 y4 y5 y6 y7 y8 y9 y10 false y12 y13 y14 y15 y16 y17)))
  | .p66 y1 y2 y3 y4 y5 y6 y7 y8 y9 y10 y11 y12 y13 y14 y15 y16 y17 => cond y11 ((impl_bitWriter__put n (y17, (y13, ())) (14 : Int) (4 : Int)).bind fun r20 => (impl_bitWriter__put n (r20.1, r20.2) (IntKind.wrap .i64 (y7 + (2047 : Int))) (12 : Int)).bind fun r21 => K (.p49 y1 y2 y3 y4 y5 y6 y8 y9 y10 y12 r21.2.1 y14 y15 y16 r21.1)) ((impl_bitWriter__put n (y17, (y13, ())) (15 : Int) (4 : Int)).bind fun r20 => (impl_bitWriter__put n (r20.1, r20.2) y7 (64 : Int)).bind fun r21 => K (.p49 y1 y2 y3 y4 y5 y6 y8 y9 y10 y12 r21.2.1 y14 y15 y16 r21.1))
def impl_packChunk (n : Nat) (a0 : List ((Int) × ((Int) × (Unit)))) : Option (Tup [(.pair (.sl false (.int .u8)) (.pair (.int .i64) .unit))]) := goRec impl_packChunk.step n (.p0 a0)
def impl_packChunk.spec : Ctr := ⟨27, [.v (.sl false (.pair (.int .i64) (.pair (.int .i64) .unit)))], [(.pair (.sl false (.int .u8)) (.pair (.int .i64) .unit))], [], none, fun n x => impl_packChunk n x.1⟩
theorem impl_packChunk.seg_eq : SegEq ty gl impl_packChunk.F impl_packChunk.md impl_packChunk.T impl_packChunk.spec impl_packChunk.lb impl_packChunk.st impl_packChunk.step := by
  intro n goto y; cases y <;> kernel_rfl
theorem impl_packChunk.text : Text Go.Proofs.Tryd.prog impl_packChunk.F impl_packChunk.spec := textOf Go.Proofs.Tryd.f27
theorem impl_packChunk.ok : CtrOK Go.Proofs.Tryd.prog gl impl_packChunk.spec :=
  ctr_okS tabs impl_packChunk.text impl_packChunk.seg_eq (fun n x => ⟨.p0 x.1, rfl, rfl, rfl⟩) (consC impl_bitWriter__put.ok (consC bits_LeadingZeros64.ok (consC bits_TrailingZeros64.ok (nilC))))

/-! loop.example/g00039/impl.PackChunk -/
def impl_PackChunk.T : List Ctr := [impl_GoodSamples.spec, impl_packChunk.spec]
def impl_PackChunk.md : List (Nat × List Md) := []
noncomputable def impl_PackChunk.F : Fun := ⟨(Go.Proofs.Tryd.f8.body).getD .skip, [.v (.sl false (.pair (.int .i64) (.pair (.int .i64) .unit)))], [(.cell 2 26, (.pair (.sl false (.int .u8)) (.pair (.int .i64) .unit)))], [], 0, []⟩
inductive impl_PackChunk.Pt where
  | p0 (a0 : List ((Int) × ((Int) × (Unit))))
def impl_PackChunk.lb : impl_PackChunk.Pt → Nat
  | .p0 _ => 0
def impl_PackChunk.st : impl_PackChunk.Pt → St
  | .p0 a0 => enter [.v (.sl false (.pair (.int .i64) (.pair (.int .i64) .unit))) a0] 0
def impl_PackChunk.step (n : Nat) (K : impl_PackChunk.Pt → Option (Tup [(.pair (.sl false (.int .u8)) (.pair (.int .i64) .unit))])) : impl_PackChunk.Pt → Option (Tup [(.pair (.sl false (.int .u8)) (.pair (.int .i64) .unit))])
  | .p0 a0 => cond (decide ((120 : Int) < ((List.length a0) : Int))) (some (([] : List (Int)), (default : (Int) × (Unit)))) ((impl_GoodSamples n a0).bind fun r4 => cond (!r4) (some (([] : List (Int)), (default : (Int) × (Unit)))) ((impl_packChunk n a0).bind fun r5 => some (r5.1, r5.2)))
def impl_PackChunk (n : Nat) (a0 : List ((Int) × ((Int) × (Unit)))) : Option (Tup [(.pair (.sl false (.int .u8)) (.pair (.int .i64) .unit))]) := goRec impl_PackChunk.step n (.p0 a0)
def impl_PackChunk.spec : Ctr := ⟨8, [.v (.sl false (.pair (.int .i64) (.pair (.int .i64) .unit)))], [(.pair (.sl false (.int .u8)) (.pair (.int .i64) .unit))], [], none, fun n x => impl_PackChunk n x.1⟩
theorem impl_PackChunk.seg_eq : SegEq ty gl impl_PackChunk.F impl_PackChunk.md impl_PackChunk.T impl_PackChunk.spec impl_PackChunk.lb impl_PackChunk.st impl_PackChunk.step := by
  intro n goto y; cases y <;> kernel_rfl
theorem impl_PackChunk.text : Text Go.Proofs.Tryd.prog impl_PackChunk.F impl_PackChunk.spec := textOf Go.Proofs.Tryd.f8
theorem impl_PackChunk.ok : CtrOK Go.Proofs.Tryd.prog gl impl_PackChunk.spec :=
  ctr_okS tabs impl_PackChunk.text impl_PackChunk.seg_eq (fun n x => ⟨.p0 x.1, rfl, rfl, rfl⟩) (consC impl_GoodSamples.ok (consC impl_packChunk.ok (nilC)))

/-! loop.example/g00039/spec.l3Time -/
def spec_l3Time.T : List Ctr := []
def spec_l3Time.md : List (Nat × List Md) := []
noncomputable def spec_l3Time.F : Fun := ⟨(Go.Proofs.Tryd.f38.body).getD .skip, [.v (.int .i64)], [(.tmp 2, .bool)], [], 0, []⟩
inductive spec_l3Time.Pt where
  | p0 (a0 : Int)
def spec_l3Time.lb : spec_l3Time.Pt → Nat
  | .p0 _ => 0
def spec_l3Time.st : spec_l3Time.Pt → St
  | .p0 a0 => enter [.v (.int .i64) a0] 0
def spec_l3Time.step (n : Nat) (K : spec_l3Time.Pt → Option (Tup [.bool])) : spec_l3Time.Pt → Option (Tup [.bool])
  | .p0 a0 => cond (decide ((0 : Int) ≤ a0)) (some (decide (a0 ≤ (1000000000000 : Int)))) (some false)
def spec_l3Time (n : Nat) (a0 : Int) : Option (Tup [.bool]) := goRec spec_l3Time.step n (.p0 a0)
def spec_l3Time.spec : Ctr := ⟨38, [.v (.int .i64)], [.bool], [], none, fun n x => spec_l3Time n x.1⟩
theorem spec_l3Time.seg_eq : SegEq ty gl spec_l3Time.F spec_l3Time.md spec_l3Time.T spec_l3Time.spec spec_l3Time.lb spec_l3Time.st spec_l3Time.step := by
  intro n goto y; cases y <;> kernel_rfl
theorem spec_l3Time.text : Text Go.Proofs.Tryd.prog spec_l3Time.F spec_l3Time.spec := textOf Go.Proofs.Tryd.f38
theorem spec_l3Time.ok : CtrOK Go.Proofs.Tryd.prog gl spec_l3Time.spec :=
  ctr_okS tabs spec_l3Time.text spec_l3Time.seg_eq (fun n x => ⟨.p0 x.1, rfl, rfl, rfl⟩) (nilC)

/-! loop.example/g00039/spec.GoodSamples -/
def spec_GoodSamples.T : List Ctr := [spec_l3Time.spec]
def spec_GoodSamples.md : List (Nat × List Md) := []
noncomputable def spec_GoodSamples.F : Fun := ⟨(Go.Proofs.Tryd.f15.body).getD .skip, [.v (.sl false (.pair (.int .i64) (.pair (.int .i64) .unit)))], [(.tmp 2, .bool)], [], 0, [(7, ⟨[0, 5, 6, 7], [(5, (.pair (.int .i64) (.pair (.int .i64) .unit)))], [], false⟩), (18, ⟨[0, 5, 6, 7, 30], [(5, (.pair (.int .i64) (.pair (.int .i64) .unit)))], [], false⟩)]⟩
inductive spec_GoodSamples.Pt where
  | p0 (a0 : List ((Int) × ((Int) × (Unit))))
  | p7 (y1 : List ((Int) × ((Int) × (Unit)))) (y2 : List ((Int) × ((Int) × (Unit)))) (y3 : Int) (y4 : Int)
  | p18 (y1 : List ((Int) × ((Int) × (Unit)))) (y2 : List ((Int) × ((Int) × (Unit)))) (y3 : Int) (y4 : Int) (y5 : Bool)
def spec_GoodSamples.lb : spec_GoodSamples.Pt → Nat
  | .p0 _ => 0
  | .p7 _ _ _ _ => 7
  | .p18 _ _ _ _ _ => 18
def spec_GoodSamples.st : spec_GoodSamples.Pt → St
  | .p0 a0 => enter [.v (.sl false (.pair (.int .i64) (.pair (.int .i64) .unit))) a0] 0
  | .p7 y1 y2 y3 y4 => ⟨[(0, .im (.sl false (.pair (.int .i64) (.pair (.int .i64) .unit))) y1), (5, .im (.sl false (.pair (.int .i64) (.pair (.int .i64) .unit))) y2), (6, .im (.int .i64) y3), (7, .im (.int .i64) y4)], [], 0⟩
  | .p18 y1 y2 y3 y4 y5 => ⟨[(0, .im (.sl false (.pair (.int .i64) (.pair (.int .i64) .unit))) y1), (5, .im (.sl false (.pair (.int .i64) (.pair (.int .i64) .unit))) y2), (6, .im (.int .i64) y3), (7, .im (.int .i64) y4), (30, .im .bool y5)], [], 0⟩
def spec_GoodSamples.step (n : Nat) (K : spec_GoodSamples.Pt → Option (Tup [.bool])) : spec_GoodSamples.Pt → Option (Tup [.bool])
  | .p0 a0 => K (.p7 a0 a0 ((List.length a0) : Int) (0 : Int))
  | .p7 y1 y2 y3 y4 => cond (decide (y4 < y3)) (cond (inB y4 (List.length y2)) ((spec_l3Time n (List.getD y2 (Int.toNat y4) default).1).bind fun r7 => cond (!r7) (K (.p18 y1 y2 y3 y4 true)) (cond (decide ((0 : Int) < y4)) (cond (inB (IntKind.wrap .i64 (y4 - (1 : Int))) (List.length y1)) (K (.p18 y1 y2 y3 y4 (decide ((List.getD y2 (Int.toNat y4) default).1 ≤ (List.getD y1 (Int.toNat (IntKind.wrap .i64 (y4 - (1 : Int)))) default).1)))) (none)) (K (.p18 y1 y2 y3 y4 false)))) (none)) (some (decide (((List.length y1) : Int) ≤ (2000 : Int))))
  | .p18 y1 y2 y3 y4 y5 => cond y5 (some false) (K (.p7 y1 y2 y3 (IntKind.wrap .i64 (y4 + (1 : Int)))))
def spec_GoodSamples (n : Nat) (a0 : List ((Int) × ((Int) × (Unit)))) : Option (Tup [.bool]) := goRec spec_GoodSamples.step n (.p0 a0)
def spec_GoodSamples.spec : Ctr := ⟨15, [.v (.sl false (.pair (.int .i64) (.pair (.int .i64) .unit)))], [.bool], [], none, fun n x => spec_GoodSamples n x.1⟩
theorem spec_GoodSamples.seg_eq : SegEq ty gl spec_GoodSamples.F spec_GoodSamples.md spec_GoodSamples.T spec_GoodSamples.spec spec_GoodSamples.lb spec_GoodSamples.st spec_GoodSamples.step := by
  intro n goto y; cases y <;> kernel_rfl
theorem spec_GoodSamples.text : Text Go.Proofs.Tryd.prog spec_GoodSamples.F spec_GoodSamples.spec := textOf Go.Proofs.Tryd.f15
theorem spec_GoodSamples.ok : CtrOK Go.Proofs.Tryd.prog gl spec_GoodSamples.spec :=
  ctr_okS tabs spec_GoodSamples.text spec_GoodSamples.seg_eq (fun n x => ⟨.p0 x.1, rfl, rfl, rfl⟩) (consC spec_l3Time.ok (nilC))

/-! loop.example/g00039/impl.GoodBits -/
def impl_GoodBits.T : List Ctr := []
def impl_GoodBits.md : List (Nat × List Md) := []
noncomputable def impl_GoodBits.F : Fun := ⟨(Go.Proofs.Tryd.f19.body).getD .skip, [.v (.pair (.sl false (.int .u8)) (.pair (.int .i64) .unit))], [(.tmp 2, .bool)], [], 0, [(4, ⟨[1, 20], [], [(1, 0, (.int .u8))], false⟩)]⟩
inductive impl_GoodBits.Pt where
  | p0 (a0 : (List (Int)) × ((Int) × (Unit)))
  | p4 (y1 : Bool) (y2 : List (Int)) (y3 : Int)
def impl_GoodBits.lb : impl_GoodBits.Pt → Nat
  | .p0 _ => 0
  | .p4 _ _ _ => 4
def impl_GoodBits.st : impl_GoodBits.Pt → St
  | .p0 a0 => enter [.v (.pair (.sl false (.int .u8)) (.pair (.int .i64) .unit)) a0] 0
  | .p4 y1 y2 y3 => ⟨[(1, .po 0 0), (20, .im .bool y1)], [(0, .obj [.im (.sl false (.int .u8)) y2, .im (.int .i64) y3])], 1⟩
def impl_GoodBits.step (n : Nat) (K : impl_GoodBits.Pt → Option (Tup [.bool])) : impl_GoodBits.Pt → Option (Tup [.bool])
  | .p0 a0 => cond (decide (a0.2.1 < (0 : Int))) (K (.p4 true a0.1 a0.2.1)) (cond (decide ((80000 : Int) < a0.2.1)) (K (.p4 true a0.1 a0.2.1)) (K (.p4 (!(decide (((List.length a0.1) : Int) = (IntKind.wrap .i64 (Int.tdiv (IntKind.wrap .i64 (a0.2.1 + (7 : Int))) (8 : Int)))))) a0.1 a0.2.1)))
  | .p4 y1 y2 y3 => cond y1 (some false) (cond (decide ((Int.tmod y3 (8 : Int)) = (0 : Int))) (some true) (cond (inB (IntKind.wrap .i64 (((List.length y2) : Int) - (1 : Int))) (List.length y2)) (cond (decide (0 ≤ (Int.tmod y3 (8 : Int)))) (some (decide ((shl .u8 (List.getD y2 (Int.toNat (IntKind.wrap .i64 (((List.length y2) : Int) - (1 : Int)))) default) (Int.tmod y3 (8 : Int))) = (0 : Int)))) (none)) (none)))
def impl_GoodBits (n : Nat) (a0 : (List (Int)) × ((Int) × (Unit))) : Option (Tup [.bool]) := goRec impl_GoodBits.step n (.p0 a0)
def impl_GoodBits.spec : Ctr := ⟨19, [.v (.pair (.sl false (.int .u8)) (.pair (.int .i64) .unit))], [.bool], [], none, fun n x => impl_GoodBits n x.1⟩
theorem impl_GoodBits.seg_eq : SegEq ty gl impl_GoodBits.F impl_GoodBits.md impl_GoodBits.T impl_GoodBits.spec impl_GoodBits.lb impl_GoodBits.st impl_GoodBits.step := by
  intro n goto y; cases y <;> kernel_rfl
theorem impl_GoodBits.text : Text Go.Proofs.Tryd.prog impl_GoodBits.F impl_GoodBits.spec := textOf Go.Proofs.Tryd.f19
theorem impl_GoodBits.ok : CtrOK Go.Proofs.Tryd.prog gl impl_GoodBits.spec :=
  ctr_okS tabs impl_GoodBits.text impl_GoodBits.seg_eq (fun n x => ⟨.p0 x.1, rfl, rfl, rfl⟩) (nilC)

/-! bytes.Equal -/
def bytes_Equal.T : List Ctr := []
def bytes_Equal.md : List (Nat × List Md) := []
noncomputable def bytes_Equal.F : Fun := ⟨(Go.Proofs.Tryd.f43.body).getD .skip, [.v (.sl false (.int .u8)), .v (.sl false (.int .u8))], [(.tmp 4, .bool)], [], 0, []⟩
inductive bytes_Equal.Pt where
  | p0 (a0 : List (Int)) (a1 : List (Int))
def bytes_Equal.lb : bytes_Equal.Pt → Nat
  | .p0 _ _ => 0
def bytes_Equal.st : bytes_Equal.Pt → St
  | .p0 a0 a1 => enter [.v (.sl false (.int .u8)) a0, .v (.sl false (.int .u8)) a1] 0
def bytes_Equal.step (n : Nat) (K : bytes_Equal.Pt → Option (Tup [.bool])) : bytes_Equal.Pt → Option (Tup [.bool])
  | .p0 a0 a1 => some (seq (ofOcts a0) (ofOcts a1))
def bytes_Equal (n : Nat) (a0 : List (Int)) (a1 : List (Int)) : Option (Tup [.bool]) := goRec bytes_Equal.step n (.p0 a0 a1)
def bytes_Equal.spec : Ctr := ⟨43, [.v (.sl false (.int .u8)), .v (.sl false (.int .u8))], [.bool], [], none, fun n x => bytes_Equal n x.1 x.2.1⟩
theorem bytes_Equal.seg_eq : SegEq ty gl bytes_Equal.F bytes_Equal.md bytes_Equal.T bytes_Equal.spec bytes_Equal.lb bytes_Equal.st bytes_Equal.step := by
  intro n goto y; cases y <;> kernel_rfl
theorem bytes_Equal.text : Text Go.Proofs.Tryd.prog bytes_Equal.F bytes_Equal.spec := textOf Go.Proofs.Tryd.f43
theorem bytes_Equal.ok : CtrOK Go.Proofs.Tryd.prog gl bytes_Equal.spec :=
  ctr_okS tabs bytes_Equal.text bytes_Equal.seg_eq (fun n x => ⟨.p0 x.1 x.2.1, rfl, rfl, rfl⟩) (nilC)

/-! loop.example/g00039/impl.takeBits -/
def impl_takeBits.T : List Ctr := []
def impl_takeBits.md : List (Nat × List Md) := []
noncomputable def impl_takeBits.F : Fun := ⟨(Go.Proofs.Tryd.f40.body).getD .skip, [.v (.sl false (.int .u8)), .v (.int .i64), .v (.int .i64)], [(.tmp 6, (.int .i64))], [], 0, [(9, ⟨[0, 1, 2, 7, 8], [], [], false⟩)]⟩
inductive impl_takeBits.Pt where
  | p0 (a0 : List (Int)) (a1 : Int) (a2 : Int)
  | p9 (y1 : List (Int)) (y2 : Int) (y3 : Int) (y4 : Int) (y5 : Int)
def impl_takeBits.lb : impl_takeBits.Pt → Nat
  | .p0 _ _ _ => 0
  | .p9 _ _ _ _ _ => 9
def impl_takeBits.st : impl_takeBits.Pt → St
  | .p0 a0 a1 a2 => enter [.v (.sl false (.int .u8)) a0, .v (.int .i64) a1, .v (.int .i64) a2] 0
  | .p9 y1 y2 y3 y4 y5 => ⟨[(0, .im (.sl false (.int .u8)) y1), (1, .im (.int .i64) y2), (2, .im (.int .i64) y3), (7, .im (.int .u64) y4), (8, .im (.int .i64) y5)], [], 0⟩
def impl_takeBits.step (n : Nat) (K : impl_takeBits.Pt → Option (Tup [(.int .i64)])) : impl_takeBits.Pt → Option (Tup [(.int .i64)])
  | .p0 a0 a1 a2 => K (.p9 a0 a1 a2 (0 : Int) a1)
  | .p9 y1 y2 y3 y4 y5 => cond (decide (y5 < (IntKind.wrap .i64 (y2 + y3)))) (cond (inB (IntKind.wrap .i64 (Int.tdiv y5 (8 : Int))) (List.length y1)) (cond (decide (0 ≤ (IntKind.wrap .i64 ((7 : Int) - (Int.tmod y5 (8 : Int)))))) (K (.p9 y1 y2 y3 (bor .u64 (shl .u64 y4 (1 : Int)) (IntKind.wrap .u64 (band .u8 (shr .u8 (List.getD y1 (Int.toNat (IntKind.wrap .i64 (Int.tdiv y5 (8 : Int)))) default) (IntKind.wrap .i64 ((7 : Int) - (Int.tmod y5 (8 : Int))))) (1 : Int)))) (IntKind.wrap .i64 (y5 + (1 : Int))))) (none)) (none)) (some (IntKind.wrap .i64 y4))
def impl_takeBits (n : Nat) (a0 : List (Int)) (a1 : Int) (a2 : Int) : Option (Tup [(.int .i64)]) := goRec impl_takeBits.step n (.p0 a0 a1 a2)
def impl_takeBits.spec : Ctr := ⟨40, [.v (.sl false (.int .u8)), .v (.int .i64), .v (.int .i64)], [(.int .i64)], [], none, fun n x => impl_takeBits n x.1 x.2.1 x.2.2.1⟩
theorem impl_takeBits.seg_eq : SegEq ty gl impl_takeBits.F impl_takeBits.md impl_takeBits.T impl_takeBits.spec impl_takeBits.lb impl_takeBits.st impl_takeBits.step := by
  intro n goto y; cases y <;> kernel_rfl
theorem impl_takeBits.text : Text Go.Proofs.Tryd.prog impl_takeBits.F impl_takeBits.spec := textOf Go.Proofs.Tryd.f40
theorem impl_takeBits.ok : CtrOK Go.Proofs.Tryd.prog gl impl_takeBits.spec :=
  ctr_okS tabs impl_takeBits.text impl_takeBits.seg_eq (fun n x => ⟨.p0 x.1 x.2.1 x.2.2.1, rfl, rfl, rfl⟩) (nilC)

/-! loop.example/g00039/impl.UnpackChunk$1 -/
def impl_UnpackChunk_1.T : List Ctr := [impl_takeBits.spec]
def impl_UnpackChunk_1.md : List (Nat × List Md) := []
noncomputable def impl_UnpackChunk_1.F : Fun := ⟨(Go.Proofs.Tryd.f39.body).getD .skip, [.v (.int .i64), .q (.pair (.sl false (.int .u8)) (.pair (.int .i64) .unit)), .p (.int .i64)], [(.tmp 4, (.int .i64))], [some (.int .i64)], 1, [(3, ⟨[0, 1, 2], [], [], false⟩)]⟩
inductive impl_UnpackChunk_1.Pt where
  | p0 (a0 : Int) (a1 : (List (Int)) × ((Int) × (Unit))) (a2 : Int)
  | p3 (y1 : Int) (y2 : Int) (y3 : (List (Int)) × ((Int) × (Unit)))
def impl_UnpackChunk_1.lb : impl_UnpackChunk_1.Pt → Nat
  | .p0 _ _ _ => 0
  | .p3 _ _ _ => 3
def impl_UnpackChunk_1.st : impl_UnpackChunk_1.Pt → St
  | .p0 a0 a1 a2 => enter [.v (.int .i64) a0, .q (.pair (.sl false (.int .u8)) (.pair (.int .i64) .unit)) a1, .p (.int .i64) a2] 1
  | .p3 y1 y2 y3 => ⟨[(0, .im (.int .i64) y1), (1, .po 1 0), (2, .po 0 0)], [(0, .obj [.im (.int .i64) y2]), (1, .imm (.pair (.sl false (.int .u8)) (.pair (.int .i64) .unit)) y3)], 2⟩
def impl_UnpackChunk_1.step (n : Nat) (K : impl_UnpackChunk_1.Pt → Option (Tup [.bool, (.int .i64), (.int .i64)])) : impl_UnpackChunk_1.Pt → Option (Tup [.bool, (.int .i64), (.int .i64)])
  | .p0 a0 a1 a2 => cond (decide ((IntKind.wrap .i64 (a1.2.1 - a2)) < a0)) (some (true, ((default : Int), a2))) (K (.p3 a0 a2 a1))
  | .p3 y1 y2 y3 => (impl_takeBits n y3.1 (IntKind.wrap .i64 ((IntKind.wrap .i64 (y2 + y1)) - y1)) y1).bind fun (r6 : Int) => some (false, (r6, (IntKind.wrap .i64 (y2 + y1))))
def impl_UnpackChunk_1 (n : Nat) (a0 : Int) (a1 : (List (Int)) × ((Int) × (Unit))) (a2 : Int) : Option (Tup [.bool, (.int .i64), (.int .i64)]) := goRec impl_UnpackChunk_1.step n (.p0 a0 a1 a2)
def impl_UnpackChunk_1.spec : Ctr := ⟨39, [.v (.int .i64), .q (.pair (.sl false (.int .u8)) (.pair (.int .i64) .unit)), .p (.int .i64)], [.bool, (.int .i64)], [(.int .i64)], (some 60), fun n x => impl_UnpackChunk_1 n x.1 x.2.1 x.2.2.1⟩
theorem impl_UnpackChunk_1.seg_eq : SegEq ty gl impl_UnpackChunk_1.F impl_UnpackChunk_1.md impl_UnpackChunk_1.T impl_UnpackChunk_1.spec impl_UnpackChunk_1.lb impl_UnpackChunk_1.st impl_UnpackChunk_1.step := by
  intro n goto y; cases y <;> kernel_rfl
theorem impl_UnpackChunk_1.text : Text Go.Proofs.Tryd.prog impl_UnpackChunk_1.F impl_UnpackChunk_1.spec := textOf Go.Proofs.Tryd.f39
theorem impl_UnpackChunk_1.ok : CtrOK Go.Proofs.Tryd.prog gl impl_UnpackChunk_1.spec :=
  ctr_okS tabs impl_UnpackChunk_1.text impl_UnpackChunk_1.seg_eq (fun n x => ⟨.p0 x.1 x.2.1 x.2.2.1, rfl, rfl, rfl⟩) (consC impl_takeBits.ok (nilC))

/-! loop.example/g00039/impl.UnpackChunk$2 -/
def impl_UnpackChunk_2_impl_UnpackChunk_1.T : List Ctr := [impl_UnpackChunk_1.spec]
def impl_UnpackChunk_2_impl_UnpackChunk_1.md : List (Nat × List Md) := [(39, [.v, .q (.pair (.sl false (.int .u8)) (.pair (.int .i64) .unit)), .p (.int .i64)]), (1000039, [.q (.pair (.sl false (.int .u8)) (.pair (.int .i64) .unit)), .p (.int .i64)])]
noncomputable def impl_UnpackChunk_2_impl_UnpackChunk_1.F : Fun := ⟨(Go.Proofs.Tryd.f42.body).getD .skip, [.cf 39 [.q (.pair (.sl false (.int .u8)) (.pair (.int .i64) .unit)), .p (.int .i64)], .p (.sl false (.pair (.int .i64) (.pair (.int .i64) .unit)))], [], [some (.int .i64), some (.sl false (.pair (.int .i64) (.pair (.int .i64) .unit)))], 2, [(14, ⟨[0, 1, 3, 4, 5, 17, 18], [], [], false⟩), (38, ⟨[0, 1, 3, 4, 5, 6, 8, 17, 18], [], [], false⟩), (60, ⟨[0, 1, 3, 4, 5, 6, 9, 17, 18], [], [], false⟩), (64, ⟨[0, 1, 3, 4, 5, 6, 17, 18], [], [], false⟩)]⟩
inductive impl_UnpackChunk_2_impl_UnpackChunk_1.Pt where
  | p0 (a0 : (List (Int)) × ((Int) × (Unit))) (a1 : Int) (a2 : List ((Int) × ((Int) × (Unit))))
  | p14 (y1 : Int) (y2 : Int) (y3 : Int) (y4 : Int) (y5 : Int) (y6 : Int) (y7 : (List (Int)) × ((Int) × (Unit))) (y8 : List ((Int) × ((Int) × (Unit))))
  | p38 (y1 : Int) (y2 : Int) (y3 : Int) (y4 : Int) (y5 : Int) (y6 : Int) (y7 : Int) (y8 : Int) (y9 : (List (Int)) × ((Int) × (Unit))) (y10 : List ((Int) × ((Int) × (Unit))))
  | p64 (y1 : Int) (y2 : Int) (y3 : Int) (y4 : Int) (y5 : Int) (y6 : Int) (y7 : Int) (y8 : (List (Int)) × ((Int) × (Unit))) (y9 : List ((Int) × ((Int) × (Unit))))
  | p60 (y1 : Int) (y2 : Int) (y3 : Int) (y4 : Int) (y5 : Int) (y6 : Int) (y7 : Int) (y8 : Int) (y9 : (List (Int)) × ((Int) × (Unit))) (y10 : List ((Int) × ((Int) × (Unit))))
def impl_UnpackChunk_2_impl_UnpackChunk_1.lb : impl_UnpackChunk_2_impl_UnpackChunk_1.Pt → Nat
  | .p0 _ _ _ => 0
  | .p14 _ _ _ _ _ _ _ _ => 14
  | .p38 _ _ _ _ _ _ _ _ _ _ => 38
  | .p64 _ _ _ _ _ _ _ _ _ => 64
  | .p60 _ _ _ _ _ _ _ _ _ _ => 60
def impl_UnpackChunk_2_impl_UnpackChunk_1.st : impl_UnpackChunk_2_impl_UnpackChunk_1.Pt → St
  | .p0 a0 a1 a2 => enter [.cf 39 [.q (.pair (.sl false (.int .u8)) (.pair (.int .i64) .unit)) a0, .p (.int .i64) a1], .p (.sl false (.pair (.int .i64) (.pair (.int .i64) .unit))) a2] 2
  | .p14 y1 y2 y3 y4 y5 y6 y7 y8 => ⟨[(0, .px 39 [.po 2 0, .po 0 0] 0), (1, .po 1 0), (3, .im (.int .i64) y1), (4, .im (.int .i64) y2), (5, .im (.int .i64) y3), (17, .im (.int .i64) y4), (18, .im (.int .i64) y5)], [(0, .obj [.im (.int .i64) y6]), (1, .obj [.hs 3 [] none 0]), (2, .imm (.pair (.sl false (.int .u8)) (.pair (.int .i64) .unit)) y7), (3, .arr false (.pair (.int .i64) (.pair (.int .i64) .unit)) y8 0)], 4⟩
  | .p38 y1 y2 y3 y4 y5 y6 y7 y8 y9 y10 => ⟨[(0, .px 39 [.po 2 0, .po 0 0] 0), (1, .po 1 0), (3, .im (.int .i64) y1), (4, .im (.int .i64) y2), (5, .im (.int .i64) y3), (6, .im (.int .i64) y4), (8, .im (.int .i64) y5), (17, .im (.int .i64) y6), (18, .im (.int .i64) y7)], [(0, .obj [.im (.int .i64) y8]), (1, .obj [.hs 3 [] none 0]), (2, .imm (.pair (.sl false (.int .u8)) (.pair (.int .i64) .unit)) y9), (3, .arr false (.pair (.int .i64) (.pair (.int .i64) .unit)) y10 0)], 4⟩
  | .p64 y1 y2 y3 y4 y5 y6 y7 y8 y9 => ⟨[(0, .px 39 [.po 2 0, .po 0 0] 0), (1, .po 1 0), (3, .im (.int .i64) y1), (4, .im (.int .i64) y2), (5, .im (.int .i64) y3), (6, .im (.int .i64) y4), (17, .im (.int .i64) y5), (18, .im (.int .i64) y6)], [(0, .obj [.im (.int .i64) y7]), (1, .obj [.hs 3 [] none 0]), (2, .imm (.pair (.sl false (.int .u8)) (.pair (.int .i64) .unit)) y8), (3, .arr false (.pair (.int .i64) (.pair (.int .i64) .unit)) y9 0)], 4⟩
  | .p60 y1 y2 y3 y4 y5 y6 y7 y8 y9 y10 => ⟨[(0, .px 39 [.po 2 0, .po 0 0] 0), (1, .po 1 0), (3, .im (.int .i64) y1), (4, .im (.int .i64) y2), (5, .im (.int .i64) y3), (6, .im (.int .i64) y4), (9, .im (.int .u64) y5), (17, .im (.int .i64) y6), (18, .im (.int .i64) y7)], [(0, .obj [.im (.int .i64) y8]), (1, .obj [.hs 3 [] none 0]), (2, .imm (.pair (.sl false (.int .u8)) (.pair (.int .i64) .unit)) y9), (3, .arr false (.pair (.int .i64) (.pair (.int .i64) .unit)) y10 0)], 4⟩
def impl_UnpackChunk_2_impl_UnpackChunk_1.step (n : Nat) (K : impl_UnpackChunk_2_impl_UnpackChunk_1.Pt → Option (Tup [.bool, (.int .i64), (.sl false (.pair (.int .i64) (.pair (.int .i64) .unit)))])) : impl_UnpackChunk_2_impl_UnpackChunk_1.Pt → Option (Tup [.bool, (.int .i64), (.sl false (.pair (.int .i64) (.pair (.int .i64) .unit)))])
  | .p0 a0 a1 a2 => (impl_UnpackChunk_1 n (8 : Int) (List.getD [a0] 0 default) a1).bind fun r6 => cond r6.1 (some (true, (r6.2.2, a2))) (cond (decide ((120 : Int) < r6.2.1)) (some (true, (r6.2.2, a2))) (K (.p14 (0 : Int) (0 : Int) (0 : Int) r6.2.1 (0 : Int) r6.2.2 a0 a2)))
  | .p14 y1 y2 y3 y4 y5 y6 y7 y8 => cond (decide (y5 < y4)) (cond (decide (y5 = (0 : Int))) ((impl_UnpackChunk_1 n (40 : Int) (List.getD [y7] 0 default) y6).bind fun r11 => cond r11.1 (some (true, (r11.2.2, y8))) ((impl_UnpackChunk_1 n (64 : Int) (List.getD [y7] 0 default) r11.2.2).bind fun r12 => cond r12.1 (some (true, (r12.2.2, y8))) (cond (room ((List.length y8) + (List.length [(r11.2.1, (r12.2.1, ()))]))) (K (.p14 y1 y2 y3 y4 (IntKind.wrap .i64 (y5 + (1 : Int))) r12.2.2 y7 (y8 ++ [(r11.2.1, (r12.2.1, ()))]))) (none)))) ((impl_UnpackChunk_1 n (1 : Int) (List.getD [y7] 0 default) y6).bind fun r11 => cond r11.1 (some (true, (r11.2.2, y8))) (cond (decide (r11.2.1 = (0 : Int))) (K (.p38 y1 y2 y3 y5 (0 : Int) y4 y5 r11.2.2 y7 y8)) ((impl_UnpackChunk_1 n (1 : Int) (List.getD [y7] 0 default) r11.2.2).bind fun r12 => cond r12.1 (some (true, (r12.2.2, y8))) (cond (decide (r12.2.1 = (0 : Int))) ((impl_UnpackChunk_1 n (7 : Int) (List.getD [y7] 0 default) r12.2.2).bind fun r13 => cond r13.1 (some (true, (r13.2.2, y8))) (K (.p38 y1 y2 y3 y5 (IntKind.wrap .i64 (r13.2.1 - (63 : Int))) y4 y5 r13.2.2 y7 y8))) ((impl_UnpackChunk_1 n (1 : Int) (List.getD [y7] 0 default) r12.2.2).bind fun r13 => cond r13.1 (some (true, (r13.2.2, y8))) (cond (decide (r13.2.1 = (0 : Int))) ((impl_UnpackChunk_1 n (9 : Int) (List.getD [y7] 0 default) r13.2.2).bind fun r14 => cond r14.1 (some (true, (r14.2.2, y8))) (K (.p38 y1 y2 y3 y5 (IntKind.wrap .i64 (r14.2.1 - (255 : Int))) y4 y5 r14.2.2 y7 y8))) ((impl_UnpackChunk_1 n (1 : Int) (List.getD [y7] 0 default) r13.2.2).bind fun r14 => cond r14.1 (some (true, (r14.2.2, y8))) (cond (decide (r14.2.1 = (0 : Int))) ((impl_UnpackChunk_1 n (12 : Int) (List.getD [y7] 0 default) r14.2.2).bind fun r15 => cond r15.1 (some (true, (r15.2.2, y8))) (K (.p38 y1 y2 y3 y5 (IntKind.wrap .i64 (r15.2.1 - (2047 : Int))) y4 y5 r15.2.2 y7 y8))) ((impl_UnpackChunk_1 n (64 : Int) (List.getD [y7] 0 default) r14.2.2).bind fun r15 => cond r15.1 (some (true, (r15.2.2, y8))) (K (.p38 y1 y2 y3 y5 r15.2.1 y4 y5 r15.2.2 y7 y8)))))))))))) (some (false, (y6, y8)))
  | .p38 y1 y2 y3 y4 y5 y6 y7 y8 y9 y10 => (impl_UnpackChunk_1 n (1 : Int) (List.getD [y9] 0 default) y8).bind fun r13 => cond r13.1 (some (true, (r13.2.2, y10))) (cond (decide (r13.2.1 = (1 : Int))) ((impl_UnpackChunk_1 n (1 : Int) (List.getD [y9] 0 default) r13.2.2).bind fun r14 => cond r14.1 (some (true, (r14.2.2, y10))) (cond (decide (r14.2.1 = (1 : Int))) ((impl_UnpackChunk_1 n (6 : Int) (List.getD [y9] 0 default) r14.2.2).bind fun r15 => cond r15.1 (some (true, (r15.2.2, y10))) ((impl_UnpackChunk_1 n (6 : Int) (List.getD [y9] 0 default) r15.2.2).bind fun r16 => cond r16.1 (some (true, (r16.2.2, y10))) (cond (decide ((IntKind.wrap .i64 ((IntKind.wrap .i64 ((IntKind.wrap .i64 ((64 : Int) - r15.2.1)) - r16.2.1)) - (1 : Int))) < (0 : Int))) (some (true, (r16.2.2, y10))) (K (.p64 (IntKind.wrap .i64 (y1 + y5)) r15.2.1 (IntKind.wrap .i64 ((IntKind.wrap .i64 ((IntKind.wrap .i64 ((64 : Int) - r15.2.1)) - r16.2.1)) - (1 : Int))) y4 y6 y7 r16.2.2 y9 y10))))) (K (.p64 (IntKind.wrap .i64 (y1 + y5)) y2 y3 y4 y6 y7 r14.2.2 y9 y10)))) (K (.p60 (IntKind.wrap .i64 (y1 + y5)) y2 y3 y4 (0 : Int) y6 y7 r13.2.2 y9 y10)))
  | .p64 y1 y2 y3 y4 y5 y6 y7 y8 y9 => (impl_UnpackChunk_1 n (IntKind.wrap .i64 ((IntKind.wrap .i64 ((64 : Int) - y2)) - y3)) (List.getD [y8] 0 default) y7).bind fun r12 => cond r12.1 (some (true, (r12.2.2, y9))) (cond (decide (0 ≤ y3)) (K (.p60 y1 y2 y3 y4 (shl .u64 (IntKind.wrap .u64 r12.2.1) y3) y5 y6 r12.2.2 y8 y9)) (none))
  | .p60 y1 y2 y3 y4 y5 y6 y7 y8 y9 y10 => cond (inB (IntKind.wrap .i64 (y4 - (1 : Int))) (List.length y10)) (cond (room ((List.length y10) + (List.length [((IntKind.wrap .i64 ((List.getD y10 (0 + (Int.toNat (IntKind.wrap .i64 (y4 - (1 : Int))))) default).1 + y1)), ((bxor .i64 (List.getD y10 (0 + (Int.toNat (IntKind.wrap .i64 (y4 - (1 : Int))))) default).2.1 (IntKind.wrap .i64 y5)), ()))]))) (K (.p14 y1 y2 y3 y6 (IntKind.wrap .i64 (y7 + (1 : Int))) y8 y9 (y10 ++ [((IntKind.wrap .i64 ((List.getD y10 (0 + (Int.toNat (IntKind.wrap .i64 (y4 - (1 : Int))))) default).1 + y1)), ((bxor .i64 (List.getD y10 (0 + (Int.toNat (IntKind.wrap .i64 (y4 - (1 : Int))))) default).2.1 (IntKind.wrap .i64 y5)), ()))]))) (none)) (none)
def impl_UnpackChunk_2_impl_UnpackChunk_1 (n : Nat) (a0 : (List (Int)) × ((Int) × (Unit))) (a1 : Int) (a2 : List ((Int) × ((Int) × (Unit)))) : Option (Tup [.bool, (.int .i64), (.sl false (.pair (.int .i64) (.pair (.int .i64) .unit)))]) := goRec impl_UnpackChunk_2_impl_UnpackChunk_1.step n (.p0 a0 a1 a2)
def impl_UnpackChunk_2_impl_UnpackChunk_1.spec : Ctr := ⟨42, [.cf 39 [.q (.pair (.sl false (.int .u8)) (.pair (.int .i64) .unit)), .p (.int .i64)], .p (.sl false (.pair (.int .i64) (.pair (.int .i64) .unit)))], [.bool], [(.int .i64), (.sl false (.pair (.int .i64) (.pair (.int .i64) .unit)))], (some 60), fun n x => impl_UnpackChunk_2_impl_UnpackChunk_1 n x.1.1 x.1.2.1 x.2.1⟩
theorem impl_UnpackChunk_2_impl_UnpackChunk_1.seg_eq : SegEq ty gl impl_UnpackChunk_2_impl_UnpackChunk_1.F impl_UnpackChunk_2_impl_UnpackChunk_1.md impl_UnpackChunk_2_impl_UnpackChunk_1.T impl_UnpackChunk_2_impl_UnpackChunk_1.spec impl_UnpackChunk_2_impl_UnpackChunk_1.lb impl_UnpackChunk_2_impl_UnpackChunk_1.st impl_UnpackChunk_2_impl_UnpackChunk_1.step := by
  intro n goto y; cases y <;> kernel_rfl
theorem impl_UnpackChunk_2_impl_UnpackChunk_1.text : Text Go.Proofs.Tryd.prog impl_UnpackChunk_2_impl_UnpackChunk_1.F impl_UnpackChunk_2_impl_UnpackChunk_1.spec := textOf Go.Proofs.Tryd.f42
theorem impl_UnpackChunk_2_impl_UnpackChunk_1.ok : CtrOK Go.Proofs.Tryd.prog gl impl_UnpackChunk_2_impl_UnpackChunk_1.spec :=
  ctr_okS tabs impl_UnpackChunk_2_impl_UnpackChunk_1.text impl_UnpackChunk_2_impl_UnpackChunk_1.seg_eq (fun n x => ⟨.p0 x.1.1 x.1.2.1 x.2.1, rfl, rfl, rfl⟩) (consC impl_UnpackChunk_1.ok (nilC))

/-! loop.example/g00039/impl.tried -/
def impl_tried_impl_UnpackChunk_2_impl_UnpackChunk_1 (n : Nat) (a0 : (List (Int)) × ((Int) × (Unit))) (a1 : Int) (a2 : List ((Int) × ((Int) × (Unit)))) : Option ((Bool) × (Int) × (List ((Int) × ((Int) × (Unit))))) := hold n (Option.bind (impl_UnpackChunk_2_impl_UnpackChunk_1 n a0 a1 a2) fun y => some (!y.1, y.2))
def impl_tried_impl_UnpackChunk_2_impl_UnpackChunk_1.spec : Ctr := ⟨41, [.fn 42 [.cf 39 [.q (.pair (.sl false (.int .u8)) (.pair (.int .i64) .unit)), .p (.int .i64)], .p (.sl false (.pair (.int .i64) (.pair (.int .i64) .unit)))]], [.bool], [(.int .i64), (.sl false (.pair (.int .i64) (.pair (.int .i64) .unit)))], none, fun n x => impl_tried_impl_UnpackChunk_2_impl_UnpackChunk_1 n x.1.1.1 x.1.1.2.1 x.1.2.1⟩
section
open Go.Proofs
theorem tried.catch_panicking (B tb : Nat) (x : Bool) (older : List PanicEntry) (w : World) (hB : w.heap[B]? = some (.cells #[.bool x] tb (0, 0))) :
    CallsD Tryd.prog 54 #[.pointer (some ⟨B, 0, none⟩)] (.panicking ({ v := .iface 60 (.agg #[]), recovered := false } :: older)) w fun e u' w' =>
      e = .returned (.tuple #[]) ∧ u' = .panicking ({ v := .iface 60 (.agg #[]), recovered := true } :: older) ∧ w' = (w.alloc (.cells #[] 60)).setCell ⟨B, 0, none⟩ (.bool false) := by
  have hta : (Instr.typeAssert (.iface 60 (.agg #[])) 20 60 true).run Tryd.prog w = .ok (.tuple #[.agg #[], .bool true]) w := by kernel_rfl
  have hB' : (w.alloc (.cells #[] 60)).heap[B]? = some (.cells #[.bool x] tb (0, 0)) := by rw [(MapKept.heap_alloc w _).2 B (Array.getElem?_eq_some_iff.1 hB).1]; exact hB
  have hc : (w.alloc (.cells #[] 60)).cell? ⟨B, 0, none⟩ = some (.bool x) := by simp [World.cell?, hB']
  have hz : (w.alloc (.cells #[] 60)).frozen? ⟨B, 0, none⟩ = false := by simp [World.frozen?, hB']
  refine callsD_of_wpS Tryd.func54 rfl fun c₀ cs hu => ?_
  apply wpS_seq
  apply wpS_region
  simp [wpOpsS, go_sem, recoverD, hu, Exit.thenS]
  refine wpS_of_wp ?_
  go_wp2
  cases c₀
  simp_all [bodyPostS, results]
theorem tried.catch_idle (p : Addr) (w : World) :
    CallsD Tryd.prog 54 #[.pointer (some p)] .returning w fun e u' w' => e = .returned (.tuple #[]) ∧ u' = .returning ∧ w' = w := by
  refine callsD_of_wpS Tryd.func54 rfl fun c₀ cs hu => ?_
  apply wpS_seq
  apply wpS_region
  simp [wpOpsS, go_sem, recoverD, hu, Exit.thenS]
  refine wpS_of_wp ?_
  go_wp2
  cases c₀
  simp_all [bodyPostS, results]
theorem tried.tried_walk (g : Nat) (w : World) (ws : List Value) (Q R : Ending → World → Prop) (hg : FnHere Tryd.prog g) (hc : Calls Tryd.prog g ws.toArray (w.alloc (.cells #[.bool false] 4)) Q)
    (h : ∀ e w', Q e w' → w'.heap[w.heap.size]? = some (.cells #[.bool false] 4 (0, 0)) ∧
        ((e = .returned (.tuple #[]) ∧ R (.returned (.bool true)) (w'.setCell ⟨w.heap.size, 0, none⟩ (.bool true))) ∨
         (e = .panicked (pchain 60) ∧ R (.returned (.bool false)) ((w'.alloc (.cells #[] 60)).setCell ⟨w.heap.size, 0, none⟩ (.bool false))))) :
    Calls Tryd.prog 41 #[.func (.func g) #[] ws.toArray] w R := by
  have hmf : ∀ (fn : Fn) (first cap : Array Value) (w : World), (Instr.makeFunc fn first cap).run Tryd.prog w = .ok (.func fn first cap) w := fun _ _ _ _ => rfl
  go_enter_defers Tryd.func41, Tryd.ntmps41
  go_wp2
  rename_i K1 h1 K2 h2
  have hcf : (callFunc g ws.toArray).run Tryd.prog (w.alloc (.cells #[.bool false] 4)) = .ok (.enter g ws.toArray) (w.alloc (.cells #[.bool false] 4)) := by
    obtain ⟨fn, e1, e2, e3⟩ := hg
    cases hb : fn.body with
    | none => rw [hb] at e2; cases e2
    | some c => simp [callFunc, e1, e3, hb]
  rw [hcf, Oper.upon_enter]
  refine hc.mono fun e w' hq => ?_
  obtain ⟨hcell, ⟨rfl, hR⟩ | ⟨rfl, hR⟩⟩ := h e w' hq
  · have hc1 : w'.cell? ⟨w.heap.size, 0, none⟩ = some (.bool false) := by simp [World.cell?, hcell]
    have hz1 : w'.frozen? ⟨w.heap.size, 0, none⟩ = false := by simp [World.frozen?, hcell]
    refine h2 _ _ ?_
    go_wp2
    have hc2 : (w'.setCell ⟨w.heap.size, 0, none⟩ (.bool true)).cell? ⟨w.heap.size, 0, none⟩ = some (.bool true) := by
      rw [@setCell_put noBor _ _ _ _ _ _ _ hcell]
      simp [World.cell?, @putB_same noBor _ _ _ (Array.getElem?_eq_some_iff.1 hcell).1]
    refine leaves_cons (f := 54) (args := #[.pointer (some ⟨w.heap.size, 0, none⟩)]) (by simp) (by simp [go_sem]) ?_
    refine (tried.catch_idle ⟨w.heap.size, 0, none⟩ _).mono ?_
    rintro e u' w'' ⟨rfl, rfl, rfl⟩
    simp [Leaves, settle, results, go_sem, hc2]
    exact hR
  · simp only [Exit.then]
    have hB' : (w'.alloc (.cells #[] 60)).heap[w.heap.size]? = some (.cells #[.bool false] 4 (0, 0)) := by rw [(MapKept.heap_alloc w' _).2 _ (Array.getElem?_eq_some_iff.1 hcell).1]; exact hcell
    have hc2 : ((w'.alloc (.cells #[] 60)).setCell ⟨w.heap.size, 0, none⟩ (.bool false)).cell? ⟨w.heap.size, 0, none⟩ = some (.bool false) := by
      rw [@setCell_put noBor _ _ _ _ _ _ _ hB']
      simp [World.cell?, @putB_same noBor _ _ _ (Array.getElem?_eq_some_iff.1 hB').1]
    refine leaves_cons (f := 54) (args := #[.pointer (some ⟨w.heap.size, 0, none⟩)]) (by simp) (by simp [go_sem]) ?_
    refine (tried.catch_panicking w.heap.size 4 false [] w' hcell).mono ?_
    rintro e u' w'' ⟨rfl, rfl, rfl⟩
    simp [Leaves, settle, results, go_sem, hc2]
    exact hR

end
theorem impl_tried_impl_UnpackChunk_2_impl_UnpackChunk_1.ok : CtrOK Go.Proofs.Tryd.prog gl impl_tried_impl_UnpackChunk_2_impl_UnpackChunk_1.spec :=
  tried_ok (g := 42) (cs := [.cf 39 [.q (.pair (.sl false (.int .u8)) (.pair (.int .i64) .unit)), .p (.int .i64)], .p (.sl false (.pair (.int .i64) (.pair (.int .i64) .unit)))]) (outs := [(.int .i64), (.sl false (.pair (.int .i64) (.pair (.int .i64) .unit)))]) (pt := 60) (tb := 4) (φ := impl_UnpackChunk_2_impl_UnpackChunk_1.spec.fn) impl_UnpackChunk_2_impl_UnpackChunk_1.ok (fun x i f m => by rcases i with _ | _ | _ | _ | i <;> simp [Ty.args, Ty.arg]) ⟨Go.Proofs.Tryd.f41, by kernel_rfl, by kernel_rfl, by decide +kernel⟩ (fun w ws Q R hc h => tried.tried_walk 42 w ws Q R ((impl_UnpackChunk_2_impl_UnpackChunk_1.ok 0).1) hc h)


/-! loop.example/g00039/impl.UnpackChunk -/
def impl_UnpackChunk.T : List Ctr := [impl_GoodSamples.spec, impl_packChunk.spec, impl_GoodBits.spec, bytes_Equal.spec, impl_UnpackChunk_1.spec, impl_UnpackChunk_2_impl_UnpackChunk_1.spec, impl_tried_impl_UnpackChunk_2_impl_UnpackChunk_1.spec]
def impl_UnpackChunk.md : List (Nat × List Md) := [(39, [.v, .q (.pair (.sl false (.int .u8)) (.pair (.int .i64) .unit)), .p (.int .i64)]), (1000039, [.q (.pair (.sl false (.int .u8)) (.pair (.int .i64) .unit)), .p (.int .i64)]), (42, [.cf, .p (.sl false (.pair (.int .i64) (.pair (.int .i64) .unit)))]), (1000042, [.cf, .p (.sl false (.pair (.int .i64) (.pair (.int .i64) .unit)))]), (41, [.fn])]
noncomputable def impl_UnpackChunk.F : Fun := ⟨(Go.Proofs.Tryd.f16.body).getD .skip, [.v (.pair (.sl false (.int .u8)) (.pair (.int .i64) .unit))], [(.tmp 2, (.sl false (.pair (.int .i64) (.pair (.int .i64) .unit)))), (.tmp 3, .bool)], [], 0, [(20, ⟨[1, 4, 21], [], [(1, 0, (.int .u8)), (4, 0, (.pair (.int .i64) (.pair (.int .i64) .unit)))], false⟩)]⟩
inductive impl_UnpackChunk.Pt where
  | p0 (a0 : (List (Int)) × ((Int) × (Unit)))
  | p20 (y1 : Bool) (y2 : List (Int)) (y3 : Int) (y4 : List ((Int) × ((Int) × (Unit))))
def impl_UnpackChunk.lb : impl_UnpackChunk.Pt → Nat
  | .p0 _ => 0
  | .p20 _ _ _ _ => 20
def impl_UnpackChunk.st : impl_UnpackChunk.Pt → St
  | .p0 a0 => enter [.v (.pair (.sl false (.int .u8)) (.pair (.int .i64) .unit)) a0] 0
  | .p20 y1 y2 y3 y4 => ⟨[(1, .po 0 0), (4, .po 1 0), (21, .im .bool y1)], [(0, .obj [.im (.sl false (.int .u8)) y2, .im (.int .i64) y3]), (1, .obj [.hs 2 [] none 0]), (2, .arr false (.pair (.int .i64) (.pair (.int .i64) .unit)) y4 0)], 3⟩
def impl_UnpackChunk.step (n : Nat) (K : impl_UnpackChunk.Pt → Option (Tup [(.sl false (.pair (.int .i64) (.pair (.int .i64) .unit))), .bool])) : impl_UnpackChunk.Pt → Option (Tup [(.sl false (.pair (.int .i64) (.pair (.int .i64) .unit))), .bool])
  | .p0 a0 => (impl_GoodBits n (a0.1, a0.2)).bind fun r4 => cond (!r4) (some (([] : List ((Int) × ((Int) × (Unit)))), false)) ((impl_tried_impl_UnpackChunk_2_impl_UnpackChunk_1 n (a0.1, a0.2) (0 : Int) ([] : List ((Int) × ((Int) × (Unit))))).bind fun r5 => cond (!r5.1) (K (.p20 true a0.1 a0.2.1 r5.2.2)) ((impl_GoodSamples n r5.2.2).bind fun r6 => K (.p20 (!r6) a0.1 a0.2.1 r5.2.2)))
  | .p20 y1 y2 y3 y4 => cond y1 (some (([] : List ((Int) × ((Int) × (Unit)))), false)) ((impl_packChunk n y4).bind fun r7 => cond (!(decide (r7.2.1 = y3))) (some (([] : List ((Int) × ((Int) × (Unit)))), false)) ((bytes_Equal n r7.1 y2).bind fun r8 => cond (!r8) (some (([] : List ((Int) × ((Int) × (Unit)))), false)) (some (y4, true))))
def impl_UnpackChunk (n : Nat) (a0 : (List (Int)) × ((Int) × (Unit))) : Option (Tup [(.sl false (.pair (.int .i64) (.pair (.int .i64) .unit))), .bool]) := goRec impl_UnpackChunk.step n (.p0 a0)
def impl_UnpackChunk.spec : Ctr := ⟨16, [.v (.pair (.sl false (.int .u8)) (.pair (.int .i64) .unit))], [(.sl false (.pair (.int .i64) (.pair (.int .i64) .unit))), .bool], [], none, fun n x => impl_UnpackChunk n x.1⟩
theorem impl_UnpackChunk.seg_eq : SegEq ty gl impl_UnpackChunk.F impl_UnpackChunk.md impl_UnpackChunk.T impl_UnpackChunk.spec impl_UnpackChunk.lb impl_UnpackChunk.st impl_UnpackChunk.step := by
  intro n goto y; cases y <;> kernel_rfl
theorem impl_UnpackChunk.text : Text Go.Proofs.Tryd.prog impl_UnpackChunk.F impl_UnpackChunk.spec := textOf Go.Proofs.Tryd.f16
theorem impl_UnpackChunk.ok : CtrOK Go.Proofs.Tryd.prog gl impl_UnpackChunk.spec :=
  ctr_okS tabs impl_UnpackChunk.text impl_UnpackChunk.seg_eq (fun n x => ⟨.p0 x.1, rfl, rfl, rfl⟩) (consC impl_GoodSamples.ok (consC impl_packChunk.ok (consC impl_GoodBits.ok (consC bytes_Equal.ok (consC impl_UnpackChunk_1.ok (consC impl_UnpackChunk_2_impl_UnpackChunk_1.ok (consC impl_tried_impl_UnpackChunk_2_impl_UnpackChunk_1.ok (nilC))))))))

/-! loop.example/g00039/laws.zSamples -/
def laws_zSamples.T : List Ctr := []
def laws_zSamples.md : List (Nat × List Md) := []
noncomputable def laws_zSamples.F : Fun := ⟨(Go.Proofs.Tryd.f17.body).getD .skip, [.v (.sl false (.pair (.int .i64) (.pair (.int .i64) .unit))), .v (.sl false (.pair (.int .i64) (.pair (.int .i64) .unit)))], [(.tmp 4, .bool)], [], 0, [(15, ⟨[0, 1, 12, 13], [], [], false⟩)]⟩
inductive laws_zSamples.Pt where
  | p0 (a0 : List ((Int) × ((Int) × (Unit)))) (a1 : List ((Int) × ((Int) × (Unit))))
  | p15 (y1 : List ((Int) × ((Int) × (Unit)))) (y2 : List ((Int) × ((Int) × (Unit)))) (y3 : Int) (y4 : Int)
def laws_zSamples.lb : laws_zSamples.Pt → Nat
  | .p0 _ _ => 0
  | .p15 _ _ _ _ => 15
def laws_zSamples.st : laws_zSamples.Pt → St
  | .p0 a0 a1 => enter [.v (.sl false (.pair (.int .i64) (.pair (.int .i64) .unit))) a0, .v (.sl false (.pair (.int .i64) (.pair (.int .i64) .unit))) a1] 0
  | .p15 y1 y2 y3 y4 => ⟨[(0, .im (.sl false (.pair (.int .i64) (.pair (.int .i64) .unit))) y1), (1, .im (.sl false (.pair (.int .i64) (.pair (.int .i64) .unit))) y2), (12, .im (.int .i64) y3), (13, .im (.int .i64) y4)], [], 0⟩
def laws_zSamples.step (n : Nat) (K : laws_zSamples.Pt → Option (Tup [.bool])) : laws_zSamples.Pt → Option (Tup [.bool])
  | .p0 a0 a1 => cond (!(decide (((List.length a0) : Int) = ((List.length a1) : Int)))) (some false) (K (.p15 a0 a1 ((List.length a0) : Int) (0 : Int)))
  | .p15 y1 y2 y3 y4 => cond (decide (y4 < y3)) (cond (inB y4 (List.length y1)) (cond (inB y4 (List.length y2)) (cond (!((decide ((List.getD y1 (Int.toNat y4) default).1 = (List.getD y2 (Int.toNat y4) default).1)) && ((decide ((List.getD y1 (Int.toNat y4) default).2.1 = (List.getD y2 (Int.toNat y4) default).2.1)) && true))) (some false) (K (.p15 y1 y2 y3 (IntKind.wrap .i64 (y4 + (1 : Int)))))) (none)) (none)) (some true)
def laws_zSamples (n : Nat) (a0 : List ((Int) × ((Int) × (Unit)))) (a1 : List ((Int) × ((Int) × (Unit)))) : Option (Tup [.bool]) := goRec laws_zSamples.step n (.p0 a0 a1)
def laws_zSamples.spec : Ctr := ⟨17, [.v (.sl false (.pair (.int .i64) (.pair (.int .i64) .unit))), .v (.sl false (.pair (.int .i64) (.pair (.int .i64) .unit)))], [.bool], [], none, fun n x => laws_zSamples n x.1 x.2.1⟩
theorem laws_zSamples.seg_eq : SegEq ty gl laws_zSamples.F laws_zSamples.md laws_zSamples.T laws_zSamples.spec laws_zSamples.lb laws_zSamples.st laws_zSamples.step := by
  intro n goto y; cases y <;> kernel_rfl
theorem laws_zSamples.text : Text Go.Proofs.Tryd.prog laws_zSamples.F laws_zSamples.spec := textOf Go.Proofs.Tryd.f17
theorem laws_zSamples.ok : CtrOK Go.Proofs.Tryd.prog gl laws_zSamples.spec :=
  ctr_okS tabs laws_zSamples.text laws_zSamples.seg_eq (fun n x => ⟨.p0 x.1 x.2.1, rfl, rfl, rfl⟩) (nilC)

/-! loop.example/g00039/impl.CountOf -/
def impl_CountOf.T : List Ctr := [impl_UnpackChunk.spec]
def impl_CountOf.md : List (Nat × List Md) := []
noncomputable def impl_CountOf.F : Fun := ⟨(Go.Proofs.Tryd.f18.body).getD .skip, [.v (.pair (.sl false (.int .u8)) (.pair (.int .i64) .unit))], [(.tmp 2, (.int .i64))], [], 0, []⟩
inductive impl_CountOf.Pt where
  | p0 (a0 : (List (Int)) × ((Int) × (Unit)))
def impl_CountOf.lb : impl_CountOf.Pt → Nat
  | .p0 _ => 0
def impl_CountOf.st : impl_CountOf.Pt → St
  | .p0 a0 => enter [.v (.pair (.sl false (.int .u8)) (.pair (.int .i64) .unit)) a0] 0
def impl_CountOf.step (n : Nat) (K : impl_CountOf.Pt → Option (Tup [(.int .i64)])) : impl_CountOf.Pt → Option (Tup [(.int .i64)])
  | .p0 a0 => (impl_UnpackChunk n (a0.1, a0.2)).bind fun r4 => cond (!r4.2) (some (-(1 : Int))) (some ((List.length r4.1) : Int))
def impl_CountOf (n : Nat) (a0 : (List (Int)) × ((Int) × (Unit))) : Option (Tup [(.int .i64)]) := goRec impl_CountOf.step n (.p0 a0)
def impl_CountOf.spec : Ctr := ⟨18, [.v (.pair (.sl false (.int .u8)) (.pair (.int .i64) .unit))], [(.int .i64)], [], none, fun n x => impl_CountOf n x.1⟩
theorem impl_CountOf.seg_eq : SegEq ty gl impl_CountOf.F impl_CountOf.md impl_CountOf.T impl_CountOf.spec impl_CountOf.lb impl_CountOf.st impl_CountOf.step := by
  intro n goto y; cases y <;> kernel_rfl
theorem impl_CountOf.text : Text Go.Proofs.Tryd.prog impl_CountOf.F impl_CountOf.spec := textOf Go.Proofs.Tryd.f18
theorem impl_CountOf.ok : CtrOK Go.Proofs.Tryd.prog gl impl_CountOf.spec :=
  ctr_okS tabs impl_CountOf.text impl_CountOf.seg_eq (fun n x => ⟨.p0 x.1, rfl, rfl, rfl⟩) (consC impl_UnpackChunk.ok (nilC))

/-! loop.example/g00039/impl.AppendChunk -/
def impl_AppendChunk.T : List Ctr := [impl_PackChunk.spec, impl_UnpackChunk.spec]
def impl_AppendChunk.md : List (Nat × List Md) := []
noncomputable def impl_AppendChunk.F : Fun := ⟨(Go.Proofs.Tryd.f20.body).getD .skip, [.v (.pair (.sl false (.int .u8)) (.pair (.int .i64) .unit)), .v (.pair (.int .i64) (.pair (.int .i64) .unit))], [(.cell 4 26, (.pair (.sl false (.int .u8)) (.pair (.int .i64) .unit)))], [], 0, []⟩
inductive impl_AppendChunk.Pt where
  | p0 (a0 : (List (Int)) × ((Int) × (Unit))) (a1 : (Int) × ((Int) × (Unit)))
def impl_AppendChunk.lb : impl_AppendChunk.Pt → Nat
  | .p0 _ _ => 0
def impl_AppendChunk.st : impl_AppendChunk.Pt → St
  | .p0 a0 a1 => enter [.v (.pair (.sl false (.int .u8)) (.pair (.int .i64) .unit)) a0, .v (.pair (.int .i64) (.pair (.int .i64) .unit)) a1] 0
def impl_AppendChunk.step (n : Nat) (K : impl_AppendChunk.Pt → Option (Tup [(.pair (.sl false (.int .u8)) (.pair (.int .i64) .unit))])) : impl_AppendChunk.Pt → Option (Tup [(.pair (.sl false (.int .u8)) (.pair (.int .i64) .unit))])
  | .p0 a0 a1 => (impl_UnpackChunk n (a0.1, a0.2)).bind fun r5 => cond (!r5.2) (some (([] : List (Int)), (default : (Int) × (Unit)))) (cond (room ((List.length r5.1) + (List.length [a1]))) ((impl_PackChunk n (r5.1 ++ [a1])).bind fun r6 => some (r6.1, r6.2)) (none))
def impl_AppendChunk (n : Nat) (a0 : (List (Int)) × ((Int) × (Unit))) (a1 : (Int) × ((Int) × (Unit))) : Option (Tup [(.pair (.sl false (.int .u8)) (.pair (.int .i64) .unit))]) := goRec impl_AppendChunk.step n (.p0 a0 a1)
def impl_AppendChunk.spec : Ctr := ⟨20, [.v (.pair (.sl false (.int .u8)) (.pair (.int .i64) .unit)), .v (.pair (.int .i64) (.pair (.int .i64) .unit))], [(.pair (.sl false (.int .u8)) (.pair (.int .i64) .unit))], [], none, fun n x => impl_AppendChunk n x.1 x.2.1⟩
theorem impl_AppendChunk.seg_eq : SegEq ty gl impl_AppendChunk.F impl_AppendChunk.md impl_AppendChunk.T impl_AppendChunk.spec impl_AppendChunk.lb impl_AppendChunk.st impl_AppendChunk.step := by
  intro n goto y; cases y <;> kernel_rfl
theorem impl_AppendChunk.text : Text Go.Proofs.Tryd.prog impl_AppendChunk.F impl_AppendChunk.spec := textOf Go.Proofs.Tryd.f20
theorem impl_AppendChunk.ok : CtrOK Go.Proofs.Tryd.prog gl impl_AppendChunk.spec :=
  ctr_okS tabs impl_AppendChunk.text impl_AppendChunk.seg_eq (fun n x => ⟨.p0 x.1 x.2.1, rfl, rfl, rfl⟩) (consC impl_PackChunk.ok (consC impl_UnpackChunk.ok (nilC)))

/-! loop.example/g00039/laws.zBytes -/
def laws_zBytes.T : List Ctr := []
def laws_zBytes.md : List (Nat × List Md) := []
noncomputable def laws_zBytes.F : Fun := ⟨(Go.Proofs.Tryd.f21.body).getD .skip, [.v (.sl false (.int .u8)), .v (.sl false (.int .u8))], [(.tmp 4, .bool)], [], 0, []⟩
inductive laws_zBytes.Pt where
  | p0 (a0 : List (Int)) (a1 : List (Int))
def laws_zBytes.lb : laws_zBytes.Pt → Nat
  | .p0 _ _ => 0
def laws_zBytes.st : laws_zBytes.Pt → St
  | .p0 a0 a1 => enter [.v (.sl false (.int .u8)) a0, .v (.sl false (.int .u8)) a1] 0
def laws_zBytes.step (n : Nat) (K : laws_zBytes.Pt → Option (Tup [.bool])) : laws_zBytes.Pt → Option (Tup [.bool])
  | .p0 a0 a1 => some (seq (ofOcts a0) (ofOcts a1))
def laws_zBytes (n : Nat) (a0 : List (Int)) (a1 : List (Int)) : Option (Tup [.bool]) := goRec laws_zBytes.step n (.p0 a0 a1)
def laws_zBytes.spec : Ctr := ⟨21, [.v (.sl false (.int .u8)), .v (.sl false (.int .u8))], [.bool], [], none, fun n x => laws_zBytes n x.1 x.2.1⟩
theorem laws_zBytes.seg_eq : SegEq ty gl laws_zBytes.F laws_zBytes.md laws_zBytes.T laws_zBytes.spec laws_zBytes.lb laws_zBytes.st laws_zBytes.step := by
  intro n goto y; cases y <;> kernel_rfl
theorem laws_zBytes.text : Text Go.Proofs.Tryd.prog laws_zBytes.F laws_zBytes.spec := textOf Go.Proofs.Tryd.f21
theorem laws_zBytes.ok : CtrOK Go.Proofs.Tryd.prog gl laws_zBytes.spec :=
  ctr_okS tabs laws_zBytes.text laws_zBytes.seg_eq (fun n x => ⟨.p0 x.1 x.2.1, rfl, rfl, rfl⟩) (nilC)

/-! loop.example/g00039/laws.zByte -/
def laws_zByte.T : List Ctr := []
def laws_zByte.md : List (Nat × List Md) := []
noncomputable def laws_zByte.F : Fun := ⟨(Go.Proofs.Tryd.f22.body).getD .skip, [.v (.sl false (.int .u8)), .v (.int .i64)], [(.tmp 4, (.int .i64))], [], 0, []⟩
inductive laws_zByte.Pt where
  | p0 (a0 : List (Int)) (a1 : Int)
def laws_zByte.lb : laws_zByte.Pt → Nat
  | .p0 _ _ => 0
def laws_zByte.st : laws_zByte.Pt → St
  | .p0 a0 a1 => enter [.v (.sl false (.int .u8)) a0, .v (.int .i64) a1] 0
def laws_zByte.step (n : Nat) (K : laws_zByte.Pt → Option (Tup [(.int .i64)])) : laws_zByte.Pt → Option (Tup [(.int .i64)])
  | .p0 a0 a1 => cond (decide (a1 < ((List.length a0) : Int))) (cond (inB a1 (List.length a0)) (some (IntKind.wrap .i64 (List.getD a0 (Int.toNat a1) default))) (none)) (some (0 : Int))
def laws_zByte (n : Nat) (a0 : List (Int)) (a1 : Int) : Option (Tup [(.int .i64)]) := goRec laws_zByte.step n (.p0 a0 a1)
def laws_zByte.spec : Ctr := ⟨22, [.v (.sl false (.int .u8)), .v (.int .i64)], [(.int .i64)], [], none, fun n x => laws_zByte n x.1 x.2.1⟩
theorem laws_zByte.seg_eq : SegEq ty gl laws_zByte.F laws_zByte.md laws_zByte.T laws_zByte.spec laws_zByte.lb laws_zByte.st laws_zByte.step := by
  intro n goto y; cases y <;> kernel_rfl
theorem laws_zByte.text : Text Go.Proofs.Tryd.prog laws_zByte.F laws_zByte.spec := textOf Go.Proofs.Tryd.f22
theorem laws_zByte.ok : CtrOK Go.Proofs.Tryd.prog gl laws_zByte.spec :=
  ctr_okS tabs laws_zByte.text laws_zByte.seg_eq (fun n x => ⟨.p0 x.1 x.2.1, rfl, rfl, rfl⟩) (nilC)

/-! loop.example/g00039/laws.zInt -/
def laws_zInt.T : List Ctr := [laws_zByte.spec]
def laws_zInt.md : List (Nat × List Md) := []
noncomputable def laws_zInt.F : Fun := ⟨(Go.Proofs.Tryd.f23.body).getD .skip, [.v (.sl false (.int .u8)), .v (.int .i64)], [(.tmp 4, (.int .i64))], [], 0, [(9, ⟨[0, 1, 5, 6], [], [], false⟩)]⟩
inductive laws_zInt.Pt where
  | p0 (a0 : List (Int)) (a1 : Int)
  | p9 (y1 : List (Int)) (y2 : Int) (y3 : Int) (y4 : Int)
def laws_zInt.lb : laws_zInt.Pt → Nat
  | .p0 _ _ => 0
  | .p9 _ _ _ _ => 9
def laws_zInt.st : laws_zInt.Pt → St
  | .p0 a0 a1 => enter [.v (.sl false (.int .u8)) a0, .v (.int .i64) a1] 0
  | .p9 y1 y2 y3 y4 => ⟨[(0, .im (.sl false (.int .u8)) y1), (1, .im (.int .i64) y2), (5, .im (.int .i64) y3), (6, .im (.int .i64) y4)], [], 0⟩
def laws_zInt.step (n : Nat) (K : laws_zInt.Pt → Option (Tup [(.int .i64)])) : laws_zInt.Pt → Option (Tup [(.int .i64)])
  | .p0 a0 a1 => K (.p9 a0 a1 (0 : Int) (0 : Int))
  | .p9 y1 y2 y3 y4 => cond (decide (y4 < (8 : Int))) ((laws_zByte n y1 (IntKind.wrap .i64 (y2 + y4))).bind fun (r7 : Int) => K (.p9 y1 y2 (bor .i64 (shl .i64 y3 (8 : Int)) r7) (IntKind.wrap .i64 (y4 + (1 : Int))))) (some y3)
def laws_zInt (n : Nat) (a0 : List (Int)) (a1 : Int) : Option (Tup [(.int .i64)]) := goRec laws_zInt.step n (.p0 a0 a1)
def laws_zInt.spec : Ctr := ⟨23, [.v (.sl false (.int .u8)), .v (.int .i64)], [(.int .i64)], [], none, fun n x => laws_zInt n x.1 x.2.1⟩
theorem laws_zInt.seg_eq : SegEq ty gl laws_zInt.F laws_zInt.md laws_zInt.T laws_zInt.spec laws_zInt.lb laws_zInt.st laws_zInt.step := by
  intro n goto y; cases y <;> kernel_rfl
theorem laws_zInt.text : Text Go.Proofs.Tryd.prog laws_zInt.F laws_zInt.spec := textOf Go.Proofs.Tryd.f23
theorem laws_zInt.ok : CtrOK Go.Proofs.Tryd.prog gl laws_zInt.spec :=
  ctr_okS tabs laws_zInt.text laws_zInt.seg_eq (fun n x => ⟨.p0 x.1 x.2.1, rfl, rfl, rfl⟩) (consC laws_zByte.ok (nilC))

/-! loop.example/g00039/laws.FnChunks -/
def laws_FnChunks.T : List Ctr := [spec_DrawPackChunk.spec, impl_PackChunk.spec, spec_GoodSamples.spec, impl_GoodBits.spec, impl_UnpackChunk.spec, laws_zSamples.spec, impl_CountOf.spec, impl_AppendChunk.spec, laws_zBytes.spec, laws_zByte.spec, laws_zInt.spec]
def laws_FnChunks.md : List (Nat × List Md) := [(14, [.c (.bs (.int .u8))])]
noncomputable def laws_FnChunks.F : Fun := ⟨(Go.Proofs.Tryd.f4.body).getD .skip, [.v (.bs (.int .u8)), .v (.sl false (.int .u8))], [(.tmp 4, .bool)], [], 0, [(4, ⟨[0, 1, 22], [], [], false⟩), (16, ⟨[1, 5, 6, 34], [(5, (.pair (.int .i64) (.pair (.int .i64) .unit)))], [(6, 0, (.int .u8))], false⟩), (26, ⟨[1, 5, 6, 62], [(5, (.pair (.int .i64) (.pair (.int .i64) .unit)))], [(6, 0, (.int .u8))], false⟩), (33, ⟨[1], [], [], false⟩), (41, ⟨[1, 90], [], [], false⟩), (59, ⟨[11, 12, 13, 14], [(13, (.pair (.int .i64) (.pair (.int .i64) .unit)))], [], false⟩)]⟩
inductive laws_FnChunks.Pt where
  | p0 (a0 : List (Int)) (a1 : List (Int))
  | p4 (y1 : List (Int)) (y2 : List (Int)) (y3 : Bool)
  | p16 (y1 : List (Int)) (y2 : Bool) (y3 : List ((Int) × ((Int) × (Unit)))) (y4 : Int) (y5 : List (Int))
  | p26 (y1 : List (Int)) (y2 : Bool) (y3 : List ((Int) × ((Int) × (Unit)))) (y4 : Int) (y5 : List (Int))
  | p41 (y1 : List (Int)) (y2 : Bool)
  | p33 (y1 : List (Int))
  | p59 (y1 : Int) (y2 : Int) (y3 : Int) (y4 : List ((Int) × ((Int) × (Unit))))
def laws_FnChunks.lb : laws_FnChunks.Pt → Nat
  | .p0 _ _ => 0
  | .p4 _ _ _ => 4
  | .p16 _ _ _ _ _ => 16
  | .p26 _ _ _ _ _ => 26
  | .p41 _ _ => 41
  | .p33 _ => 33
  | .p59 _ _ _ _ => 59
def laws_FnChunks.st : laws_FnChunks.Pt → St
  | .p0 a0 a1 => enter [.v (.bs (.int .u8)) a0, .v (.sl false (.int .u8)) a1] 0
  | .p4 y1 y2 y3 => ⟨[(0, .im (.bs (.int .u8)) y1), (1, .im (.sl false (.int .u8)) y2), (22, .im .bool y3)], [], 0⟩
  | .p16 y1 y2 y3 y4 y5 => ⟨[(1, .im (.sl false (.int .u8)) y1), (5, .hs 0 [] none 0), (6, .po 1 0), (34, .im .bool y2)], [(0, .arr false (.pair (.int .i64) (.pair (.int .i64) .unit)) y3 0), (1, .obj [.hs 2 [] none 0, .im (.int .i64) y4]), (2, .arr false (.int .u8) y5 0)], 3⟩
  | .p26 y1 y2 y3 y4 y5 => ⟨[(1, .im (.sl false (.int .u8)) y1), (5, .hs 0 [] none 0), (6, .po 1 0), (62, .im .bool y2)], [(0, .arr false (.pair (.int .i64) (.pair (.int .i64) .unit)) y3 0), (1, .obj [.hs 2 [] none 0, .im (.int .i64) y4]), (2, .arr false (.int .u8) y5 0)], 3⟩
  | .p41 y1 y2 => ⟨[(1, .im (.sl false (.int .u8)) y1), (90, .im .bool y2)], [], 0⟩
  | .p33 y1 => ⟨[(1, .im (.sl false (.int .u8)) y1)], [], 0⟩
  | .p59 y1 y2 y3 y4 => ⟨[(11, .im (.int .i64) y1), (12, .im (.int .i64) y2), (13, .hs 0 [] none 0), (14, .im (.int .i64) y3)], [(0, .arr true (.pair (.int .i64) (.pair (.int .i64) .unit)) y4 0)], 1⟩
def laws_FnChunks.step (n : Nat) (K : laws_FnChunks.Pt → Option (Tup [.bool])) : laws_FnChunks.Pt → Option (Tup [.bool])
  | .p0 a0 a1 => cond (decide ((1048576 : Int) < ((List.length a0) : Int))) (K (.p4 a0 a1 true)) (K (.p4 a0 a1 (decide ((1048576 : Int) < ((List.length a1) : Int)))))
  | .p4 y1 y2 y3 => cond y3 (some true) ((spec_DrawPackChunk n y1).bind fun r6 => (impl_PackChunk n r6).bind fun r7 => (spec_GoodSamples n r6).bind fun r8 => cond (!r8) (K (.p16 y2 true r6 r7.2.1 r7.1)) (K (.p16 y2 (decide ((120 : Int) < ((List.length r6) : Int))) r6 r7.2.1 r7.1)))
  | .p16 y1 y2 y3 y4 y5 => cond y2 (some (decide (y4 = (0 : Int)))) ((impl_UnpackChunk n (y5, (y4, ()))).bind fun r8 => cond (!r8.2) (K (.p26 y1 true y3 y4 y5)) ((laws_zSamples n r8.1 y3).bind fun r9 => cond (!r9) (K (.p26 y1 true y3 y4 y5)) ((impl_CountOf n (y5, (y4, ()))).bind fun (r10 : Int) => cond (!(decide (r10 = ((List.length y3) : Int)))) (K (.p26 y1 true y3 y4 y5)) ((impl_GoodBits n (y5, (y4, ()))).bind fun r11 => K (.p26 y1 (!r11) y3 y4 y5)))))
  | .p26 y1 y2 y3 y4 y5 => cond y2 (some false) (cond (decide ((0 : Int) < ((List.length y3) : Int))) (cond (inC (0 : Int) (IntKind.wrap .i64 (((List.length y3) : Int) - (1 : Int))) (List.length y3)) ((impl_PackChunk n (List.take ((Int.toNat (IntKind.wrap .i64 (((List.length y3) : Int) - (1 : Int)))) - (Int.toNat (0 : Int))) (List.drop (0 + (Int.toNat (0 : Int))) y3))).bind fun r8 => cond (inB (IntKind.wrap .i64 (((List.length y3) : Int) - (1 : Int))) (List.length y3)) ((impl_AppendChunk n (r8.1, r8.2) (List.getD y3 (0 + (Int.toNat (IntKind.wrap .i64 (((List.length y3) : Int) - (1 : Int))))) default)).bind fun r9 => cond (!(decide (r9.2.1 = y4))) (K (.p41 y1 true)) ((laws_zBytes n r9.1 y5).bind fun r10 => K (.p41 y1 (!r10)))) (none)) (none)) (K (.p33 y1)))
  | .p41 y1 y2 => cond y2 (some false) (K (.p33 y1))
  | .p33 y1 => (laws_zByte n y1 (0 : Int)).bind fun (r4 : Int) => (laws_zInt n y1 (1 : Int)).bind fun (r5 : Int) => K (.p59 (IntKind.wrap .i64 ((1 : Int) + (Int.tmod r4 (64 : Int)))) r5 (0 : Int) ([] : List ((Int) × ((Int) × (Unit)))))
  | .p59 y1 y2 y3 y4 => cond (decide (y3 < (120 : Int))) (cond (room ((List.length y4) + (List.length [((IntKind.wrap .i64 (y3 * y1)), (y2, ()))]))) (K (.p59 y1 y2 (IntKind.wrap .i64 (y3 + (1 : Int))) (y4 ++ [((IntKind.wrap .i64 (y3 * y1)), (y2, ()))]))) (none)) ((impl_PackChunk n y4).bind fun r7 => some (decide (r7.2.1 = (358 : Int))))
def laws_FnChunks (n : Nat) (a0 : List (Int)) (a1 : List (Int)) : Option (Tup [.bool]) := goRec laws_FnChunks.step n (.p0 a0 a1)
def laws_FnChunks.spec : Ctr := ⟨4, [.v (.bs (.int .u8)), .v (.sl false (.int .u8))], [.bool], [], none, fun n x => laws_FnChunks n x.1 x.2.1⟩
theorem laws_FnChunks.seg_eq : SegEq ty gl laws_FnChunks.F laws_FnChunks.md laws_FnChunks.T laws_FnChunks.spec laws_FnChunks.lb laws_FnChunks.st laws_FnChunks.step := by
  intro n goto y; cases y <;> kernel_rfl
theorem laws_FnChunks.text : Text Go.Proofs.Tryd.prog laws_FnChunks.F laws_FnChunks.spec := textOf Go.Proofs.Tryd.f4
theorem laws_FnChunks.ok : CtrOK Go.Proofs.Tryd.prog gl laws_FnChunks.spec :=
  ctr_okS tabs laws_FnChunks.text laws_FnChunks.seg_eq (fun n x => ⟨.p0 x.1 x.2.1, rfl, rfl, rfl⟩) (consC spec_DrawPackChunk.ok (consC impl_PackChunk.ok (consC spec_GoodSamples.ok (consC impl_GoodBits.ok (consC impl_UnpackChunk.ok (consC laws_zSamples.ok (consC impl_CountOf.ok (consC impl_AppendChunk.ok (consC laws_zBytes.ok (consC laws_zByte.ok (consC laws_zInt.ok (nilC))))))))))))
end Go.CH
