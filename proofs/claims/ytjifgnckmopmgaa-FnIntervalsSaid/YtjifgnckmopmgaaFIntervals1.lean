/- The functions that the law reaches, each as a Lean function and with its contract, part 1. -/
import Derived.Test.YtjifgnckmopmgaaV1
import Derived.Test.YtjifgnckmopmgaaV2
import Derived.Test.YtjifgnckmopmgaaV3
import Derived.Test.YtjifgnckmopmgaaProg
open Go Go.VM
namespace Go.IV
set_option maxRecDepth 100000
set_option linter.unusedVariables false
set_option linter.unusedSimpArgs false
set_option linter.unusedSectionVars false
variable [Bor]
def ty : List (Nat × U) := [(1, .oth), (2, (.int .i64)), (3, (.int .i64)), (4, .bool), (5, (.int .u8)), (6, (.int .u8)), (7, (.pair (.int .i64) (.pair (.int .i64) (.pair .bool (.pair (.int .u8) .unit))))), (8, (.pair (.int .i64) (.pair (.int .i64) (.pair .bool (.pair (.int .u8) .unit))))), (9, .str), (10, .str), (11, .str), (12, (.int .u64)), (13, (.pair .str (.pair (.int .u64) .unit))), (14, (.pair .str (.pair (.int .u64) .unit))), (15, .oth), (16, .oth), (17, .oth), (18, (.pair .oth .unit)), (19, (.pair .oth .unit)), (20, .oth), (21, (.int .i32)), (22, (.sl false (.int .u8))), (23, (.sl false (.pair (.int .i64) (.pair (.int .i64) .unit)))), (24, (.sl false (.int .i64))), (25, (.pair (.int .i64) (.pair (.sl false (.pair (.int .i64) (.pair (.int .i64) .unit))) (.pair (.sl false (.pair (.int .i64) (.pair (.int .i64) .unit))) (.pair (.sl false (.pair (.int .i64) (.pair (.int .i64) .unit))) (.pair (.sl false (.pair (.int .i64) (.pair (.int .i64) .unit))) (.pair (.sl false (.pair (.int .i64) (.pair (.int .i64) .unit))) (.pair (.sl false (.int .i64)) .unit)))))))), (26, (.pair (.int .i64) (.pair (.sl false (.pair (.int .i64) (.pair (.int .i64) .unit))) (.pair (.sl false (.pair (.int .i64) (.pair (.int .i64) .unit))) (.pair (.sl false (.pair (.int .i64) (.pair (.int .i64) .unit))) (.pair (.sl false (.pair (.int .i64) (.pair (.int .i64) .unit))) (.pair (.sl false (.pair (.int .i64) (.pair (.int .i64) .unit))) (.pair (.sl false (.int .i64)) .unit)))))))), (28, .oth), (29, .oth), (30, .oth), (31, (.pair (.int .i64) (.pair (.int .i64) (.pair (.int .i64) (.pair (.int .i64) (.pair (.int .i64) (.pair (.int .i64) .unit))))))), (32, (.pair (.int .i64) (.pair (.int .i64) (.pair (.int .i64) (.pair (.int .i64) (.pair (.int .i64) (.pair (.int .i64) .unit))))))), (33, .oth), (34, .oth), (35, .oth), (36, .oth), (37, (.int .u64)), (38, (.pair (.bs (.int .u8)) (.pair (.int .i64) (.pair (.int .u64) .unit)))), (39, (.pair (.bs (.int .u8)) (.pair (.int .i64) (.pair (.int .u64) .unit)))), (40, .oth), (41, .oth), (42, .oth), (43, .oth), (44, .oth), (45, .oth), (46, .oth), (47, (.pair (.int .i64) (.pair (.int .i64) .unit))), (48, (.pair (.int .i64) (.pair (.int .i64) .unit))), (49, .oth), (50, .oth), (51, .oth), (52, .oth), (53, .oth), (54, .oth), (55, .oth), (56, .oth), (57, (.ar 13 (.int .i64))), (58, (.int .u64)), (59, .oth), (60, .oth), (61, (.pair .oth (.pair .oth (.pair .oth (.pair .str .unit))))), (62, (.pair .oth (.pair .oth (.pair .oth (.pair .str .unit))))), (63, (.ar 0 .oth)), (66, (.int .u32)), (67, (.int .u8)), (68, (.int .u8)), (69, .oth), (70, .oth), (71, (.int .i32)), (72, (.int .i32)), (73, (.pair (.int .u64) (.pair (.int .u64) (.pair (.int .u32) (.pair (.int .u8) (.pair (.int .u8) (.pair (.int .u8) (.pair (.int .u8) (.pair .oth (.pair .oth (.pair (.int .i32) (.pair (.int .i32) .unit)))))))))))), (74, (.pair (.int .u64) (.pair (.int .u64) (.pair (.int .u32) (.pair (.int .u8) (.pair (.int .u8) (.pair (.int .u8) (.pair (.int .u8) (.pair .oth (.pair .oth (.pair (.int .i32) (.pair (.int .i32) .unit)))))))))))), (75, .oth)]
def gl : List (Nat × TV) := []
theorem tabs : Tabs Go.Proofs.Try.prog ty gl := tabs_of (by kernel_rfl) (by kernel_rfl)
/-! (*loop.example/g00039/spec.l1Cur).next -/
def spec_l1Cur__next.T : List Ctr := []
def spec_l1Cur__next.md : List (Nat × List Md) := []
noncomputable def spec_l1Cur__next.F : Fun := ⟨(Go.Proofs.Try.f36.body).getD .skip, [.p (.pair (.bs (.int .u8)) (.pair (.int .i64) (.pair (.int .u64) .unit)))], [(.tmp 2, (.int .i64))], [some (.pair (.bs (.int .u8)) (.pair (.int .i64) (.pair (.int .u64) .unit)))], 1, [(5, ⟨[0, 3], [], [], false⟩)]⟩
inductive spec_l1Cur__next.Pt where
  | p0 (a0 : (List (Int)) × ((Int) × ((Int) × (Unit))))
  | p5 (y1 : Int) (y2 : List (Int)) (y3 : Int) (y4 : Int)
def spec_l1Cur__next.lb : spec_l1Cur__next.Pt → Nat
  | .p0 _ => 0
  | .p5 _ _ _ _ => 5
def spec_l1Cur__next.st : spec_l1Cur__next.Pt → St
  | .p0 a0 => enter [.p (.pair (.bs (.int .u8)) (.pair (.int .i64) (.pair (.int .u64) .unit))) a0] 1
  | .p5 y1 y2 y3 y4 => ⟨[(0, .po 0 0), (3, .im (.int .i64) y1)], [(0, .obj [.im (.bs (.int .u8)) y2, .im (.int .i64) y3, .im (.int .u64) y4])], 1⟩
def spec_l1Cur__next.step (n : Nat) (K : spec_l1Cur__next.Pt → Option (Tup [(.int .i64), (.pair (.bs (.int .u8)) (.pair (.int .i64) (.pair (.int .u64) .unit)))])) : spec_l1Cur__next.Pt → Option (Tup [(.int .i64), (.pair (.bs (.int .u8)) (.pair (.int .i64) (.pair (.int .u64) .unit)))])
  | .p0 a0 => cond (decide (a0.2.1 < ((List.length a0.1) : Int))) (cond (inB a0.2.1 (List.length a0.1)) (K (.p5 (IntKind.wrap .i64 (List.getD a0.1 (Int.toNat a0.2.1) default)) a0.1 a0.2.1 a0.2.2.1)) (none)) (K (.p5 (0 : Int) a0.1 a0.2.1 a0.2.2.1))
  | .p5 y1 y2 y3 y4 => cond (decide ((IntKind.wrap .i64 (y3 + (1 : Int))) ≤ ((List.length y2) : Int))) (some (y1, (y2, ((IntKind.wrap .i64 (y3 + (1 : Int))), ((IntKind.wrap .u64 ((IntKind.wrap .u64 ((IntKind.wrap .u64 ((6364136223846793005 : Int) * y4)) + (IntKind.wrap .u64 y1))) + (1442695040888963407 : Int))), ()))))) (some ((IntKind.wrap .i64 (band .u64 (shr .u64 (IntKind.wrap .u64 ((IntKind.wrap .u64 ((IntKind.wrap .u64 ((6364136223846793005 : Int) * y4)) + (IntKind.wrap .u64 y1))) + (1442695040888963407 : Int))) (40 : Int)) (255 : Int))), (y2, ((IntKind.wrap .i64 (y3 + (1 : Int))), ((IntKind.wrap .u64 ((IntKind.wrap .u64 ((IntKind.wrap .u64 ((6364136223846793005 : Int) * y4)) + (IntKind.wrap .u64 y1))) + (1442695040888963407 : Int))), ())))))
def spec_l1Cur__next (n : Nat) (a0 : (List (Int)) × ((Int) × ((Int) × (Unit)))) : Option (Tup [(.int .i64), (.pair (.bs (.int .u8)) (.pair (.int .i64) (.pair (.int .u64) .unit)))]) := goRec spec_l1Cur__next.step n (.p0 a0)
def spec_l1Cur__next.spec : Ctr := ⟨36, [.p (.pair (.bs (.int .u8)) (.pair (.int .i64) (.pair (.int .u64) .unit)))], [(.int .i64)], [(.pair (.bs (.int .u8)) (.pair (.int .i64) (.pair (.int .u64) .unit)))], fun n x => spec_l1Cur__next n x.1⟩
theorem spec_l1Cur__next.seg_eq : SegEq ty gl spec_l1Cur__next.F spec_l1Cur__next.md spec_l1Cur__next.T spec_l1Cur__next.spec spec_l1Cur__next.lb spec_l1Cur__next.st spec_l1Cur__next.step := by
  intro n goto y; cases y <;> kernel_rfl
theorem spec_l1Cur__next.text : Text Go.Proofs.Try.prog spec_l1Cur__next.F spec_l1Cur__next.spec := textOf Go.Proofs.Try.f36
theorem spec_l1Cur__next.ok : CtrOK Go.Proofs.Try.prog gl spec_l1Cur__next.spec :=
  ctr_okS tabs spec_l1Cur__next.text spec_l1Cur__next.seg_eq (fun n x => ⟨.p0 x.1, rfl, rfl, rfl⟩) (nilC)

/-! (*loop.example/g00039/spec.l1Cur).pick -/
def spec_l1Cur__pick.T : List Ctr := [spec_l1Cur__next.spec]
def spec_l1Cur__pick.md : List (Nat × List Md) := [(36, [.p (.pair (.bs (.int .u8)) (.pair (.int .i64) (.pair (.int .u64) .unit)))])]
noncomputable def spec_l1Cur__pick.F : Fun := ⟨(Go.Proofs.Try.f27.body).getD .skip, [.p (.pair (.bs (.int .u8)) (.pair (.int .i64) (.pair (.int .u64) .unit))), .v (.int .i64)], [(.tmp 4, (.int .i64))], [some (.pair (.bs (.int .u8)) (.pair (.int .i64) (.pair (.int .u64) .unit)))], 1, []⟩
inductive spec_l1Cur__pick.Pt where
  | p0 (a0 : (List (Int)) × ((Int) × ((Int) × (Unit)))) (a1 : Int)
def spec_l1Cur__pick.lb : spec_l1Cur__pick.Pt → Nat
  | .p0 _ _ => 0
def spec_l1Cur__pick.st : spec_l1Cur__pick.Pt → St
  | .p0 a0 a1 => enter [.p (.pair (.bs (.int .u8)) (.pair (.int .i64) (.pair (.int .u64) .unit))) a0, .v (.int .i64) a1] 1
def spec_l1Cur__pick.step (n : Nat) (K : spec_l1Cur__pick.Pt → Option (Tup [(.int .i64), (.pair (.bs (.int .u8)) (.pair (.int .i64) (.pair (.int .u64) .unit)))])) : spec_l1Cur__pick.Pt → Option (Tup [(.int .i64), (.pair (.bs (.int .u8)) (.pair (.int .i64) (.pair (.int .u64) .unit)))])
  | .p0 a0 a1 => cond (decide (a1 ≤ (1 : Int))) (some ((0 : Int), (a0.1, a0.2))) ((spec_l1Cur__next n (a0.1, a0.2)).bind fun r5 => cond (decide ((200 : Int) < a1)) ((spec_l1Cur__next n (r5.2.1, r5.2.2)).bind fun r6 => cond (decide (a1 = (0 : Int))) (none) (some ((Int.tmod (IntKind.wrap .i64 ((IntKind.wrap .i64 (r5.1 * (256 : Int))) + r6.1)) a1), (r6.2.1, r6.2.2)))) (cond (decide (a1 = (0 : Int))) (none) (some ((Int.tmod r5.1 a1), (r5.2.1, r5.2.2)))))
def spec_l1Cur__pick (n : Nat) (a0 : (List (Int)) × ((Int) × ((Int) × (Unit)))) (a1 : Int) : Option (Tup [(.int .i64), (.pair (.bs (.int .u8)) (.pair (.int .i64) (.pair (.int .u64) .unit)))]) := goRec spec_l1Cur__pick.step n (.p0 a0 a1)
def spec_l1Cur__pick.spec : Ctr := ⟨27, [.p (.pair (.bs (.int .u8)) (.pair (.int .i64) (.pair (.int .u64) .unit))), .v (.int .i64)], [(.int .i64)], [(.pair (.bs (.int .u8)) (.pair (.int .i64) (.pair (.int .u64) .unit)))], fun n x => spec_l1Cur__pick n x.1 x.2.1⟩
theorem spec_l1Cur__pick.seg_eq : SegEq ty gl spec_l1Cur__pick.F spec_l1Cur__pick.md spec_l1Cur__pick.T spec_l1Cur__pick.spec spec_l1Cur__pick.lb spec_l1Cur__pick.st spec_l1Cur__pick.step := by
  intro n goto y; cases y <;> kernel_rfl
theorem spec_l1Cur__pick.text : Text Go.Proofs.Try.prog spec_l1Cur__pick.F spec_l1Cur__pick.spec := textOf Go.Proofs.Try.f27
theorem spec_l1Cur__pick.ok : CtrOK Go.Proofs.Try.prog gl spec_l1Cur__pick.spec :=
  ctr_okS tabs spec_l1Cur__pick.text spec_l1Cur__pick.seg_eq (fun n x => ⟨.p0 x.1 x.2.1, rfl, rfl, rfl⟩) (consC spec_l1Cur__next.ok (nilC))

/-! (*loop.example/g00039/spec.l1Cur).one -/
def spec_l1Cur__one.T : List Ctr := [spec_l1Cur__pick.spec]
def spec_l1Cur__one.md : List (Nat × List Md) := [(27, [.p (.pair (.bs (.int .u8)) (.pair (.int .i64) (.pair (.int .u64) .unit))), .v])]
noncomputable def spec_l1Cur__one.F : Fun := ⟨(Go.Proofs.Try.f12.body).getD .skip, [.p (.pair (.bs (.int .u8)) (.pair (.int .i64) (.pair (.int .u64) .unit))), .v (.int .i64)], [(.tmp 4, .bool)], [some (.pair (.bs (.int .u8)) (.pair (.int .i64) (.pair (.int .u64) .unit)))], 1, []⟩
inductive spec_l1Cur__one.Pt where
  | p0 (a0 : (List (Int)) × ((Int) × ((Int) × (Unit)))) (a1 : Int)
def spec_l1Cur__one.lb : spec_l1Cur__one.Pt → Nat
  | .p0 _ _ => 0
def spec_l1Cur__one.st : spec_l1Cur__one.Pt → St
  | .p0 a0 a1 => enter [.p (.pair (.bs (.int .u8)) (.pair (.int .i64) (.pair (.int .u64) .unit))) a0, .v (.int .i64) a1] 1
def spec_l1Cur__one.step (n : Nat) (K : spec_l1Cur__one.Pt → Option (Tup [.bool, (.pair (.bs (.int .u8)) (.pair (.int .i64) (.pair (.int .u64) .unit)))])) : spec_l1Cur__one.Pt → Option (Tup [.bool, (.pair (.bs (.int .u8)) (.pair (.int .i64) (.pair (.int .u64) .unit)))])
  | .p0 a0 a1 => (spec_l1Cur__pick n (a0.1, a0.2) a1).bind fun r5 => some ((decide (r5.1 = (0 : Int))), (r5.2.1, r5.2.2))
def spec_l1Cur__one (n : Nat) (a0 : (List (Int)) × ((Int) × ((Int) × (Unit)))) (a1 : Int) : Option (Tup [.bool, (.pair (.bs (.int .u8)) (.pair (.int .i64) (.pair (.int .u64) .unit)))]) := goRec spec_l1Cur__one.step n (.p0 a0 a1)
def spec_l1Cur__one.spec : Ctr := ⟨12, [.p (.pair (.bs (.int .u8)) (.pair (.int .i64) (.pair (.int .u64) .unit))), .v (.int .i64)], [.bool], [(.pair (.bs (.int .u8)) (.pair (.int .i64) (.pair (.int .u64) .unit)))], fun n x => spec_l1Cur__one n x.1 x.2.1⟩
theorem spec_l1Cur__one.seg_eq : SegEq ty gl spec_l1Cur__one.F spec_l1Cur__one.md spec_l1Cur__one.T spec_l1Cur__one.spec spec_l1Cur__one.lb spec_l1Cur__one.st spec_l1Cur__one.step := by
  intro n goto y; cases y <;> kernel_rfl
theorem spec_l1Cur__one.text : Text Go.Proofs.Try.prog spec_l1Cur__one.F spec_l1Cur__one.spec := textOf Go.Proofs.Try.f12
theorem spec_l1Cur__one.ok : CtrOK Go.Proofs.Try.prog gl spec_l1Cur__one.spec :=
  ctr_okS tabs spec_l1Cur__one.text spec_l1Cur__one.seg_eq (fun n x => ⟨.p0 x.1 x.2.1, rfl, rfl, rfl⟩) (consC spec_l1Cur__pick.ok (nilC))

/-! (*loop.example/g00039/spec.l1Cur).ranges -/
def spec_l1Cur__ranges.T : List Ctr := [spec_l1Cur__pick.spec, spec_l1Cur__one.spec]
def spec_l1Cur__ranges.md : List (Nat × List Md) := [(12, [.p (.pair (.bs (.int .u8)) (.pair (.int .i64) (.pair (.int .u64) .unit))), .v]), (27, [.p (.pair (.bs (.int .u8)) (.pair (.int .i64) (.pair (.int .u64) .unit))), .v])]
noncomputable def spec_l1Cur__ranges.F : Fun := ⟨(Go.Proofs.Try.f28.body).getD .skip, [.p (.pair (.bs (.int .u8)) (.pair (.int .i64) (.pair (.int .u64) .unit))), .v (.int .i64), .v (.int .i64)], [(.tmp 6, (.sl false (.pair (.int .i64) (.pair (.int .i64) .unit))))], [some (.pair (.bs (.int .u8)) (.pair (.int .i64) (.pair (.int .u64) .unit)))], 1, [(17, ⟨[0, 1, 2, 7, 8], [(7, (.pair (.int .i64) (.pair (.int .i64) .unit)))], [], false⟩)]⟩
inductive spec_l1Cur__ranges.Pt where
  | p0 (a0 : (List (Int)) × ((Int) × ((Int) × (Unit)))) (a1 : Int) (a2 : Int)
  | p17 (y1 : Int) (y2 : Int) (y3 : Int) (y4 : List (Int)) (y5 : Int) (y6 : Int) (y7 : List ((Int) × ((Int) × (Unit))))
def spec_l1Cur__ranges.lb : spec_l1Cur__ranges.Pt → Nat
  | .p0 _ _ _ => 0
  | .p17 _ _ _ _ _ _ _ => 17
def spec_l1Cur__ranges.st : spec_l1Cur__ranges.Pt → St
  | .p0 a0 a1 a2 => enter [.p (.pair (.bs (.int .u8)) (.pair (.int .i64) (.pair (.int .u64) .unit))) a0, .v (.int .i64) a1, .v (.int .i64) a2] 1
  | .p17 y1 y2 y3 y4 y5 y6 y7 => ⟨[(0, .po 0 0), (1, .im (.int .i64) y1), (2, .im (.int .i64) y2), (7, .hs 1 [] none 0), (8, .im (.int .i64) y3)], [(0, .obj [.im (.bs (.int .u8)) y4, .im (.int .i64) y5, .im (.int .u64) y6]), (1, .arr true (.pair (.int .i64) (.pair (.int .i64) .unit)) y7 0)], 2⟩
def spec_l1Cur__ranges.step (n : Nat) (K : spec_l1Cur__ranges.Pt → Option (Tup [(.sl false (.pair (.int .i64) (.pair (.int .i64) .unit))), (.pair (.bs (.int .u8)) (.pair (.int .i64) (.pair (.int .u64) .unit)))])) : spec_l1Cur__ranges.Pt → Option (Tup [(.sl false (.pair (.int .i64) (.pair (.int .i64) .unit))), (.pair (.bs (.int .u8)) (.pair (.int .i64) (.pair (.int .u64) .unit)))])
  | .p0 a0 a1 a2 => (spec_l1Cur__one n (a0.1, a0.2) (2 : Int)).bind fun r6 => cond r6.1 (some (([] : List ((Int) × ((Int) × (Unit)))), (r6.2.1, r6.2.2))) ((spec_l1Cur__pick n (r6.2.1, r6.2.2) (2 : Int)).bind fun r7 => K (.p17 a1 a2 (IntKind.wrap .i64 ((1 : Int) + r7.1)) r7.2.1 r7.2.2.1 r7.2.2.2.1 ([] : List ((Int) × ((Int) × (Unit))))))
  | .p17 y1 y2 y3 y4 y5 y6 y7 => cond (decide ((0 : Int) < y3)) ((spec_l1Cur__pick n (y4, (y5, (y6, ()))) (IntKind.wrap .i64 ((IntKind.wrap .i64 (y2 - y1)) + (1 : Int)))).bind fun r10 => (spec_l1Cur__pick n (r10.2.1, r10.2.2) (IntKind.wrap .i64 ((IntKind.wrap .i64 (y2 - (IntKind.wrap .i64 (y1 + r10.1)))) + (1 : Int)))).bind fun r11 => cond (room ((List.length y7) + (List.length [((IntKind.wrap .i64 (y1 + r10.1)), ((IntKind.wrap .i64 ((IntKind.wrap .i64 (y1 + r10.1)) + r11.1)), ()))]))) (K (.p17 y1 y2 (IntKind.wrap .i64 (y3 - (1 : Int))) r11.2.1 r11.2.2.1 r11.2.2.2.1 (y7 ++ [((IntKind.wrap .i64 (y1 + r10.1)), ((IntKind.wrap .i64 ((IntKind.wrap .i64 (y1 + r10.1)) + r11.1)), ()))]))) (none)) (some (y7, (y4, (y5, (y6, ())))))
def spec_l1Cur__ranges (n : Nat) (a0 : (List (Int)) × ((Int) × ((Int) × (Unit)))) (a1 : Int) (a2 : Int) : Option (Tup [(.sl false (.pair (.int .i64) (.pair (.int .i64) .unit))), (.pair (.bs (.int .u8)) (.pair (.int .i64) (.pair (.int .u64) .unit)))]) := goRec spec_l1Cur__ranges.step n (.p0 a0 a1 a2)
def spec_l1Cur__ranges.spec : Ctr := ⟨28, [.p (.pair (.bs (.int .u8)) (.pair (.int .i64) (.pair (.int .u64) .unit))), .v (.int .i64), .v (.int .i64)], [(.sl false (.pair (.int .i64) (.pair (.int .i64) .unit)))], [(.pair (.bs (.int .u8)) (.pair (.int .i64) (.pair (.int .u64) .unit)))], fun n x => spec_l1Cur__ranges n x.1 x.2.1 x.2.2.1⟩
theorem spec_l1Cur__ranges.seg_eq : SegEq ty gl spec_l1Cur__ranges.F spec_l1Cur__ranges.md spec_l1Cur__ranges.T spec_l1Cur__ranges.spec spec_l1Cur__ranges.lb spec_l1Cur__ranges.st spec_l1Cur__ranges.step := by
  intro n goto y; cases y <;> kernel_rfl
theorem spec_l1Cur__ranges.text : Text Go.Proofs.Try.prog spec_l1Cur__ranges.F spec_l1Cur__ranges.spec := textOf Go.Proofs.Try.f28
theorem spec_l1Cur__ranges.ok : CtrOK Go.Proofs.Try.prog gl spec_l1Cur__ranges.spec :=
  ctr_okS tabs spec_l1Cur__ranges.text spec_l1Cur__ranges.seg_eq (fun n x => ⟨.p0 x.1 x.2.1 x.2.2.1, rfl, rfl, rfl⟩) (consC spec_l1Cur__pick.ok (consC spec_l1Cur__one.ok (nilC)))

/-! (*loop.example/g00039/spec.l1Cur).interval -/
def spec_l1Cur__interval.T : List Ctr := [spec_l1Cur__pick.spec, spec_l1Cur__one.spec, spec_l1Cur__ranges.spec]
def spec_l1Cur__interval.md : List (Nat × List Md) := [(27, [.p (.pair (.bs (.int .u8)) (.pair (.int .i64) (.pair (.int .u64) .unit))), .v]), (28, [.p (.pair (.bs (.int .u8)) (.pair (.int .i64) (.pair (.int .u64) .unit))), .v, .v]), (12, [.p (.pair (.bs (.int .u8)) (.pair (.int .i64) (.pair (.int .u64) .unit))), .v])]
noncomputable def spec_l1Cur__interval.F : Fun := ⟨(Go.Proofs.Try.f10.body).getD .skip, [.p (.pair (.bs (.int .u8)) (.pair (.int .i64) (.pair (.int .u64) .unit)))], [(.cell 2 26, (.pair (.int .i64) (.pair (.sl false (.pair (.int .i64) (.pair (.int .i64) .unit))) (.pair (.sl false (.pair (.int .i64) (.pair (.int .i64) .unit))) (.pair (.sl false (.pair (.int .i64) (.pair (.int .i64) .unit))) (.pair (.sl false (.pair (.int .i64) (.pair (.int .i64) .unit))) (.pair (.sl false (.pair (.int .i64) (.pair (.int .i64) .unit))) (.pair (.sl false (.int .i64)) .unit))))))))], [some (.pair (.bs (.int .u8)) (.pair (.int .i64) (.pair (.int .u64) .unit)))], 1, [(7, ⟨[0, 2, 3], [], [(2, 1, (.pair (.int .i64) (.pair (.int .i64) .unit))), (2, 2, (.pair (.int .i64) (.pair (.int .i64) .unit))), (2, 3, (.pair (.int .i64) (.pair (.int .i64) .unit))), (2, 4, (.pair (.int .i64) (.pair (.int .i64) .unit))), (2, 5, (.pair (.int .i64) (.pair (.int .i64) .unit))), (2, 6, (.int .i64)), (3, 1, (.pair (.int .i64) (.pair (.int .i64) .unit))), (3, 2, (.pair (.int .i64) (.pair (.int .i64) .unit))), (3, 3, (.pair (.int .i64) (.pair (.int .i64) .unit))), (3, 4, (.pair (.int .i64) (.pair (.int .i64) .unit))), (3, 5, (.pair (.int .i64) (.pair (.int .i64) .unit))), (3, 6, (.int .i64))], true⟩), (21, ⟨[0, 2, 3], [], [(2, 1, (.pair (.int .i64) (.pair (.int .i64) .unit))), (2, 2, (.pair (.int .i64) (.pair (.int .i64) .unit))), (2, 3, (.pair (.int .i64) (.pair (.int .i64) .unit))), (2, 4, (.pair (.int .i64) (.pair (.int .i64) .unit))), (2, 5, (.pair (.int .i64) (.pair (.int .i64) .unit))), (2, 6, (.int .i64)), (3, 1, (.pair (.int .i64) (.pair (.int .i64) .unit))), (3, 2, (.pair (.int .i64) (.pair (.int .i64) .unit))), (3, 3, (.pair (.int .i64) (.pair (.int .i64) .unit))), (3, 4, (.pair (.int .i64) (.pair (.int .i64) .unit))), (3, 5, (.pair (.int .i64) (.pair (.int .i64) .unit))), (3, 6, (.int .i64))], true⟩)]⟩
inductive spec_l1Cur__interval.Pt where
  | p0 (a0 : (List (Int)) × ((Int) × ((Int) × (Unit))))
  | p7 (y1 : List (Int)) (y2 : Int) (y3 : Int) (y4 : Int) (y5 : Int) (y6 : List ((Int) × ((Int) × (Unit)))) (y7 : List ((Int) × ((Int) × (Unit)))) (y8 : List ((Int) × ((Int) × (Unit)))) (y9 : List ((Int) × ((Int) × (Unit)))) (y10 : List ((Int) × ((Int) × (Unit)))) (y11 : List (Int)) (y12 : List ((Int) × ((Int) × (Unit)))) (y13 : List ((Int) × ((Int) × (Unit)))) (y14 : List ((Int) × ((Int) × (Unit)))) (y15 : List ((Int) × ((Int) × (Unit)))) (y16 : List ((Int) × ((Int) × (Unit)))) (y17 : List (Int))
  | p21 (y1 : List (Int)) (y2 : Int) (y3 : Int) (y4 : Int) (y5 : Int) (y6 : List ((Int) × ((Int) × (Unit)))) (y7 : List ((Int) × ((Int) × (Unit)))) (y8 : List ((Int) × ((Int) × (Unit)))) (y9 : List ((Int) × ((Int) × (Unit)))) (y10 : List ((Int) × ((Int) × (Unit)))) (y11 : List (Int)) (y12 : List ((Int) × ((Int) × (Unit)))) (y13 : List ((Int) × ((Int) × (Unit)))) (y14 : List ((Int) × ((Int) × (Unit)))) (y15 : List ((Int) × ((Int) × (Unit)))) (y16 : List ((Int) × ((Int) × (Unit)))) (y17 : List (Int))
def spec_l1Cur__interval.lb : spec_l1Cur__interval.Pt → Nat
  | .p0 _ => 0
  | .p7 _ _ _ _ _ _ _ _ _ _ _ _ _ _ _ _ _ => 7
  | .p21 _ _ _ _ _ _ _ _ _ _ _ _ _ _ _ _ _ => 21
def spec_l1Cur__interval.st : spec_l1Cur__interval.Pt → St
  | .p0 a0 => enter [.p (.pair (.bs (.int .u8)) (.pair (.int .i64) (.pair (.int .u64) .unit))) a0] 1
  | .p7 y1 y2 y3 y4 y5 y6 y7 y8 y9 y10 y11 y12 y13 y14 y15 y16 y17 => ⟨[(0, .po 0 0), (2, .po 1 0), (3, .po 2 0)], [(0, .obj [.im (.bs (.int .u8)) y1, .im (.int .i64) y2, .im (.int .u64) y3]), (1, .obj [.im (.int .i64) y4, .hs 3 [] none 0, .hs 4 [] none 0, .hs 5 [] none 0, .hs 6 [] none 0, .hs 7 [] none 0, .hs 8 [] none 0]), (2, .obj [.im (.int .i64) y5, .hs 9 [] none 0, .hs 10 [] none 0, .hs 11 [] none 0, .hs 12 [] none 0, .hs 13 [] none 0, .hs 14 [] none 0]), (3, .arr false (.pair (.int .i64) (.pair (.int .i64) .unit)) y6 0), (4, .arr false (.pair (.int .i64) (.pair (.int .i64) .unit)) y7 0), (5, .arr false (.pair (.int .i64) (.pair (.int .i64) .unit)) y8 0), (6, .arr false (.pair (.int .i64) (.pair (.int .i64) .unit)) y9 0), (7, .arr false (.pair (.int .i64) (.pair (.int .i64) .unit)) y10 0), (8, .arr false (.int .i64) y11 0), (9, .arr false (.pair (.int .i64) (.pair (.int .i64) .unit)) y12 0), (10, .arr false (.pair (.int .i64) (.pair (.int .i64) .unit)) y13 0), (11, .arr false (.pair (.int .i64) (.pair (.int .i64) .unit)) y14 0), (12, .arr false (.pair (.int .i64) (.pair (.int .i64) .unit)) y15 0), (13, .arr false (.pair (.int .i64) (.pair (.int .i64) .unit)) y16 0), (14, .arr false (.int .i64) y17 0)], 15⟩
  | .p21 y1 y2 y3 y4 y5 y6 y7 y8 y9 y10 y11 y12 y13 y14 y15 y16 y17 => ⟨[(0, .po 0 0), (2, .po 1 0), (3, .po 2 0)], [(0, .obj [.im (.bs (.int .u8)) y1, .im (.int .i64) y2, .im (.int .u64) y3]), (1, .obj [.im (.int .i64) y4, .hs 3 [] none 0, .hs 4 [] none 0, .hs 5 [] none 0, .hs 6 [] none 0, .hs 7 [] none 0, .hs 8 [] none 0]), (2, .obj [.im (.int .i64) y5, .hs 9 [] none 0, .hs 10 [] none 0, .hs 11 [] none 0, .hs 12 [] none 0, .hs 13 [] none 0, .hs 14 [] none 0]), (3, .arr false (.pair (.int .i64) (.pair (.int .i64) .unit)) y6 0), (4, .arr false (.pair (.int .i64) (.pair (.int .i64) .unit)) y7 0), (5, .arr false (.pair (.int .i64) (.pair (.int .i64) .unit)) y8 0), (6, .arr false (.pair (.int .i64) (.pair (.int .i64) .unit)) y9 0), (7, .arr false (.pair (.int .i64) (.pair (.int .i64) .unit)) y10 0), (8, .arr false (.int .i64) y11 0), (9, .arr false (.pair (.int .i64) (.pair (.int .i64) .unit)) y12 0), (10, .arr false (.pair (.int .i64) (.pair (.int .i64) .unit)) y13 0), (11, .arr false (.pair (.int .i64) (.pair (.int .i64) .unit)) y14 0), (12, .arr false (.pair (.int .i64) (.pair (.int .i64) .unit)) y15 0), (13, .arr false (.pair (.int .i64) (.pair (.int .i64) .unit)) y16 0), (14, .arr false (.int .i64) y17 0)], 15⟩
def spec_l1Cur__interval.step (n : Nat) (K : spec_l1Cur__interval.Pt → Option (Tup [(.pair (.int .i64) (.pair (.sl false (.pair (.int .i64) (.pair (.int .i64) .unit))) (.pair (.sl false (.pair (.int .i64) (.pair (.int .i64) .unit))) (.pair (.sl false (.pair (.int .i64) (.pair (.int .i64) .unit))) (.pair (.sl false (.pair (.int .i64) (.pair (.int .i64) .unit))) (.pair (.sl false (.pair (.int .i64) (.pair (.int .i64) .unit))) (.pair (.sl false (.int .i64)) .unit))))))), (.pair (.bs (.int .u8)) (.pair (.int .i64) (.pair (.int .u64) .unit)))])) : spec_l1Cur__interval.Pt → Option (Tup [(.pair (.int .i64) (.pair (.sl false (.pair (.int .i64) (.pair (.int .i64) .unit))) (.pair (.sl false (.pair (.int .i64) (.pair (.int .i64) .unit))) (.pair (.sl false (.pair (.int .i64) (.pair (.int .i64) .unit))) (.pair (.sl false (.pair (.int .i64) (.pair (.int .i64) .unit))) (.pair (.sl false (.pair (.int .i64) (.pair (.int .i64) .unit))) (.pair (.sl false (.int .i64)) .unit))))))), (.pair (.bs (.int .u8)) (.pair (.int .i64) (.pair (.int .u64) .unit)))])
  | .p0 a0 => (spec_l1Cur__pick n (a0.1, a0.2) (27 : Int)).bind fun r4 => (spec_l1Cur__ranges n (r4.2.1, r4.2.2) (0 : Int) (1439 : Int)).bind fun r5 => (spec_l1Cur__ranges n (r5.2.1, r5.2.2) (0 : Int) (6 : Int)).bind fun r6 => (spec_l1Cur__ranges n (r6.2.1, r6.2.2) (1 : Int) (12 : Int)).bind fun r7 => (spec_l1Cur__ranges n (r7.2.1, r7.2.2) (1 : Int) (31 : Int)).bind fun r8 => (spec_l1Cur__one n (r8.2.1, r8.2.2) (2 : Int)).bind fun r9 => cond r9.1 ((spec_l1Cur__pick n (r9.2.1, r9.2.2) (5 : Int)).bind fun r10 => (spec_l1Cur__pick n (r10.2.1, r10.2.2) (IntKind.wrap .i64 ((0 : Int) - (IntKind.wrap .i64 ((-(1 : Int)) - r10.1))))).bind fun r11 => K (.p7 r11.2.1 r11.2.2.1 r11.2.2.2.1 (default : Int) (IntKind.wrap .i64 ((60 : Int) * (IntKind.wrap .i64 (r4.1 - (12 : Int))))) ([] : List ((Int) × ((Int) × (Unit)))) ([] : List ((Int) × ((Int) × (Unit)))) ([] : List ((Int) × ((Int) × (Unit)))) ([] : List ((Int) × ((Int) × (Unit)))) ([] : List ((Int) × ((Int) × (Unit)))) ([] : List (Int)) r5.1 r6.1 [((IntKind.wrap .i64 ((-(1 : Int)) - r10.1)), ((IntKind.wrap .i64 ((IntKind.wrap .i64 ((-(1 : Int)) - r10.1)) + r11.1)), ()))] r7.1 ([] : List ((Int) × ((Int) × (Unit)))) ([] : List (Int)))) (K (.p7 r9.2.1 r9.2.2.1 r9.2.2.2.1 (default : Int) (IntKind.wrap .i64 ((60 : Int) * (IntKind.wrap .i64 (r4.1 - (12 : Int))))) ([] : List ((Int) × ((Int) × (Unit)))) ([] : List ((Int) × ((Int) × (Unit)))) ([] : List ((Int) × ((Int) × (Unit)))) ([] : List ((Int) × ((Int) × (Unit)))) ([] : List ((Int) × ((Int) × (Unit)))) ([] : List (Int)) r5.1 r6.1 r8.1 r7.1 ([] : List ((Int) × ((Int) × (Unit)))) ([] : List (Int))))
  | .p7 y1 y2 y3 y4 y5 y6 y7 y8 y9 y10 y11 y12 y13 y14 y15 y16 y17 => (spec_l1Cur__one n (y1, (y2, (y3, ()))) (4 : Int)).bind fun r20 => cond r20.1 ((spec_l1Cur__pick n (r20.2.1, r20.2.2) (140 : Int)).bind fun r21 => (spec_l1Cur__one n (r21.2.1, r21.2.2) (4 : Int)).bind fun r22 => cond r22.1 ((spec_l1Cur__pick n (r22.2.1, r22.2.2) (200 : Int)).bind fun r23 => K (.p21 r23.2.1 r23.2.2.1 r23.2.2.2.1 y4 y5 y6 y7 y8 y9 y10 y11 y12 y13 y14 y15 [((1970 : Int), ((IntKind.wrap .i64 ((1970 : Int) + r21.1)), ()))] [r23.1, (20000000 : Int)])) (K (.p21 r22.2.1 r22.2.2.1 r22.2.2.2.1 y4 y5 y6 y7 y8 y9 y10 y11 y12 y13 y14 y15 [((1970 : Int), ((IntKind.wrap .i64 ((1970 : Int) + r21.1)), ()))] y17))) ((spec_l1Cur__one n (r20.2.1, r20.2.2) (4 : Int)).bind fun r21 => cond r21.1 ((spec_l1Cur__pick n (r21.2.1, r21.2.2) (200 : Int)).bind fun r22 => K (.p21 r22.2.1 r22.2.2.1 r22.2.2.2.1 y4 y5 y6 y7 y8 y9 y10 y11 y12 y13 y14 y15 y16 [r22.1, (20000000 : Int)])) (K (.p21 r21.2.1 r21.2.2.1 r21.2.2.2.1 y4 y5 y6 y7 y8 y9 y10 y11 y12 y13 y14 y15 y16 y17)))
  | .p21 y1 y2 y3 y4 y5 y6 y7 y8 y9 y10 y11 y12 y13 y14 y15 y16 y17 => (spec_l1Cur__one n (y1, (y2, (y3, ()))) (2 : Int)).bind fun r20 => cond r20.1 (some ((y5, (([] : List ((Int) × ((Int) × (Unit)))), (y13, (y14, (([] : List ((Int) × ((Int) × (Unit)))), (([] : List ((Int) × ((Int) × (Unit)))), (([] : List (Int)), ()))))))), (r20.2.1, r20.2.2))) (some ((y5, (y12, (y13, (y14, (y15, (y16, (y17, ()))))))), (r20.2.1, r20.2.2)))
def spec_l1Cur__interval (n : Nat) (a0 : (List (Int)) × ((Int) × ((Int) × (Unit)))) : Option (Tup [(.pair (.int .i64) (.pair (.sl false (.pair (.int .i64) (.pair (.int .i64) .unit))) (.pair (.sl false (.pair (.int .i64) (.pair (.int .i64) .unit))) (.pair (.sl false (.pair (.int .i64) (.pair (.int .i64) .unit))) (.pair (.sl false (.pair (.int .i64) (.pair (.int .i64) .unit))) (.pair (.sl false (.pair (.int .i64) (.pair (.int .i64) .unit))) (.pair (.sl false (.int .i64)) .unit))))))), (.pair (.bs (.int .u8)) (.pair (.int .i64) (.pair (.int .u64) .unit)))]) := goRec spec_l1Cur__interval.step n (.p0 a0)
def spec_l1Cur__interval.spec : Ctr := ⟨10, [.p (.pair (.bs (.int .u8)) (.pair (.int .i64) (.pair (.int .u64) .unit)))], [(.pair (.int .i64) (.pair (.sl false (.pair (.int .i64) (.pair (.int .i64) .unit))) (.pair (.sl false (.pair (.int .i64) (.pair (.int .i64) .unit))) (.pair (.sl false (.pair (.int .i64) (.pair (.int .i64) .unit))) (.pair (.sl false (.pair (.int .i64) (.pair (.int .i64) .unit))) (.pair (.sl false (.pair (.int .i64) (.pair (.int .i64) .unit))) (.pair (.sl false (.int .i64)) .unit)))))))], [(.pair (.bs (.int .u8)) (.pair (.int .i64) (.pair (.int .u64) .unit)))], fun n x => spec_l1Cur__interval n x.1⟩
theorem spec_l1Cur__interval.seg_eq : SegEq ty gl spec_l1Cur__interval.F spec_l1Cur__interval.md spec_l1Cur__interval.T spec_l1Cur__interval.spec spec_l1Cur__interval.lb spec_l1Cur__interval.st spec_l1Cur__interval.step := by
  intro n goto y; cases y <;> kernel_rfl
theorem spec_l1Cur__interval.text : Text Go.Proofs.Try.prog spec_l1Cur__interval.F spec_l1Cur__interval.spec := textOf Go.Proofs.Try.f10
theorem spec_l1Cur__interval.ok : CtrOK Go.Proofs.Try.prog gl spec_l1Cur__interval.spec :=
  ctr_okS tabs spec_l1Cur__interval.text spec_l1Cur__interval.seg_eq (fun n x => ⟨.p0 x.1, rfl, rfl, rfl⟩) (consC spec_l1Cur__pick.ok (consC spec_l1Cur__one.ok (consC spec_l1Cur__ranges.ok (nilC))))

/-! loop.example/g00039/spec.l19Leap -/
def spec_l19Leap.T : List Ctr := []
def spec_l19Leap.md : List (Nat × List Md) := []
noncomputable def spec_l19Leap.F : Fun := ⟨(Go.Proofs.Try.f35.body).getD .skip, [.v (.int .i64)], [(.tmp 2, .bool)], [], 0, []⟩
inductive spec_l19Leap.Pt where
  | p0 (a0 : Int)
def spec_l19Leap.lb : spec_l19Leap.Pt → Nat
  | .p0 _ => 0
def spec_l19Leap.st : spec_l19Leap.Pt → St
  | .p0 a0 => enter [.v (.int .i64) a0] 0
def spec_l19Leap.step (n : Nat) (K : spec_l19Leap.Pt → Option (Tup [.bool])) : spec_l19Leap.Pt → Option (Tup [.bool])
  | .p0 a0 => cond (decide ((Int.tmod a0 (4 : Int)) = (0 : Int))) (cond (!(decide ((Int.tmod a0 (100 : Int)) = (0 : Int)))) (some true) (some (decide ((Int.tmod a0 (400 : Int)) = (0 : Int))))) (some false)
def spec_l19Leap (n : Nat) (a0 : Int) : Option (Tup [.bool]) := goRec spec_l19Leap.step n (.p0 a0)
def spec_l19Leap.spec : Ctr := ⟨35, [.v (.int .i64)], [.bool], [], fun n x => spec_l19Leap n x.1⟩
theorem spec_l19Leap.seg_eq : SegEq ty gl spec_l19Leap.F spec_l19Leap.md spec_l19Leap.T spec_l19Leap.spec spec_l19Leap.lb spec_l19Leap.st spec_l19Leap.step := by
  intro n goto y; cases y <;> kernel_rfl
theorem spec_l19Leap.text : Text Go.Proofs.Try.prog spec_l19Leap.F spec_l19Leap.spec := textOf Go.Proofs.Try.f35
theorem spec_l19Leap.ok : CtrOK Go.Proofs.Try.prog gl spec_l19Leap.spec :=
  ctr_okS tabs spec_l19Leap.text spec_l19Leap.seg_eq (fun n x => ⟨.p0 x.1, rfl, rfl, rfl⟩) (nilC)

/-! loop.example/g00039/spec.l19Month -/
def spec_l19Month.T : List Ctr := [spec_l19Leap.spec]
def spec_l19Month.md : List (Nat × List Md) := []
noncomputable def spec_l19Month.F : Fun := ⟨(Go.Proofs.Try.f26.body).getD .skip, [.v (.int .i64), .v (.int .i64)], [(.tmp 4, (.int .i64))], [], 0, []⟩
inductive spec_l19Month.Pt where
  | p0 (a0 : Int) (a1 : Int)
def spec_l19Month.lb : spec_l19Month.Pt → Nat
  | .p0 _ _ => 0
def spec_l19Month.st : spec_l19Month.Pt → St
  | .p0 a0 a1 => enter [.v (.int .i64) a0, .v (.int .i64) a1] 0
def spec_l19Month.step (n : Nat) (K : spec_l19Month.Pt → Option (Tup [(.int .i64)])) : spec_l19Month.Pt → Option (Tup [(.int .i64)])
  | .p0 a0 a1 => cond (decide (a1 = (2 : Int))) ((spec_l19Leap n a0).bind fun r5 => cond r5 (some (29 : Int)) (cond (inB a1 (List.length [(0 : Int), (31 : Int), (28 : Int), (31 : Int), (30 : Int), (31 : Int), (30 : Int), (31 : Int), (31 : Int), (30 : Int), (31 : Int), (30 : Int), (31 : Int)])) (some (List.getD [(0 : Int), (31 : Int), (28 : Int), (31 : Int), (30 : Int), (31 : Int), (30 : Int), (31 : Int), (31 : Int), (30 : Int), (31 : Int), (30 : Int), (31 : Int)] (0 + (Int.toNat a1)) default)) (none))) (cond (inB a1 (List.length [(0 : Int), (31 : Int), (28 : Int), (31 : Int), (30 : Int), (31 : Int), (30 : Int), (31 : Int), (31 : Int), (30 : Int), (31 : Int), (30 : Int), (31 : Int)])) (some (List.getD [(0 : Int), (31 : Int), (28 : Int), (31 : Int), (30 : Int), (31 : Int), (30 : Int), (31 : Int), (31 : Int), (30 : Int), (31 : Int), (30 : Int), (31 : Int)] (0 + (Int.toNat a1)) default)) (none))
def spec_l19Month (n : Nat) (a0 : Int) (a1 : Int) : Option (Tup [(.int .i64)]) := goRec spec_l19Month.step n (.p0 a0 a1)
def spec_l19Month.spec : Ctr := ⟨26, [.v (.int .i64), .v (.int .i64)], [(.int .i64)], [], fun n x => spec_l19Month n x.1 x.2.1⟩
theorem spec_l19Month.seg_eq : SegEq ty gl spec_l19Month.F spec_l19Month.md spec_l19Month.T spec_l19Month.spec spec_l19Month.lb spec_l19Month.st spec_l19Month.step := by
  intro n goto y; cases y <;> kernel_rfl
theorem spec_l19Month.text : Text Go.Proofs.Try.prog spec_l19Month.F spec_l19Month.spec := textOf Go.Proofs.Try.f26
theorem spec_l19Month.ok : CtrOK Go.Proofs.Try.prog gl spec_l19Month.spec :=
  ctr_okS tabs spec_l19Month.text spec_l19Month.seg_eq (fun n x => ⟨.p0 x.1 x.2.1, rfl, rfl, rfl⟩) (consC spec_l19Leap.ok (nilC))

/-! loop.example/g00039/spec.l19Year -/
def spec_l19Year.T : List Ctr := [spec_l19Leap.spec]
def spec_l19Year.md : List (Nat × List Md) := []
noncomputable def spec_l19Year.F : Fun := ⟨(Go.Proofs.Try.f25.body).getD .skip, [.v (.int .i64)], [(.tmp 2, (.int .i64))], [], 0, []⟩
inductive spec_l19Year.Pt where
  | p0 (a0 : Int)
def spec_l19Year.lb : spec_l19Year.Pt → Nat
  | .p0 _ => 0
def spec_l19Year.st : spec_l19Year.Pt → St
  | .p0 a0 => enter [.v (.int .i64) a0] 0
def spec_l19Year.step (n : Nat) (K : spec_l19Year.Pt → Option (Tup [(.int .i64)])) : spec_l19Year.Pt → Option (Tup [(.int .i64)])
  | .p0 a0 => (spec_l19Leap n a0).bind fun r4 => cond r4 (some (366 : Int)) (some (365 : Int))
def spec_l19Year (n : Nat) (a0 : Int) : Option (Tup [(.int .i64)]) := goRec spec_l19Year.step n (.p0 a0)
def spec_l19Year.spec : Ctr := ⟨25, [.v (.int .i64)], [(.int .i64)], [], fun n x => spec_l19Year n x.1⟩
theorem spec_l19Year.seg_eq : SegEq ty gl spec_l19Year.F spec_l19Year.md spec_l19Year.T spec_l19Year.spec spec_l19Year.lb spec_l19Year.st spec_l19Year.step := by
  intro n goto y; cases y <;> kernel_rfl
theorem spec_l19Year.text : Text Go.Proofs.Try.prog spec_l19Year.F spec_l19Year.spec := textOf Go.Proofs.Try.f25
theorem spec_l19Year.ok : CtrOK Go.Proofs.Try.prog gl spec_l19Year.spec :=
  ctr_okS tabs spec_l19Year.text spec_l19Year.seg_eq (fun n x => ⟨.p0 x.1, rfl, rfl, rfl⟩) (consC spec_l19Leap.ok (nilC))

/-! loop.example/g00039/spec.DayNumber -/
def spec_DayNumber.T : List Ctr := [spec_l19Month.spec, spec_l19Year.spec]
def spec_DayNumber.md : List (Nat × List Md) := []
noncomputable def spec_DayNumber.F : Fun := ⟨(Go.Proofs.Try.f9.body).getD .skip, [.v (.int .i64), .v (.int .i64), .v (.int .i64)], [(.tmp 6, (.int .i64))], [], 0, [(4, ⟨[0, 1, 2, 34], [], [], false⟩), (17, ⟨[0, 1, 7, 8], [], [], false⟩), (32, ⟨[0, 1, 7, 9], [], [], false⟩)]⟩
inductive spec_DayNumber.Pt where
  | p0 (a0 : Int) (a1 : Int) (a2 : Int)
  | p4 (y1 : Int) (y2 : Int) (y3 : Int) (y4 : Bool)
  | p17 (y1 : Int) (y2 : Int) (y3 : Int) (y4 : Int)
  | p32 (y1 : Int) (y2 : Int) (y3 : Int) (y4 : Int)
def spec_DayNumber.lb : spec_DayNumber.Pt → Nat
  | .p0 _ _ _ => 0
  | .p4 _ _ _ _ => 4
  | .p17 _ _ _ _ => 17
  | .p32 _ _ _ _ => 32
def spec_DayNumber.st : spec_DayNumber.Pt → St
  | .p0 a0 a1 a2 => enter [.v (.int .i64) a0, .v (.int .i64) a1, .v (.int .i64) a2] 0
  | .p4 y1 y2 y3 y4 => ⟨[(0, .im (.int .i64) y1), (1, .im (.int .i64) y2), (2, .im (.int .i64) y3), (34, .im .bool y4)], [], 0⟩
  | .p17 y1 y2 y3 y4 => ⟨[(0, .im (.int .i64) y1), (1, .im (.int .i64) y2), (7, .im (.int .i64) y3), (8, .im (.int .i64) y4)], [], 0⟩
  | .p32 y1 y2 y3 y4 => ⟨[(0, .im (.int .i64) y1), (1, .im (.int .i64) y2), (7, .im (.int .i64) y3), (9, .im (.int .i64) y4)], [], 0⟩
def spec_DayNumber.step (n : Nat) (K : spec_DayNumber.Pt → Option (Tup [(.int .i64)])) : spec_DayNumber.Pt → Option (Tup [(.int .i64)])
  | .p0 a0 a1 a2 => cond (decide (a0 < (1970 : Int))) (K (.p4 a0 a1 a2 true)) (cond (decide ((40000 : Int) < a0)) (K (.p4 a0 a1 a2 true)) (cond (decide (a1 < (1 : Int))) (K (.p4 a0 a1 a2 true)) (cond (decide ((12 : Int) < a1)) (K (.p4 a0 a1 a2 true)) (cond (decide (a2 < (1 : Int))) (K (.p4 a0 a1 a2 true)) ((spec_l19Month n a0 a1).bind fun (r6 : Int) => K (.p4 a0 a1 a2 (decide (r6 < a2))))))))
  | .p4 y1 y2 y3 y4 => cond y4 (some (-(1 : Int))) (K (.p17 y1 y2 (IntKind.wrap .i64 (y3 - (1 : Int))) (1970 : Int)))
  | .p17 y1 y2 y3 y4 => cond (decide (y4 < y1)) ((spec_l19Year n y4).bind fun (r7 : Int) => K (.p17 y1 y2 (IntKind.wrap .i64 (y3 + r7)) (IntKind.wrap .i64 (y4 + (1 : Int))))) (K (.p32 y1 y2 y3 (1 : Int)))
  | .p32 y1 y2 y3 y4 => cond (decide (y4 < y2)) ((spec_l19Month n y1 y4).bind fun (r7 : Int) => K (.p32 y1 y2 (IntKind.wrap .i64 (y3 + r7)) (IntKind.wrap .i64 (y4 + (1 : Int))))) (some y3)
def spec_DayNumber (n : Nat) (a0 : Int) (a1 : Int) (a2 : Int) : Option (Tup [(.int .i64)]) := goRec spec_DayNumber.step n (.p0 a0 a1 a2)
def spec_DayNumber.spec : Ctr := ⟨9, [.v (.int .i64), .v (.int .i64), .v (.int .i64)], [(.int .i64)], [], fun n x => spec_DayNumber n x.1 x.2.1 x.2.2.1⟩
theorem spec_DayNumber.seg_eq : SegEq ty gl spec_DayNumber.F spec_DayNumber.md spec_DayNumber.T spec_DayNumber.spec spec_DayNumber.lb spec_DayNumber.st spec_DayNumber.step := by
  intro n goto y; cases y <;> kernel_rfl
theorem spec_DayNumber.text : Text Go.Proofs.Try.prog spec_DayNumber.F spec_DayNumber.spec := textOf Go.Proofs.Try.f9
theorem spec_DayNumber.ok : CtrOK Go.Proofs.Try.prog gl spec_DayNumber.spec :=
  ctr_okS tabs spec_DayNumber.text spec_DayNumber.seg_eq (fun n x => ⟨.p0 x.1 x.2.1 x.2.2.1, rfl, rfl, rfl⟩) (consC spec_l19Month.ok (consC spec_l19Year.ok (nilC)))

/-! (*loop.example/g00039/spec.l1Cur).day -/
def spec_l1Cur__day.T : List Ctr := [spec_l1Cur__pick.spec, spec_DayNumber.spec]
def spec_l1Cur__day.md : List (Nat × List Md) := [(27, [.p (.pair (.bs (.int .u8)) (.pair (.int .i64) (.pair (.int .u64) .unit))), .v])]
noncomputable def spec_l1Cur__day.F : Fun := ⟨(Go.Proofs.Try.f11.body).getD .skip, [.p (.pair (.bs (.int .u8)) (.pair (.int .i64) (.pair (.int .u64) .unit)))], [(.tmp 2, (.int .i64))], [some (.pair (.bs (.int .u8)) (.pair (.int .i64) (.pair (.int .u64) .unit)))], 1, []⟩
inductive spec_l1Cur__day.Pt where
  | p0 (a0 : (List (Int)) × ((Int) × ((Int) × (Unit))))
def spec_l1Cur__day.lb : spec_l1Cur__day.Pt → Nat
  | .p0 _ => 0
def spec_l1Cur__day.st : spec_l1Cur__day.Pt → St
  | .p0 a0 => enter [.p (.pair (.bs (.int .u8)) (.pair (.int .i64) (.pair (.int .u64) .unit))) a0] 1
def spec_l1Cur__day.step (n : Nat) (K : spec_l1Cur__day.Pt → Option (Tup [(.int .i64), (.pair (.bs (.int .u8)) (.pair (.int .i64) (.pair (.int .u64) .unit)))])) : spec_l1Cur__day.Pt → Option (Tup [(.int .i64), (.pair (.bs (.int .u8)) (.pair (.int .i64) (.pair (.int .u64) .unit)))])
  | .p0 a0 => (spec_l1Cur__pick n (a0.1, a0.2) (100 : Int)).bind fun r4 => (spec_l1Cur__pick n (r4.2.1, r4.2.2) (366 : Int)).bind fun r5 => (spec_l1Cur__pick n (r5.2.1, r5.2.2) (86400 : Int)).bind fun r6 => (spec_l1Cur__pick n (r6.2.1, r6.2.2) (12 : Int)).bind fun r7 => cond (decide (r7.1 = (0 : Int))) ((spec_l1Cur__pick n (r7.2.1, r7.2.2) (200 : Int)).bind fun r8 => some (r8.1, (r8.2.1, r8.2.2))) (cond (decide (r7.1 = (1 : Int))) ((spec_l1Cur__pick n (r7.2.1, r7.2.2) (100000 : Int)).bind fun r8 => some ((IntKind.wrap .i64 ((1000000000000 : Int) - r8.1)), (r8.2.1, r8.2.2))) (cond (decide (r7.1 = (2 : Int))) ((spec_l1Cur__pick n (r7.2.1, r7.2.2) (140 : Int)).bind fun r8 => (spec_DayNumber n (IntKind.wrap .i64 ((1970 : Int) + r8.1)) (2 : Int) (27 : Int)).bind fun (r9 : Int) => (spec_l1Cur__pick n (r8.2.1, r8.2.2) (345600 : Int)).bind fun r10 => some ((IntKind.wrap .i64 ((IntKind.wrap .i64 (r9 * (86400 : Int))) + r10.1)), (r10.2.1, r10.2.2))) (some ((IntKind.wrap .i64 ((IntKind.wrap .i64 ((IntKind.wrap .i64 ((IntKind.wrap .i64 (r4.1 * (86400 : Int))) * (365 : Int))) + (IntKind.wrap .i64 (r5.1 * (86400 : Int))))) + r6.1)), (r7.2.1, r7.2.2)))))
def spec_l1Cur__day (n : Nat) (a0 : (List (Int)) × ((Int) × ((Int) × (Unit)))) : Option (Tup [(.int .i64), (.pair (.bs (.int .u8)) (.pair (.int .i64) (.pair (.int .u64) .unit)))]) := goRec spec_l1Cur__day.step n (.p0 a0)
def spec_l1Cur__day.spec : Ctr := ⟨11, [.p (.pair (.bs (.int .u8)) (.pair (.int .i64) (.pair (.int .u64) .unit)))], [(.int .i64)], [(.pair (.bs (.int .u8)) (.pair (.int .i64) (.pair (.int .u64) .unit)))], fun n x => spec_l1Cur__day n x.1⟩
theorem spec_l1Cur__day.seg_eq : SegEq ty gl spec_l1Cur__day.F spec_l1Cur__day.md spec_l1Cur__day.T spec_l1Cur__day.spec spec_l1Cur__day.lb spec_l1Cur__day.st spec_l1Cur__day.step := by
  intro n goto y; cases y <;> kernel_rfl
theorem spec_l1Cur__day.text : Text Go.Proofs.Try.prog spec_l1Cur__day.F spec_l1Cur__day.spec := textOf Go.Proofs.Try.f11
theorem spec_l1Cur__day.ok : CtrOK Go.Proofs.Try.prog gl spec_l1Cur__day.spec :=
  ctr_okS tabs spec_l1Cur__day.text spec_l1Cur__day.seg_eq (fun n x => ⟨.p0 x.1, rfl, rfl, rfl⟩) (consC spec_l1Cur__pick.ok (consC spec_DayNumber.ok (nilC)))

/-! (*loop.example/g00039/spec.l1Cur).of2 -/
def spec_l1Cur__of2.T : List Ctr := [spec_l1Cur__one.spec]
def spec_l1Cur__of2.md : List (Nat × List Md) := [(12, [.p (.pair (.bs (.int .u8)) (.pair (.int .i64) (.pair (.int .u64) .unit))), .v])]
noncomputable def spec_l1Cur__of2.F : Fun := ⟨(Go.Proofs.Try.f29.body).getD .skip, [.p (.pair (.bs (.int .u8)) (.pair (.int .i64) (.pair (.int .u64) .unit))), .v (.int .i64), .v (.int .i64)], [(.tmp 6, (.int .i64))], [some (.pair (.bs (.int .u8)) (.pair (.int .i64) (.pair (.int .u64) .unit)))], 1, []⟩
inductive spec_l1Cur__of2.Pt where
  | p0 (a0 : (List (Int)) × ((Int) × ((Int) × (Unit)))) (a1 : Int) (a2 : Int)
def spec_l1Cur__of2.lb : spec_l1Cur__of2.Pt → Nat
  | .p0 _ _ _ => 0
def spec_l1Cur__of2.st : spec_l1Cur__of2.Pt → St
  | .p0 a0 a1 a2 => enter [.p (.pair (.bs (.int .u8)) (.pair (.int .i64) (.pair (.int .u64) .unit))) a0, .v (.int .i64) a1, .v (.int .i64) a2] 1
def spec_l1Cur__of2.step (n : Nat) (K : spec_l1Cur__of2.Pt → Option (Tup [(.int .i64), (.pair (.bs (.int .u8)) (.pair (.int .i64) (.pair (.int .u64) .unit)))])) : spec_l1Cur__of2.Pt → Option (Tup [(.int .i64), (.pair (.bs (.int .u8)) (.pair (.int .i64) (.pair (.int .u64) .unit)))])
  | .p0 a0 a1 a2 => (spec_l1Cur__one n (a0.1, a0.2) (2 : Int)).bind fun r6 => cond r6.1 (some (a1, (r6.2.1, r6.2.2))) (some (a2, (r6.2.1, r6.2.2)))
def spec_l1Cur__of2 (n : Nat) (a0 : (List (Int)) × ((Int) × ((Int) × (Unit)))) (a1 : Int) (a2 : Int) : Option (Tup [(.int .i64), (.pair (.bs (.int .u8)) (.pair (.int .i64) (.pair (.int .u64) .unit)))]) := goRec spec_l1Cur__of2.step n (.p0 a0 a1 a2)
def spec_l1Cur__of2.spec : Ctr := ⟨29, [.p (.pair (.bs (.int .u8)) (.pair (.int .i64) (.pair (.int .u64) .unit))), .v (.int .i64), .v (.int .i64)], [(.int .i64)], [(.pair (.bs (.int .u8)) (.pair (.int .i64) (.pair (.int .u64) .unit)))], fun n x => spec_l1Cur__of2 n x.1 x.2.1 x.2.2.1⟩
theorem spec_l1Cur__of2.seg_eq : SegEq ty gl spec_l1Cur__of2.F spec_l1Cur__of2.md spec_l1Cur__of2.T spec_l1Cur__of2.spec spec_l1Cur__of2.lb spec_l1Cur__of2.st spec_l1Cur__of2.step := by
  intro n goto y; cases y <;> kernel_rfl
theorem spec_l1Cur__of2.text : Text Go.Proofs.Try.prog spec_l1Cur__of2.F spec_l1Cur__of2.spec := textOf Go.Proofs.Try.f29
theorem spec_l1Cur__of2.ok : CtrOK Go.Proofs.Try.prog gl spec_l1Cur__of2.spec :=
  ctr_okS tabs spec_l1Cur__of2.text spec_l1Cur__of2.seg_eq (fun n x => ⟨.p0 x.1 x.2.1 x.2.2.1, rfl, rfl, rfl⟩) (consC spec_l1Cur__one.ok (nilC))

/-! (*loop.example/g00039/spec.l1Cur).oddInterval -/
def spec_l1Cur__oddInterval.T : List Ctr := [spec_l1Cur__pick.spec, spec_l1Cur__of2.spec]
def spec_l1Cur__oddInterval.md : List (Nat × List Md) := [(27, [.p (.pair (.bs (.int .u8)) (.pair (.int .i64) (.pair (.int .u64) .unit))), .v]), (29, [.p (.pair (.bs (.int .u8)) (.pair (.int .i64) (.pair (.int .u64) .unit))), .v, .v])]
noncomputable def spec_l1Cur__oddInterval.F : Fun := ⟨(Go.Proofs.Try.f13.body).getD .skip, [.p (.pair (.bs (.int .u8)) (.pair (.int .i64) (.pair (.int .u64) .unit))), .g (.pair (.int .i64) (.pair (.sl false (.pair (.int .i64) (.pair (.int .i64) .unit))) (.pair (.sl false (.pair (.int .i64) (.pair (.int .i64) .unit))) (.pair (.sl false (.pair (.int .i64) (.pair (.int .i64) .unit))) (.pair (.sl false (.pair (.int .i64) (.pair (.int .i64) .unit))) (.pair (.sl false (.pair (.int .i64) (.pair (.int .i64) .unit))) (.pair (.sl false (.int .i64)) .unit)))))))], [(.cell 4 26, (.pair (.int .i64) (.pair (.sl false (.pair (.int .i64) (.pair (.int .i64) .unit))) (.pair (.sl false (.pair (.int .i64) (.pair (.int .i64) .unit))) (.pair (.sl false (.pair (.int .i64) (.pair (.int .i64) .unit))) (.pair (.sl false (.pair (.int .i64) (.pair (.int .i64) .unit))) (.pair (.sl false (.pair (.int .i64) (.pair (.int .i64) .unit))) (.pair (.sl false (.int .i64)) .unit))))))))], [some (.pair (.bs (.int .u8)) (.pair (.int .i64) (.pair (.int .u64) .unit)))], 1, [(31, ⟨[0, 3, 4], [], [(3, 1, (.pair (.int .i64) (.pair (.int .i64) .unit))), (3, 2, (.pair (.int .i64) (.pair (.int .i64) .unit))), (3, 3, (.pair (.int .i64) (.pair (.int .i64) .unit))), (3, 4, (.pair (.int .i64) (.pair (.int .i64) .unit))), (3, 5, (.pair (.int .i64) (.pair (.int .i64) .unit))), (3, 6, (.int .i64)), (4, 1, (.pair (.int .i64) (.pair (.int .i64) .unit))), (4, 2, (.pair (.int .i64) (.pair (.int .i64) .unit))), (4, 3, (.pair (.int .i64) (.pair (.int .i64) .unit))), (4, 4, (.pair (.int .i64) (.pair (.int .i64) .unit))), (4, 5, (.pair (.int .i64) (.pair (.int .i64) .unit))), (4, 6, (.int .i64))], false⟩)]⟩
inductive spec_l1Cur__oddInterval.Pt where
  | p0 (a0 : (List (Int)) × ((Int) × ((Int) × (Unit)))) (a1 : (Int) × ((List ((Int) × ((Int) × (Unit)))) × ((List ((Int) × ((Int) × (Unit)))) × ((List ((Int) × ((Int) × (Unit)))) × ((List ((Int) × ((Int) × (Unit)))) × ((List ((Int) × ((Int) × (Unit)))) × ((List (Int)) × (Unit))))))))
  | p31 (y1 : List (Int)) (y2 : Int) (y3 : Int) (y4 : Int) (y5 : Int) (y6 : List ((Int) × ((Int) × (Unit)))) (y7 : List ((Int) × ((Int) × (Unit)))) (y8 : List ((Int) × ((Int) × (Unit)))) (y9 : List ((Int) × ((Int) × (Unit)))) (y10 : List ((Int) × ((Int) × (Unit)))) (y11 : List (Int)) (y12 : List ((Int) × ((Int) × (Unit)))) (y13 : List ((Int) × ((Int) × (Unit)))) (y14 : List ((Int) × ((Int) × (Unit)))) (y15 : List ((Int) × ((Int) × (Unit)))) (y16 : List ((Int) × ((Int) × (Unit)))) (y17 : List (Int))
def spec_l1Cur__oddInterval.lb : spec_l1Cur__oddInterval.Pt → Nat
  | .p0 _ _ => 0
  | .p31 _ _ _ _ _ _ _ _ _ _ _ _ _ _ _ _ _ => 31
def spec_l1Cur__oddInterval.st : spec_l1Cur__oddInterval.Pt → St
  | .p0 a0 a1 => enter [.p (.pair (.bs (.int .u8)) (.pair (.int .i64) (.pair (.int .u64) .unit))) a0, .g (.pair (.int .i64) (.pair (.sl false (.pair (.int .i64) (.pair (.int .i64) .unit))) (.pair (.sl false (.pair (.int .i64) (.pair (.int .i64) .unit))) (.pair (.sl false (.pair (.int .i64) (.pair (.int .i64) .unit))) (.pair (.sl false (.pair (.int .i64) (.pair (.int .i64) .unit))) (.pair (.sl false (.pair (.int .i64) (.pair (.int .i64) .unit))) (.pair (.sl false (.int .i64)) .unit))))))) a1] 1
  | .p31 y1 y2 y3 y4 y5 y6 y7 y8 y9 y10 y11 y12 y13 y14 y15 y16 y17 => ⟨[(0, .po 0 0), (3, .po 1 0), (4, .po 2 0)], [(0, .obj [.im (.bs (.int .u8)) y1, .im (.int .i64) y2, .im (.int .u64) y3]), (1, .obj [.im (.int .i64) y4, .hs 3 [] none 0, .hs 4 [] none 0, .hs 5 [] none 0, .hs 6 [] none 0, .hs 7 [] none 0, .hs 8 [] none 0]), (2, .obj [.im (.int .i64) y5, .hs 9 [] none 0, .hs 10 [] none 0, .hs 11 [] none 0, .hs 12 [] none 0, .hs 13 [] none 0, .hs 14 [] none 0]), (3, .arr false (.pair (.int .i64) (.pair (.int .i64) .unit)) y6 0), (4, .arr false (.pair (.int .i64) (.pair (.int .i64) .unit)) y7 0), (5, .arr false (.pair (.int .i64) (.pair (.int .i64) .unit)) y8 0), (6, .arr false (.pair (.int .i64) (.pair (.int .i64) .unit)) y9 0), (7, .arr false (.pair (.int .i64) (.pair (.int .i64) .unit)) y10 0), (8, .arr false (.int .i64) y11 0), (9, .arr true (.pair (.int .i64) (.pair (.int .i64) .unit)) y12 0), (10, .arr true (.pair (.int .i64) (.pair (.int .i64) .unit)) y13 0), (11, .arr true (.pair (.int .i64) (.pair (.int .i64) .unit)) y14 0), (12, .arr true (.pair (.int .i64) (.pair (.int .i64) .unit)) y15 0), (13, .arr true (.pair (.int .i64) (.pair (.int .i64) .unit)) y16 0), (14, .arr true (.int .i64) y17 0)], 15⟩
def spec_l1Cur__oddInterval.step (n : Nat) (K : spec_l1Cur__oddInterval.Pt → Option (Tup [(.pair (.int .i64) (.pair (.sl false (.pair (.int .i64) (.pair (.int .i64) .unit))) (.pair (.sl false (.pair (.int .i64) (.pair (.int .i64) .unit))) (.pair (.sl false (.pair (.int .i64) (.pair (.int .i64) .unit))) (.pair (.sl false (.pair (.int .i64) (.pair (.int .i64) .unit))) (.pair (.sl false (.pair (.int .i64) (.pair (.int .i64) .unit))) (.pair (.sl false (.int .i64)) .unit))))))), (.pair (.bs (.int .u8)) (.pair (.int .i64) (.pair (.int .u64) .unit)))])) : spec_l1Cur__oddInterval.Pt → Option (Tup [(.pair (.int .i64) (.pair (.sl false (.pair (.int .i64) (.pair (.int .i64) .unit))) (.pair (.sl false (.pair (.int .i64) (.pair (.int .i64) .unit))) (.pair (.sl false (.pair (.int .i64) (.pair (.int .i64) .unit))) (.pair (.sl false (.pair (.int .i64) (.pair (.int .i64) .unit))) (.pair (.sl false (.pair (.int .i64) (.pair (.int .i64) .unit))) (.pair (.sl false (.int .i64)) .unit))))))), (.pair (.bs (.int .u8)) (.pair (.int .i64) (.pair (.int .u64) .unit)))])
  | .p0 a0 a1 => (spec_l1Cur__pick n (a0.1, a0.2) (20 : Int)).bind fun r5 => cond (decide (r5.1 = (0 : Int))) ((spec_l1Cur__pick n (r5.2.1, r5.2.2) (4 : Int)).bind fun r6 => cond (inB r6.1 (List.length [(-(1440 : Int)), (1440 : Int), (-(1441 : Int)), (1441 : Int)])) (some (((List.getD [(-(1440 : Int)), (1440 : Int), (-(1441 : Int)), (1441 : Int)] (0 + (Int.toNat r6.1)) default), a1.2), (r6.2.1, r6.2.2))) (none)) (cond (decide (r5.1 = (1 : Int))) ((spec_l1Cur__pick n (r5.2.1, r5.2.2) (3 : Int)).bind fun r6 => cond (inB r6.1 (List.length [(4 : Int), (1439 : Int), (1440 : Int)])) (cond (room ((List.length a1.2.1) + (List.length [((5 : Int), ((List.getD [(4 : Int), (1439 : Int), (1440 : Int)] (0 + (Int.toNat r6.1)) default), ()))]))) (some ((a1.1, ((a1.2.1 ++ [((5 : Int), ((List.getD [(4 : Int), (1439 : Int), (1440 : Int)] (0 + (Int.toNat r6.1)) default), ()))]), a1.2.2)), (r6.2.1, r6.2.2))) (none)) (none)) (cond (decide (r5.1 = (2 : Int))) ((spec_l1Cur__pick n (r5.2.1, r5.2.2) (3 : Int)).bind fun r6 => cond (inB r6.1 (List.length [(-(1 : Int)), (0 : Int), (1 : Int)])) ((spec_l1Cur__pick n (r6.2.1, r6.2.2) (4 : Int)).bind fun r7 => cond (inB r7.1 (List.length [(1 : Int), (0 : Int), (31 : Int), (32 : Int)])) (cond (room ((List.length a1.2.2.2.1) + (List.length [((List.getD [(-(1 : Int)), (0 : Int), (1 : Int)] (0 + (Int.toNat r6.1)) default), ((List.getD [(1 : Int), (0 : Int), (31 : Int), (32 : Int)] (0 + (Int.toNat r7.1)) default), ()))]))) (some ((a1.1, (a1.2.1, (a1.2.2.1, ((a1.2.2.2.1 ++ [((List.getD [(-(1 : Int)), (0 : Int), (1 : Int)] (0 + (Int.toNat r6.1)) default), ((List.getD [(1 : Int), (0 : Int), (31 : Int), (32 : Int)] (0 + (Int.toNat r7.1)) default), ()))]), a1.2.2.2.2)))), (r7.2.1, r7.2.2))) (none)) (none)) (none)) (cond (decide (r5.1 = (3 : Int))) ((spec_l1Cur__of2 n (r5.2.1, r5.2.2) (-(1 : Int)) (20000001 : Int)).bind fun r6 => cond (room ((List.length a1.2.2.2.2.2.2.1) + (List.length [r6.1]))) (some ((a1.1, (a1.2.1, (a1.2.2.1, (a1.2.2.2.1, (a1.2.2.2.2.1, (a1.2.2.2.2.2.1, ((a1.2.2.2.2.2.2.1 ++ [r6.1]), ()))))))), (r6.2.1, r6.2.2))) (none)) (cond (decide (r5.1 = (4 : Int))) (some ((a1.1, (a1.2.1, (a1.2.2.1, (a1.2.2.2.1, (a1.2.2.2.2.1, ([((1969 : Int), ((40000 : Int), ()))], (a1.2.2.2.2.2.2.1, ()))))))), (r5.2.1, r5.2.2))) (cond (decide (r5.1 = (5 : Int))) (K (.p31 r5.2.1 r5.2.2.1 r5.2.2.2.1 a1.1 (default : Int) a1.2.1 a1.2.2.1 a1.2.2.2.1 a1.2.2.2.2.1 a1.2.2.2.2.2.1 a1.2.2.2.2.2.2.1 ([] : List ((Int) × ((Int) × (Unit)))) ([] : List ((Int) × ((Int) × (Unit)))) ([] : List ((Int) × ((Int) × (Unit)))) ([] : List ((Int) × ((Int) × (Unit)))) ([] : List ((Int) × ((Int) × (Unit)))) ([] : List (Int)))) (some (a1, (r5.2.1, r5.2.2))))))))
  | .p31 y1 y2 y3 y4 y5 y6 y7 y8 y9 y10 y11 y12 y13 y14 y15 y16 y17 => (spec_l1Cur__pick n (y1, (y2, (y3, ()))) (3 : Int)).bind fun r20 => cond (decide (((List.length y9) : Int) < (IntKind.wrap .i64 ((9 : Int) + r20.1)))) (cond (room ((List.length y9) + (List.length [((1 : Int), ((12 : Int), ()))]))) (K (.p31 r20.2.1 r20.2.2.1 r20.2.2.2.1 y4 y5 y6 y7 y8 (y9 ++ [((1 : Int), ((12 : Int), ()))]) y10 y11 y12 y13 y14 y15 y16 y17)) (none)) (some ((y4, (y6, (y7, (y8, (y9, (y10, (y11, ()))))))), (r20.2.1, r20.2.2)))
def spec_l1Cur__oddInterval (n : Nat) (a0 : (List (Int)) × ((Int) × ((Int) × (Unit)))) (a1 : (Int) × ((List ((Int) × ((Int) × (Unit)))) × ((List ((Int) × ((Int) × (Unit)))) × ((List ((Int) × ((Int) × (Unit)))) × ((List ((Int) × ((Int) × (Unit)))) × ((List ((Int) × ((Int) × (Unit)))) × ((List (Int)) × (Unit)))))))) : Option (Tup [(.pair (.int .i64) (.pair (.sl false (.pair (.int .i64) (.pair (.int .i64) .unit))) (.pair (.sl false (.pair (.int .i64) (.pair (.int .i64) .unit))) (.pair (.sl false (.pair (.int .i64) (.pair (.int .i64) .unit))) (.pair (.sl false (.pair (.int .i64) (.pair (.int .i64) .unit))) (.pair (.sl false (.pair (.int .i64) (.pair (.int .i64) .unit))) (.pair (.sl false (.int .i64)) .unit))))))), (.pair (.bs (.int .u8)) (.pair (.int .i64) (.pair (.int .u64) .unit)))]) := goRec spec_l1Cur__oddInterval.step n (.p0 a0 a1)
def spec_l1Cur__oddInterval.spec : Ctr := ⟨13, [.p (.pair (.bs (.int .u8)) (.pair (.int .i64) (.pair (.int .u64) .unit))), .g (.pair (.int .i64) (.pair (.sl false (.pair (.int .i64) (.pair (.int .i64) .unit))) (.pair (.sl false (.pair (.int .i64) (.pair (.int .i64) .unit))) (.pair (.sl false (.pair (.int .i64) (.pair (.int .i64) .unit))) (.pair (.sl false (.pair (.int .i64) (.pair (.int .i64) .unit))) (.pair (.sl false (.pair (.int .i64) (.pair (.int .i64) .unit))) (.pair (.sl false (.int .i64)) .unit)))))))], [(.pair (.int .i64) (.pair (.sl false (.pair (.int .i64) (.pair (.int .i64) .unit))) (.pair (.sl false (.pair (.int .i64) (.pair (.int .i64) .unit))) (.pair (.sl false (.pair (.int .i64) (.pair (.int .i64) .unit))) (.pair (.sl false (.pair (.int .i64) (.pair (.int .i64) .unit))) (.pair (.sl false (.pair (.int .i64) (.pair (.int .i64) .unit))) (.pair (.sl false (.int .i64)) .unit)))))))], [(.pair (.bs (.int .u8)) (.pair (.int .i64) (.pair (.int .u64) .unit)))], fun n x => spec_l1Cur__oddInterval n x.1 x.2.1⟩
theorem spec_l1Cur__oddInterval.seg_eq : SegEq ty gl spec_l1Cur__oddInterval.F spec_l1Cur__oddInterval.md spec_l1Cur__oddInterval.T spec_l1Cur__oddInterval.spec spec_l1Cur__oddInterval.lb spec_l1Cur__oddInterval.st spec_l1Cur__oddInterval.step := by
  intro n goto y; cases y <;> kernel_rfl
theorem spec_l1Cur__oddInterval.text : Text Go.Proofs.Try.prog spec_l1Cur__oddInterval.F spec_l1Cur__oddInterval.spec := textOf Go.Proofs.Try.f13
theorem spec_l1Cur__oddInterval.ok : CtrOK Go.Proofs.Try.prog gl spec_l1Cur__oddInterval.spec :=
  ctr_okS tabs spec_l1Cur__oddInterval.text spec_l1Cur__oddInterval.seg_eq (fun n x => ⟨.p0 x.1 x.2.1, rfl, rfl, rfl⟩) (consC spec_l1Cur__pick.ok (consC spec_l1Cur__of2.ok (nilC)))

/-! loop.example/g00039/spec.l3Time -/
def spec_l3Time.T : List Ctr := []
def spec_l3Time.md : List (Nat × List Md) := []
noncomputable def spec_l3Time.F : Fun := ⟨(Go.Proofs.Try.f20.body).getD .skip, [.v (.int .i64)], [(.tmp 2, .bool)], [], 0, []⟩
inductive spec_l3Time.Pt where
  | p0 (a0 : Int)
def spec_l3Time.lb : spec_l3Time.Pt → Nat
  | .p0 _ => 0
def spec_l3Time.st : spec_l3Time.Pt → St
  | .p0 a0 => enter [.v (.int .i64) a0] 0
def spec_l3Time.step (n : Nat) (K : spec_l3Time.Pt → Option (Tup [.bool])) : spec_l3Time.Pt → Option (Tup [.bool])
  | .p0 a0 => cond (decide ((0 : Int) ≤ a0)) (some (decide (a0 ≤ (1000000000000 : Int)))) (some false)
def spec_l3Time (n : Nat) (a0 : Int) : Option (Tup [.bool]) := goRec spec_l3Time.step n (.p0 a0)
def spec_l3Time.spec : Ctr := ⟨20, [.v (.int .i64)], [.bool], [], fun n x => spec_l3Time n x.1⟩
theorem spec_l3Time.seg_eq : SegEq ty gl spec_l3Time.F spec_l3Time.md spec_l3Time.T spec_l3Time.spec spec_l3Time.lb spec_l3Time.st spec_l3Time.step := by
  intro n goto y; cases y <;> kernel_rfl
theorem spec_l3Time.text : Text Go.Proofs.Try.prog spec_l3Time.F spec_l3Time.spec := textOf Go.Proofs.Try.f20
theorem spec_l3Time.ok : CtrOK Go.Proofs.Try.prog gl spec_l3Time.spec :=
  ctr_okS tabs spec_l3Time.text spec_l3Time.seg_eq (fun n x => ⟨.p0 x.1, rfl, rfl, rfl⟩) (nilC)

/-! loop.example/g00039/spec.DateOf -/
def spec_DateOf.T : List Ctr := [spec_l19Month.spec, spec_l19Year.spec, spec_l3Time.spec]
def spec_DateOf.md : List (Nat × List Md) := []
noncomputable def spec_DateOf.F : Fun := ⟨(Go.Proofs.Try.f8.body).getD .skip, [.v (.int .i64), .v (.int .i64)], [(.cell 4 32, (.pair (.int .i64) (.pair (.int .i64) (.pair (.int .i64) (.pair (.int .i64) (.pair (.int .i64) (.pair (.int .i64) .unit)))))))], [], 0, [(4, ⟨[0, 1, 4, 25], [], [], false⟩), (19, ⟨[4, 6, 7], [], [], false⟩), (32, ⟨[4, 6, 7], [], [], false⟩)]⟩
inductive spec_DateOf.Pt where
  | p0 (a0 : Int) (a1 : Int)
  | p4 (y1 : Int) (y2 : Int) (y3 : Bool) (y4 : Int) (y5 : Int) (y6 : Int) (y7 : Int) (y8 : Int) (y9 : Int)
  | p19 (y1 : Int) (y2 : Int) (y3 : Int) (y4 : Int) (y5 : Int) (y6 : Int) (y7 : Int) (y8 : Int) (y9 : Int) (y10 : Int) (y11 : Int) (y12 : Int) (y13 : Int)
  | p32 (y1 : Int) (y2 : Int) (y3 : Int) (y4 : Int) (y5 : Int) (y6 : Int) (y7 : Int) (y8 : Int) (y9 : Int) (y10 : Int) (y11 : Int) (y12 : Int) (y13 : Int)
def spec_DateOf.lb : spec_DateOf.Pt → Nat
  | .p0 _ _ => 0
  | .p4 _ _ _ _ _ _ _ _ _ => 4
  | .p19 _ _ _ _ _ _ _ _ _ _ _ _ _ => 19
  | .p32 _ _ _ _ _ _ _ _ _ _ _ _ _ => 32
def spec_DateOf.st : spec_DateOf.Pt → St
  | .p0 a0 a1 => enter [.v (.int .i64) a0, .v (.int .i64) a1] 0
  | .p4 y1 y2 y3 y4 y5 y6 y7 y8 y9 => ⟨[(0, .im (.int .i64) y1), (1, .im (.int .i64) y2), (4, .po 0 0), (25, .im .bool y3)], [(0, .obj [.im (.int .i64) y4, .im (.int .i64) y5, .im (.int .i64) y6, .im (.int .i64) y7, .im (.int .i64) y8, .im (.int .i64) y9])], 1⟩
  | .p19 y1 y2 y3 y4 y5 y6 y7 y8 y9 y10 y11 y12 y13 => ⟨[(4, .po 0 0), (6, .im (.int .i64) y1), (7, .po 1 0)], [(0, .obj [.im (.int .i64) y2, .im (.int .i64) y3, .im (.int .i64) y4, .im (.int .i64) y5, .im (.int .i64) y6, .im (.int .i64) y7]), (1, .obj [.im (.int .i64) y8, .im (.int .i64) y9, .im (.int .i64) y10, .im (.int .i64) y11, .im (.int .i64) y12, .im (.int .i64) y13])], 2⟩
  | .p32 y1 y2 y3 y4 y5 y6 y7 y8 y9 y10 y11 y12 y13 => ⟨[(4, .po 0 0), (6, .im (.int .i64) y1), (7, .po 1 0)], [(0, .obj [.im (.int .i64) y2, .im (.int .i64) y3, .im (.int .i64) y4, .im (.int .i64) y5, .im (.int .i64) y6, .im (.int .i64) y7]), (1, .obj [.im (.int .i64) y8, .im (.int .i64) y9, .im (.int .i64) y10, .im (.int .i64) y11, .im (.int .i64) y12, .im (.int .i64) y13])], 2⟩
def spec_DateOf.step (n : Nat) (K : spec_DateOf.Pt → Option (Tup [(.pair (.int .i64) (.pair (.int .i64) (.pair (.int .i64) (.pair (.int .i64) (.pair (.int .i64) (.pair (.int .i64) .unit))))))])) : spec_DateOf.Pt → Option (Tup [(.pair (.int .i64) (.pair (.int .i64) (.pair (.int .i64) (.pair (.int .i64) (.pair (.int .i64) (.pair (.int .i64) .unit))))))])
  | .p0 a0 a1 => (spec_l3Time n a0).bind fun r5 => cond (!r5) (K (.p4 a0 a1 true (default : Int) (default : Int) (default : Int) (default : Int) (default : Int) (default : Int))) (cond (decide (a1 < (-(1440 : Int)))) (K (.p4 a0 a1 true (default : Int) (default : Int) (default : Int) (default : Int) (default : Int) (default : Int))) (cond (decide ((1440 : Int) < a1)) (K (.p4 a0 a1 true (default : Int) (default : Int) (default : Int) (default : Int) (default : Int) (default : Int))) (K (.p4 a0 a1 (decide ((IntKind.wrap .i64 (a0 + (IntKind.wrap .i64 ((60 : Int) * a1)))) < (0 : Int))) (default : Int) (default : Int) (default : Int) (default : Int) (default : Int) (default : Int)))))
  | .p4 y1 y2 y3 y4 y5 y6 y7 y8 y9 => cond y3 (some (default : (Int) × ((Int) × ((Int) × ((Int) × ((Int) × ((Int) × (Unit)))))))) (K (.p19 (IntKind.wrap .i64 (Int.tdiv (IntKind.wrap .i64 (Int.tdiv (IntKind.wrap .i64 (y1 + (IntKind.wrap .i64 ((60 : Int) * y2)))) (60 : Int))) (1440 : Int))) y4 y5 y6 y7 y8 y9 (1970 : Int) (1 : Int) (default : Int) (default : Int) (Int.tmod (IntKind.wrap .i64 ((IntKind.wrap .i64 (Int.tdiv (IntKind.wrap .i64 (Int.tdiv (IntKind.wrap .i64 (y1 + (IntKind.wrap .i64 ((60 : Int) * y2)))) (60 : Int))) (1440 : Int))) + (4 : Int))) (7 : Int)) (Int.tmod (IntKind.wrap .i64 (Int.tdiv (IntKind.wrap .i64 (y1 + (IntKind.wrap .i64 ((60 : Int) * y2)))) (60 : Int))) (1440 : Int))))
  | .p19 y1 y2 y3 y4 y5 y6 y7 y8 y9 y10 y11 y12 y13 => (spec_l19Year n y8).bind fun (r16 : Int) => cond (decide (r16 ≤ y1)) ((spec_l19Year n y8).bind fun (r17 : Int) => K (.p19 (IntKind.wrap .i64 (y1 - r17)) y2 y3 y4 y5 y6 y7 (IntKind.wrap .i64 (y8 + (1 : Int))) y9 y10 y11 y12 y13)) (K (.p32 y1 y2 y3 y4 y5 y6 y7 y8 y9 y10 y11 y12 y13))
  | .p32 y1 y2 y3 y4 y5 y6 y7 y8 y9 y10 y11 y12 y13 => (spec_l19Month n y8 y9).bind fun (r16 : Int) => cond (decide (r16 ≤ y1)) ((spec_l19Month n y8 y9).bind fun (r17 : Int) => K (.p32 (IntKind.wrap .i64 (y1 - r17)) y2 y3 y4 y5 y6 y7 y8 (IntKind.wrap .i64 (y9 + (1 : Int))) y10 y11 y12 y13)) ((spec_l19Month n y8 y9).bind fun (r17 : Int) => some (y8, (y9, ((IntKind.wrap .i64 (y1 + (1 : Int))), (r17, (y12, (y13, ())))))))
def spec_DateOf (n : Nat) (a0 : Int) (a1 : Int) : Option (Tup [(.pair (.int .i64) (.pair (.int .i64) (.pair (.int .i64) (.pair (.int .i64) (.pair (.int .i64) (.pair (.int .i64) .unit))))))]) := goRec spec_DateOf.step n (.p0 a0 a1)
def spec_DateOf.spec : Ctr := ⟨8, [.v (.int .i64), .v (.int .i64)], [(.pair (.int .i64) (.pair (.int .i64) (.pair (.int .i64) (.pair (.int .i64) (.pair (.int .i64) (.pair (.int .i64) .unit))))))], [], fun n x => spec_DateOf n x.1 x.2.1⟩
theorem spec_DateOf.seg_eq : SegEq ty gl spec_DateOf.F spec_DateOf.md spec_DateOf.T spec_DateOf.spec spec_DateOf.lb spec_DateOf.st spec_DateOf.step := by
  intro n goto y; cases y <;> kernel_rfl
theorem spec_DateOf.text : Text Go.Proofs.Try.prog spec_DateOf.F spec_DateOf.spec := textOf Go.Proofs.Try.f8
theorem spec_DateOf.ok : CtrOK Go.Proofs.Try.prog gl spec_DateOf.spec :=
  ctr_okS tabs spec_DateOf.text spec_DateOf.seg_eq (fun n x => ⟨.p0 x.1 x.2.1, rfl, rfl, rfl⟩) (consC spec_l19Month.ok (consC spec_l19Year.ok (consC spec_l3Time.ok (nilC))))

/-! loop.example/g00039/spec.DrawInInterval -/
def spec_DrawInInterval.T : List Ctr := [spec_l1Cur__one.spec, spec_l1Cur__interval.spec, spec_DayNumber.spec, spec_l1Cur__day.spec, spec_l1Cur__oddInterval.spec, spec_DateOf.spec]
def spec_DrawInInterval.md : List (Nat × List Md) := [(10, [.p (.pair (.bs (.int .u8)) (.pair (.int .i64) (.pair (.int .u64) .unit)))]), (11, [.p (.pair (.bs (.int .u8)) (.pair (.int .i64) (.pair (.int .u64) .unit)))]), (12, [.p (.pair (.bs (.int .u8)) (.pair (.int .i64) (.pair (.int .u64) .unit))), .v]), (13, [.p (.pair (.bs (.int .u8)) (.pair (.int .i64) (.pair (.int .u64) .unit))), .g (.pair (.int .i64) (.pair (.sl false (.pair (.int .i64) (.pair (.int .i64) .unit))) (.pair (.sl false (.pair (.int .i64) (.pair (.int .i64) .unit))) (.pair (.sl false (.pair (.int .i64) (.pair (.int .i64) .unit))) (.pair (.sl false (.pair (.int .i64) (.pair (.int .i64) .unit))) (.pair (.sl false (.pair (.int .i64) (.pair (.int .i64) .unit))) (.pair (.sl false (.int .i64)) .unit)))))))])]
noncomputable def spec_DrawInInterval.F : Fun := ⟨(Go.Proofs.Try.f4.body).getD .skip, [.v (.bs (.int .u8))], [(.cell 2 26, (.pair (.int .i64) (.pair (.sl false (.pair (.int .i64) (.pair (.int .i64) .unit))) (.pair (.sl false (.pair (.int .i64) (.pair (.int .i64) .unit))) (.pair (.sl false (.pair (.int .i64) (.pair (.int .i64) .unit))) (.pair (.sl false (.pair (.int .i64) (.pair (.int .i64) .unit))) (.pair (.sl false (.pair (.int .i64) (.pair (.int .i64) .unit))) (.pair (.sl false (.int .i64)) .unit)))))))), (.tmp 3, (.int .i64))], [], 0, [(9, ⟨[2, 4, 5, 6], [], [(2, 1, (.pair (.int .i64) (.pair (.int .i64) .unit))), (2, 2, (.pair (.int .i64) (.pair (.int .i64) .unit))), (2, 3, (.pair (.int .i64) (.pair (.int .i64) .unit))), (2, 4, (.pair (.int .i64) (.pair (.int .i64) .unit))), (2, 5, (.pair (.int .i64) (.pair (.int .i64) .unit))), (2, 6, (.int .i64)), (5, 1, (.pair (.int .i64) (.pair (.int .i64) .unit))), (5, 2, (.pair (.int .i64) (.pair (.int .i64) .unit))), (5, 3, (.pair (.int .i64) (.pair (.int .i64) .unit))), (5, 4, (.pair (.int .i64) (.pair (.int .i64) .unit))), (5, 5, (.pair (.int .i64) (.pair (.int .i64) .unit))), (5, 6, (.int .i64))], false⟩)]⟩
inductive spec_DrawInInterval.Pt where
  | p0 (a0 : List (Int))
  | p9 (y1 : Int) (y2 : Int) (y3 : List (Int)) (y4 : Int) (y5 : Int) (y6 : Int) (y7 : List ((Int) × ((Int) × (Unit)))) (y8 : List ((Int) × ((Int) × (Unit)))) (y9 : List ((Int) × ((Int) × (Unit)))) (y10 : List ((Int) × ((Int) × (Unit)))) (y11 : List ((Int) × ((Int) × (Unit)))) (y12 : List (Int)) (y13 : List ((Int) × ((Int) × (Unit)))) (y14 : List ((Int) × ((Int) × (Unit)))) (y15 : List ((Int) × ((Int) × (Unit)))) (y16 : List ((Int) × ((Int) × (Unit)))) (y17 : List ((Int) × ((Int) × (Unit)))) (y18 : List (Int))
def spec_DrawInInterval.lb : spec_DrawInInterval.Pt → Nat
  | .p0 _ => 0
  | .p9 _ _ _ _ _ _ _ _ _ _ _ _ _ _ _ _ _ _ => 9
def spec_DrawInInterval.st : spec_DrawInInterval.Pt → St
  | .p0 a0 => enter [.v (.bs (.int .u8)) a0] 0
  | .p9 y1 y2 y3 y4 y5 y6 y7 y8 y9 y10 y11 y12 y13 y14 y15 y16 y17 y18 => ⟨[(2, .po 0 0), (4, .po 1 0), (5, .po 2 0), (6, .im (.int .i64) y1)], [(0, .obj [.im (.int .i64) y2, .hs 3 [] none 0, .hs 4 [] none 0, .hs 5 [] none 0, .hs 6 [] none 0, .hs 7 [] none 0, .hs 8 [] none 0]), (1, .obj [.im (.bs (.int .u8)) y3, .im (.int .i64) y4, .im (.int .u64) y5]), (2, .obj [.im (.int .i64) y6, .hs 9 [] none 0, .hs 10 [] none 0, .hs 11 [] none 0, .hs 12 [] none 0, .hs 13 [] none 0, .hs 14 [] none 0]), (3, .arr true (.pair (.int .i64) (.pair (.int .i64) .unit)) y7 0), (4, .arr true (.pair (.int .i64) (.pair (.int .i64) .unit)) y8 0), (5, .arr true (.pair (.int .i64) (.pair (.int .i64) .unit)) y9 0), (6, .arr true (.pair (.int .i64) (.pair (.int .i64) .unit)) y10 0), (7, .arr true (.pair (.int .i64) (.pair (.int .i64) .unit)) y11 0), (8, .arr true (.int .i64) y12 0), (9, .arr false (.pair (.int .i64) (.pair (.int .i64) .unit)) y13 0), (10, .arr false (.pair (.int .i64) (.pair (.int .i64) .unit)) y14 0), (11, .arr false (.pair (.int .i64) (.pair (.int .i64) .unit)) y15 0), (12, .arr false (.pair (.int .i64) (.pair (.int .i64) .unit)) y16 0), (13, .arr false (.pair (.int .i64) (.pair (.int .i64) .unit)) y17 0), (14, .arr false (.int .i64) y18 0)], 15⟩
def spec_DrawInInterval.step (n : Nat) (K : spec_DrawInInterval.Pt → Option (Tup [(.pair (.int .i64) (.pair (.sl false (.pair (.int .i64) (.pair (.int .i64) .unit))) (.pair (.sl false (.pair (.int .i64) (.pair (.int .i64) .unit))) (.pair (.sl false (.pair (.int .i64) (.pair (.int .i64) .unit))) (.pair (.sl false (.pair (.int .i64) (.pair (.int .i64) .unit))) (.pair (.sl false (.pair (.int .i64) (.pair (.int .i64) .unit))) (.pair (.sl false (.int .i64)) .unit))))))), (.int .i64)])) : spec_DrawInInterval.Pt → Option (Tup [(.pair (.int .i64) (.pair (.sl false (.pair (.int .i64) (.pair (.int .i64) .unit))) (.pair (.sl false (.pair (.int .i64) (.pair (.int .i64) .unit))) (.pair (.sl false (.pair (.int .i64) (.pair (.int .i64) .unit))) (.pair (.sl false (.pair (.int .i64) (.pair (.int .i64) .unit))) (.pair (.sl false (.pair (.int .i64) (.pair (.int .i64) .unit))) (.pair (.sl false (.int .i64)) .unit))))))), (.int .i64)])
  | .p0 a0 => (spec_l1Cur__interval n (a0, (default : (Int) × ((Int) × (Unit))))).bind fun r4 => (spec_l1Cur__day n (r4.2.1, r4.2.2)).bind fun r5 => (spec_l1Cur__one n (r5.2.1, r5.2.2) (8 : Int)).bind fun r6 => cond r6.1 ((spec_l1Cur__oddInterval n (r6.2.1, r6.2.2) r4.1).bind fun r7 => K (.p9 r5.1 (default : Int) r7.2.1 r7.2.2.1 r7.2.2.2.1 r7.1.1 ([] : List ((Int) × ((Int) × (Unit)))) ([] : List ((Int) × ((Int) × (Unit)))) ([] : List ((Int) × ((Int) × (Unit)))) ([] : List ((Int) × ((Int) × (Unit)))) ([] : List ((Int) × ((Int) × (Unit)))) ([] : List (Int)) r7.1.2.1 r7.1.2.2.1 r7.1.2.2.2.1 r7.1.2.2.2.2.1 r7.1.2.2.2.2.2.1 r7.1.2.2.2.2.2.2.1)) (K (.p9 r5.1 (default : Int) r6.2.1 r6.2.2.1 r6.2.2.2.1 r4.1.1 ([] : List ((Int) × ((Int) × (Unit)))) ([] : List ((Int) × ((Int) × (Unit)))) ([] : List ((Int) × ((Int) × (Unit)))) ([] : List ((Int) × ((Int) × (Unit)))) ([] : List ((Int) × ((Int) × (Unit)))) ([] : List (Int)) r4.1.2.1 r4.1.2.2.1 r4.1.2.2.2.1 r4.1.2.2.2.2.1 r4.1.2.2.2.2.2.1 r4.1.2.2.2.2.2.2.1))
  | .p9 y1 y2 y3 y4 y5 y6 y7 y8 y9 y10 y11 y12 y13 y14 y15 y16 y17 y18 => (spec_l1Cur__one n (y3, (y4, (y5, ()))) (6 : Int)).bind fun r21 => cond r21.1 ((spec_DateOf n y1 y6).bind fun r22 => (spec_DayNumber n r22.1 r22.2.1 r22.2.2.1).bind fun (r23 : Int) => some ((y6, (y13, (y14, (y15, (y16, (y17, ([r23], ()))))))), y1)) (some ((y6, (y13, (y14, (y15, (y16, (y17, (y18, ()))))))), y1))
def spec_DrawInInterval (n : Nat) (a0 : List (Int)) : Option (Tup [(.pair (.int .i64) (.pair (.sl false (.pair (.int .i64) (.pair (.int .i64) .unit))) (.pair (.sl false (.pair (.int .i64) (.pair (.int .i64) .unit))) (.pair (.sl false (.pair (.int .i64) (.pair (.int .i64) .unit))) (.pair (.sl false (.pair (.int .i64) (.pair (.int .i64) .unit))) (.pair (.sl false (.pair (.int .i64) (.pair (.int .i64) .unit))) (.pair (.sl false (.int .i64)) .unit))))))), (.int .i64)]) := goRec spec_DrawInInterval.step n (.p0 a0)
def spec_DrawInInterval.spec : Ctr := ⟨4, [.v (.bs (.int .u8))], [(.pair (.int .i64) (.pair (.sl false (.pair (.int .i64) (.pair (.int .i64) .unit))) (.pair (.sl false (.pair (.int .i64) (.pair (.int .i64) .unit))) (.pair (.sl false (.pair (.int .i64) (.pair (.int .i64) .unit))) (.pair (.sl false (.pair (.int .i64) (.pair (.int .i64) .unit))) (.pair (.sl false (.pair (.int .i64) (.pair (.int .i64) .unit))) (.pair (.sl false (.int .i64)) .unit))))))), (.int .i64)], [], fun n x => spec_DrawInInterval n x.1⟩
theorem spec_DrawInInterval.seg_eq : SegEq ty gl spec_DrawInInterval.F spec_DrawInInterval.md spec_DrawInInterval.T spec_DrawInInterval.spec spec_DrawInInterval.lb spec_DrawInInterval.st spec_DrawInInterval.step := by
  intro n goto y; cases y <;> kernel_rfl
theorem spec_DrawInInterval.text : Text Go.Proofs.Try.prog spec_DrawInInterval.F spec_DrawInInterval.spec := textOf Go.Proofs.Try.f4
theorem spec_DrawInInterval.ok : CtrOK Go.Proofs.Try.prog gl spec_DrawInInterval.spec :=
  ctr_okS tabs spec_DrawInInterval.text spec_DrawInInterval.seg_eq (fun n x => ⟨.p0 x.1, rfl, rfl, rfl⟩) (consC spec_l1Cur__one.ok (consC spec_l1Cur__interval.ok (consC spec_DayNumber.ok (consC spec_l1Cur__day.ok (consC spec_l1Cur__oddInterval.ok (consC spec_DateOf.ok (nilC)))))))

/-! loop.example/g00039/impl.goodRanges$1 -/
def impl_goodRanges_1.T : List Ctr := []
def impl_goodRanges_1.md : List (Nat × List Md) := []
noncomputable def impl_goodRanges_1.F : Fun := ⟨(Go.Proofs.Try.f38.body).getD .skip, [.v (.pair (.int .i64) (.pair (.int .i64) .unit)), .q (.int .i64), .q (.int .i64)], [(.tmp 4, .bool)], [], 0, []⟩
inductive impl_goodRanges_1.Pt where
  | p0 (a0 : (Int) × ((Int) × (Unit))) (a1 : Int) (a2 : Int)
def impl_goodRanges_1.lb : impl_goodRanges_1.Pt → Nat
  | .p0 _ _ _ => 0
def impl_goodRanges_1.st : impl_goodRanges_1.Pt → St
  | .p0 a0 a1 a2 => enter [.v (.pair (.int .i64) (.pair (.int .i64) .unit)) a0, .q (.int .i64) a1, .q (.int .i64) a2] 0
def impl_goodRanges_1.step (n : Nat) (K : impl_goodRanges_1.Pt → Option (Tup [.bool])) : impl_goodRanges_1.Pt → Option (Tup [.bool])
  | .p0 a0 a1 a2 => cond (decide (a0.2.1 < a0.1)) (some true) (cond (decide (a0.1 < a1)) (some true) (some (decide (a2 < a0.2.1))))
def impl_goodRanges_1 (n : Nat) (a0 : (Int) × ((Int) × (Unit))) (a1 : Int) (a2 : Int) : Option (Tup [.bool]) := goRec impl_goodRanges_1.step n (.p0 a0 a1 a2)
def impl_goodRanges_1.spec : Ctr := ⟨38, [.v (.pair (.int .i64) (.pair (.int .i64) .unit)), .q (.int .i64), .q (.int .i64)], [.bool], [], fun n x => impl_goodRanges_1 n x.1 x.2.1 x.2.2.1⟩
theorem impl_goodRanges_1.seg_eq : SegEq ty gl impl_goodRanges_1.F impl_goodRanges_1.md impl_goodRanges_1.T impl_goodRanges_1.spec impl_goodRanges_1.lb impl_goodRanges_1.st impl_goodRanges_1.step := by
  intro n goto y; cases y <;> kernel_rfl
theorem impl_goodRanges_1.text : Text Go.Proofs.Try.prog impl_goodRanges_1.F impl_goodRanges_1.spec := textOf Go.Proofs.Try.f38
theorem impl_goodRanges_1.ok : CtrOK Go.Proofs.Try.prog gl impl_goodRanges_1.spec :=
  ctr_okS tabs impl_goodRanges_1.text impl_goodRanges_1.seg_eq (fun n x => ⟨.p0 x.1 x.2.1 x.2.2.1, rfl, rfl, rfl⟩) (nilC)

/-! slices.IndexFunc[[]loop.example/g00039/impl.Range,loop.example/g00039/impl.Range] -/
def slices_IndexFunc_Range_impl_goodRanges_1.T : List Ctr := [impl_goodRanges_1.spec]
def slices_IndexFunc_Range_impl_goodRanges_1.md : List (Nat × List Md) := [(38, [.v, .q (.int .i64), .q (.int .i64)]), (1000038, [.q (.int .i64), .q (.int .i64)])]
noncomputable def slices_IndexFunc_Range_impl_goodRanges_1.F : Fun := ⟨(Go.Proofs.Try.f40.body).getD .skip, [.v (.sl false (.pair (.int .i64) (.pair (.int .i64) .unit))), .fn 38 [.q (.int .i64), .q (.int .i64)]], [(.tmp 4, (.int .i64))], [], 0, [(7, ⟨[0, 1, 7, 8], [], [], false⟩)]⟩
inductive slices_IndexFunc_Range_impl_goodRanges_1.Pt where
  | p0 (a0 : List ((Int) × ((Int) × (Unit)))) (a1 : Int) (a2 : Int)
  | p7 (y1 : List ((Int) × ((Int) × (Unit)))) (y2 : Int) (y3 : Int) (y4 : Int) (y5 : Int)
def slices_IndexFunc_Range_impl_goodRanges_1.lb : slices_IndexFunc_Range_impl_goodRanges_1.Pt → Nat
  | .p0 _ _ _ => 0
  | .p7 _ _ _ _ _ => 7
def slices_IndexFunc_Range_impl_goodRanges_1.st : slices_IndexFunc_Range_impl_goodRanges_1.Pt → St
  | .p0 a0 a1 a2 => enter [.v (.sl false (.pair (.int .i64) (.pair (.int .i64) .unit))) a0, .fn 38 [.q (.int .i64) a1, .q (.int .i64) a2]] 0
  | .p7 y1 y2 y3 y4 y5 => ⟨[(0, .im (.sl false (.pair (.int .i64) (.pair (.int .i64) .unit))) y1), (1, .fn 38 [.po 0 0, .po 1 0]), (7, .im (.int .i64) y2), (8, .im (.int .i64) y3)], [(0, .imm (.int .i64) y4), (1, .imm (.int .i64) y5)], 2⟩
def slices_IndexFunc_Range_impl_goodRanges_1.step (n : Nat) (K : slices_IndexFunc_Range_impl_goodRanges_1.Pt → Option (Tup [(.int .i64)])) : slices_IndexFunc_Range_impl_goodRanges_1.Pt → Option (Tup [(.int .i64)])
  | .p0 a0 a1 a2 => K (.p7 a0 ((List.length a0) : Int) (0 : Int) a1 a2)
  | .p7 y1 y2 y3 y4 y5 => cond (decide (y3 < y2)) (cond (inB y3 (List.length y1)) ((impl_goodRanges_1 n (List.getD y1 (Int.toNat y3) default) (List.getD [y4] 0 default) (List.getD [y5] 0 default)).bind fun r8 => cond r8 (some y3) (K (.p7 y1 y2 (IntKind.wrap .i64 (y3 + (1 : Int))) y4 y5))) (none)) (some (-(1 : Int)))
def slices_IndexFunc_Range_impl_goodRanges_1 (n : Nat) (a0 : List ((Int) × ((Int) × (Unit)))) (a1 : Int) (a2 : Int) : Option (Tup [(.int .i64)]) := goRec slices_IndexFunc_Range_impl_goodRanges_1.step n (.p0 a0 a1 a2)
def slices_IndexFunc_Range_impl_goodRanges_1.spec : Ctr := ⟨40, [.v (.sl false (.pair (.int .i64) (.pair (.int .i64) .unit))), .fn 38 [.q (.int .i64), .q (.int .i64)]], [(.int .i64)], [], fun n x => slices_IndexFunc_Range_impl_goodRanges_1 n x.1 x.2.1.1 x.2.1.2.1⟩
theorem slices_IndexFunc_Range_impl_goodRanges_1.seg_eq : SegEq ty gl slices_IndexFunc_Range_impl_goodRanges_1.F slices_IndexFunc_Range_impl_goodRanges_1.md slices_IndexFunc_Range_impl_goodRanges_1.T slices_IndexFunc_Range_impl_goodRanges_1.spec slices_IndexFunc_Range_impl_goodRanges_1.lb slices_IndexFunc_Range_impl_goodRanges_1.st slices_IndexFunc_Range_impl_goodRanges_1.step := by
  intro n goto y; cases y <;> kernel_rfl
theorem slices_IndexFunc_Range_impl_goodRanges_1.text : Text Go.Proofs.Try.prog slices_IndexFunc_Range_impl_goodRanges_1.F slices_IndexFunc_Range_impl_goodRanges_1.spec := textOf Go.Proofs.Try.f40
theorem slices_IndexFunc_Range_impl_goodRanges_1.ok : CtrOK Go.Proofs.Try.prog gl slices_IndexFunc_Range_impl_goodRanges_1.spec :=
  ctr_okS tabs slices_IndexFunc_Range_impl_goodRanges_1.text slices_IndexFunc_Range_impl_goodRanges_1.seg_eq (fun n x => ⟨.p0 x.1 x.2.1.1 x.2.1.2.1, rfl, rfl, rfl⟩) (consC impl_goodRanges_1.ok (nilC))

/-! slices.ContainsFunc[[]loop.example/g00039/impl.Range,loop.example/g00039/impl.Range] -/
def slices_ContainsFunc_Range_impl_goodRanges_1.T : List Ctr := [slices_IndexFunc_Range_impl_goodRanges_1.spec]
def slices_ContainsFunc_Range_impl_goodRanges_1.md : List (Nat × List Md) := [(40, [.v, .fn]), (38, [.v, .q (.int .i64), .q (.int .i64)]), (1000038, [.q (.int .i64), .q (.int .i64)])]
noncomputable def slices_ContainsFunc_Range_impl_goodRanges_1.F : Fun := ⟨(Go.Proofs.Try.f37.body).getD .skip, [.v (.sl false (.pair (.int .i64) (.pair (.int .i64) .unit))), .fn 38 [.q (.int .i64), .q (.int .i64)]], [(.tmp 4, .bool)], [], 0, []⟩
inductive slices_ContainsFunc_Range_impl_goodRanges_1.Pt where
  | p0 (a0 : List ((Int) × ((Int) × (Unit)))) (a1 : Int) (a2 : Int)
def slices_ContainsFunc_Range_impl_goodRanges_1.lb : slices_ContainsFunc_Range_impl_goodRanges_1.Pt → Nat
  | .p0 _ _ _ => 0
def slices_ContainsFunc_Range_impl_goodRanges_1.st : slices_ContainsFunc_Range_impl_goodRanges_1.Pt → St
  | .p0 a0 a1 a2 => enter [.v (.sl false (.pair (.int .i64) (.pair (.int .i64) .unit))) a0, .fn 38 [.q (.int .i64) a1, .q (.int .i64) a2]] 0
def slices_ContainsFunc_Range_impl_goodRanges_1.step (n : Nat) (K : slices_ContainsFunc_Range_impl_goodRanges_1.Pt → Option (Tup [.bool])) : slices_ContainsFunc_Range_impl_goodRanges_1.Pt → Option (Tup [.bool])
  | .p0 a0 a1 a2 => (slices_IndexFunc_Range_impl_goodRanges_1 n a0 (List.getD [a1] 0 default) (List.getD [a2] 0 default)).bind fun (r6 : Int) => some (decide ((0 : Int) ≤ r6))
def slices_ContainsFunc_Range_impl_goodRanges_1 (n : Nat) (a0 : List ((Int) × ((Int) × (Unit)))) (a1 : Int) (a2 : Int) : Option (Tup [.bool]) := goRec slices_ContainsFunc_Range_impl_goodRanges_1.step n (.p0 a0 a1 a2)
def slices_ContainsFunc_Range_impl_goodRanges_1.spec : Ctr := ⟨37, [.v (.sl false (.pair (.int .i64) (.pair (.int .i64) .unit))), .fn 38 [.q (.int .i64), .q (.int .i64)]], [.bool], [], fun n x => slices_ContainsFunc_Range_impl_goodRanges_1 n x.1 x.2.1.1 x.2.1.2.1⟩
theorem slices_ContainsFunc_Range_impl_goodRanges_1.seg_eq : SegEq ty gl slices_ContainsFunc_Range_impl_goodRanges_1.F slices_ContainsFunc_Range_impl_goodRanges_1.md slices_ContainsFunc_Range_impl_goodRanges_1.T slices_ContainsFunc_Range_impl_goodRanges_1.spec slices_ContainsFunc_Range_impl_goodRanges_1.lb slices_ContainsFunc_Range_impl_goodRanges_1.st slices_ContainsFunc_Range_impl_goodRanges_1.step := by
  intro n goto y; cases y <;> kernel_rfl
theorem slices_ContainsFunc_Range_impl_goodRanges_1.text : Text Go.Proofs.Try.prog slices_ContainsFunc_Range_impl_goodRanges_1.F slices_ContainsFunc_Range_impl_goodRanges_1.spec := textOf Go.Proofs.Try.f37
theorem slices_ContainsFunc_Range_impl_goodRanges_1.ok : CtrOK Go.Proofs.Try.prog gl slices_ContainsFunc_Range_impl_goodRanges_1.spec :=
  ctr_okS tabs slices_ContainsFunc_Range_impl_goodRanges_1.text slices_ContainsFunc_Range_impl_goodRanges_1.seg_eq (fun n x => ⟨.p0 x.1 x.2.1.1 x.2.1.2.1, rfl, rfl, rfl⟩) (consC slices_IndexFunc_Range_impl_goodRanges_1.ok (nilC))

/-! loop.example/g00039/impl.goodRanges -/
def impl_goodRanges.T : List Ctr := [impl_goodRanges_1.spec, slices_ContainsFunc_Range_impl_goodRanges_1.spec]
def impl_goodRanges.md : List (Nat × List Md) := [(38, [.v, .q (.int .i64), .q (.int .i64)]), (1000038, [.q (.int .i64), .q (.int .i64)]), (37, [.v, .fn])]
noncomputable def impl_goodRanges.F : Fun := ⟨(Go.Proofs.Try.f30.body).getD .skip, [.v (.sl false (.pair (.int .i64) (.pair (.int .i64) .unit))), .v (.int .i64), .v (.int .i64)], [(.tmp 6, .bool)], [], 0, []⟩
inductive impl_goodRanges.Pt where
  | p0 (a0 : List ((Int) × ((Int) × (Unit)))) (a1 : Int) (a2 : Int)
def impl_goodRanges.lb : impl_goodRanges.Pt → Nat
  | .p0 _ _ _ => 0
def impl_goodRanges.st : impl_goodRanges.Pt → St
  | .p0 a0 a1 a2 => enter [.v (.sl false (.pair (.int .i64) (.pair (.int .i64) .unit))) a0, .v (.int .i64) a1, .v (.int .i64) a2] 0
def impl_goodRanges.step (n : Nat) (K : impl_goodRanges.Pt → Option (Tup [.bool])) : impl_goodRanges.Pt → Option (Tup [.bool])
  | .p0 a0 a1 a2 => cond (decide (((List.length a0) : Int) ≤ (10 : Int))) ((slices_ContainsFunc_Range_impl_goodRanges_1 n a0 a1 a2).bind fun r6 => some (!r6)) (some false)
def impl_goodRanges (n : Nat) (a0 : List ((Int) × ((Int) × (Unit)))) (a1 : Int) (a2 : Int) : Option (Tup [.bool]) := goRec impl_goodRanges.step n (.p0 a0 a1 a2)
def impl_goodRanges.spec : Ctr := ⟨30, [.v (.sl false (.pair (.int .i64) (.pair (.int .i64) .unit))), .v (.int .i64), .v (.int .i64)], [.bool], [], fun n x => impl_goodRanges n x.1 x.2.1 x.2.2.1⟩
theorem impl_goodRanges.seg_eq : SegEq ty gl impl_goodRanges.F impl_goodRanges.md impl_goodRanges.T impl_goodRanges.spec impl_goodRanges.lb impl_goodRanges.st impl_goodRanges.step := by
  intro n goto y; cases y <;> kernel_rfl
theorem impl_goodRanges.text : Text Go.Proofs.Try.prog impl_goodRanges.F impl_goodRanges.spec := textOf Go.Proofs.Try.f30
theorem impl_goodRanges.ok : CtrOK Go.Proofs.Try.prog gl impl_goodRanges.spec :=
  ctr_okS tabs impl_goodRanges.text impl_goodRanges.seg_eq (fun n x => ⟨.p0 x.1 x.2.1 x.2.2.1, rfl, rfl, rfl⟩) (consC impl_goodRanges_1.ok (consC slices_ContainsFunc_Range_impl_goodRanges_1.ok (nilC)))

/-! loop.example/g00039/impl.rising[int] -/
def impl_rising_int.T : List Ctr := []
def impl_rising_int.md : List (Nat × List Md) := []
noncomputable def impl_rising_int.F : Fun := ⟨(Go.Proofs.Try.f31.body).getD .skip, [.v (.sl false (.int .i64))], [(.tmp 2, .bool)], [], 0, [(7, ⟨[0, 3], [], [], false⟩)]⟩
inductive impl_rising_int.Pt where
  | p0 (a0 : List (Int))
  | p7 (y1 : List (Int)) (y2 : Int)
def impl_rising_int.lb : impl_rising_int.Pt → Nat
  | .p0 _ => 0
  | .p7 _ _ => 7
def impl_rising_int.st : impl_rising_int.Pt → St
  | .p0 a0 => enter [.v (.sl false (.int .i64)) a0] 0
  | .p7 y1 y2 => ⟨[(0, .im (.sl false (.int .i64)) y1), (3, .im (.int .i64) y2)], [], 0⟩
def impl_rising_int.step (n : Nat) (K : impl_rising_int.Pt → Option (Tup [.bool])) : impl_rising_int.Pt → Option (Tup [.bool])
  | .p0 a0 => K (.p7 a0 (1 : Int))
  | .p7 y1 y2 => cond (decide (y2 < ((List.length y1) : Int))) (cond (inB (IntKind.wrap .i64 (y2 - (1 : Int))) (List.length y1)) (cond (inB y2 (List.length y1)) (cond (decide ((List.getD y1 (Int.toNat y2) default) ≤ (List.getD y1 (Int.toNat (IntKind.wrap .i64 (y2 - (1 : Int)))) default))) (some false) (K (.p7 y1 (IntKind.wrap .i64 (y2 + (1 : Int)))))) (none)) (none)) (some true)
def impl_rising_int (n : Nat) (a0 : List (Int)) : Option (Tup [.bool]) := goRec impl_rising_int.step n (.p0 a0)
def impl_rising_int.spec : Ctr := ⟨31, [.v (.sl false (.int .i64))], [.bool], [], fun n x => impl_rising_int n x.1⟩
theorem impl_rising_int.seg_eq : SegEq ty gl impl_rising_int.F impl_rising_int.md impl_rising_int.T impl_rising_int.spec impl_rising_int.lb impl_rising_int.st impl_rising_int.step := by
  intro n goto y; cases y <;> kernel_rfl
theorem impl_rising_int.text : Text Go.Proofs.Try.prog impl_rising_int.F impl_rising_int.spec := textOf Go.Proofs.Try.f31
theorem impl_rising_int.ok : CtrOK Go.Proofs.Try.prog gl impl_rising_int.spec :=
  ctr_okS tabs impl_rising_int.text impl_rising_int.seg_eq (fun n x => ⟨.p0 x.1, rfl, rfl, rfl⟩) (nilC)

/-! loop.example/g00039/impl.GoodInterval -/
def impl_GoodInterval.T : List Ctr := [impl_goodRanges.spec, impl_rising_int.spec]
def impl_GoodInterval.md : List (Nat × List Md) := []
noncomputable def impl_GoodInterval.F : Fun := ⟨(Go.Proofs.Try.f14.body).getD .skip, [.v (.pair (.int .i64) (.pair (.sl false (.pair (.int .i64) (.pair (.int .i64) .unit))) (.pair (.sl false (.pair (.int .i64) (.pair (.int .i64) .unit))) (.pair (.sl false (.pair (.int .i64) (.pair (.int .i64) .unit))) (.pair (.sl false (.pair (.int .i64) (.pair (.int .i64) .unit))) (.pair (.sl false (.pair (.int .i64) (.pair (.int .i64) .unit))) (.pair (.sl false (.int .i64)) .unit)))))))], [(.tmp 2, .bool)], [], 0, [(3, ⟨[1, 3], [], [(1, 1, (.pair (.int .i64) (.pair (.int .i64) .unit))), (1, 2, (.pair (.int .i64) (.pair (.int .i64) .unit))), (1, 3, (.pair (.int .i64) (.pair (.int .i64) .unit))), (1, 4, (.pair (.int .i64) (.pair (.int .i64) .unit))), (1, 5, (.pair (.int .i64) (.pair (.int .i64) .unit))), (1, 6, (.int .i64))], false⟩), (9, ⟨[1, 3, 53, 54, 55], [(53, (.pair (.int .i64) (.pair (.int .i64) .unit)))], [(1, 1, (.pair (.int .i64) (.pair (.int .i64) .unit))), (1, 2, (.pair (.int .i64) (.pair (.int .i64) .unit))), (1, 3, (.pair (.int .i64) (.pair (.int .i64) .unit))), (1, 4, (.pair (.int .i64) (.pair (.int .i64) .unit))), (1, 5, (.pair (.int .i64) (.pair (.int .i64) .unit))), (1, 6, (.int .i64))], false⟩), (26, ⟨[3, 72, 73, 74], [(72, (.int .i64))], [], false⟩)]⟩
inductive impl_GoodInterval.Pt where
  | p0 (a0 : (Int) × ((List ((Int) × ((Int) × (Unit)))) × ((List ((Int) × ((Int) × (Unit)))) × ((List ((Int) × ((Int) × (Unit)))) × ((List ((Int) × ((Int) × (Unit)))) × ((List ((Int) × ((Int) × (Unit)))) × ((List (Int)) × (Unit))))))))
  | p3 (y1 : Bool) (y2 : Int) (y3 : List ((Int) × ((Int) × (Unit)))) (y4 : List ((Int) × ((Int) × (Unit)))) (y5 : List ((Int) × ((Int) × (Unit)))) (y6 : List ((Int) × ((Int) × (Unit)))) (y7 : List ((Int) × ((Int) × (Unit)))) (y8 : List (Int))
  | p9 (y1 : Bool) (y2 : List ((Int) × ((Int) × (Unit)))) (y3 : Int) (y4 : Int) (y5 : Int) (y6 : List ((Int) × ((Int) × (Unit)))) (y7 : List ((Int) × ((Int) × (Unit)))) (y8 : List ((Int) × ((Int) × (Unit)))) (y9 : List ((Int) × ((Int) × (Unit)))) (y10 : List ((Int) × ((Int) × (Unit)))) (y11 : List (Int))
  | p26 (y1 : Bool) (y2 : List (Int)) (y3 : Int) (y4 : Int)
def impl_GoodInterval.lb : impl_GoodInterval.Pt → Nat
  | .p0 _ => 0
  | .p3 _ _ _ _ _ _ _ _ => 3
  | .p9 _ _ _ _ _ _ _ _ _ _ _ => 9
  | .p26 _ _ _ _ => 26
def impl_GoodInterval.st : impl_GoodInterval.Pt → St
  | .p0 a0 => enter [.v (.pair (.int .i64) (.pair (.sl false (.pair (.int .i64) (.pair (.int .i64) .unit))) (.pair (.sl false (.pair (.int .i64) (.pair (.int .i64) .unit))) (.pair (.sl false (.pair (.int .i64) (.pair (.int .i64) .unit))) (.pair (.sl false (.pair (.int .i64) (.pair (.int .i64) .unit))) (.pair (.sl false (.pair (.int .i64) (.pair (.int .i64) .unit))) (.pair (.sl false (.int .i64)) .unit))))))) a0] 0
  | .p3 y1 y2 y3 y4 y5 y6 y7 y8 => ⟨[(1, .po 0 0), (3, .im .bool y1)], [(0, .obj [.im (.int .i64) y2, .im (.sl false (.pair (.int .i64) (.pair (.int .i64) .unit))) y3, .im (.sl false (.pair (.int .i64) (.pair (.int .i64) .unit))) y4, .im (.sl false (.pair (.int .i64) (.pair (.int .i64) .unit))) y5, .im (.sl false (.pair (.int .i64) (.pair (.int .i64) .unit))) y6, .im (.sl false (.pair (.int .i64) (.pair (.int .i64) .unit))) y7, .im (.sl false (.int .i64)) y8])], 1⟩
  | .p9 y1 y2 y3 y4 y5 y6 y7 y8 y9 y10 y11 => ⟨[(1, .po 0 0), (3, .im .bool y1), (53, .im (.sl false (.pair (.int .i64) (.pair (.int .i64) .unit))) y2), (54, .im (.int .i64) y3), (55, .im (.int .i64) y4)], [(0, .obj [.im (.int .i64) y5, .im (.sl false (.pair (.int .i64) (.pair (.int .i64) .unit))) y6, .im (.sl false (.pair (.int .i64) (.pair (.int .i64) .unit))) y7, .im (.sl false (.pair (.int .i64) (.pair (.int .i64) .unit))) y8, .im (.sl false (.pair (.int .i64) (.pair (.int .i64) .unit))) y9, .im (.sl false (.pair (.int .i64) (.pair (.int .i64) .unit))) y10, .im (.sl false (.int .i64)) y11])], 1⟩
  | .p26 y1 y2 y3 y4 => ⟨[(3, .im .bool y1), (72, .im (.sl false (.int .i64)) y2), (73, .im (.int .i64) y3), (74, .im (.int .i64) y4)], [], 0⟩
def impl_GoodInterval.step (n : Nat) (K : impl_GoodInterval.Pt → Option (Tup [.bool])) : impl_GoodInterval.Pt → Option (Tup [.bool])
  | .p0 a0 => cond (decide ((-(1440 : Int)) ≤ a0.1)) (cond (decide (a0.1 ≤ (1440 : Int))) ((impl_goodRanges n a0.2.1 (0 : Int) (1439 : Int)).bind fun r4 => cond r4 ((impl_goodRanges n a0.2.2.1 (0 : Int) (6 : Int)).bind fun r5 => cond r5 ((impl_goodRanges n a0.2.2.2.1 (-(31 : Int)) (31 : Int)).bind fun r6 => cond r6 ((impl_goodRanges n a0.2.2.2.2.1 (1 : Int) (12 : Int)).bind fun r7 => cond r7 ((impl_goodRanges n a0.2.2.2.2.2.1 (1970 : Int) (40000 : Int)).bind fun r8 => cond r8 (cond (decide (((List.length a0.2.2.2.2.2.2.1) : Int) ≤ (10 : Int))) ((impl_rising_int n a0.2.2.2.2.2.2.1).bind fun r9 => K (.p3 r9 a0.1 a0.2.1 a0.2.2.1 a0.2.2.2.1 a0.2.2.2.2.1 a0.2.2.2.2.2.1 a0.2.2.2.2.2.2.1)) (K (.p3 false a0.1 a0.2.1 a0.2.2.1 a0.2.2.2.1 a0.2.2.2.2.1 a0.2.2.2.2.2.1 a0.2.2.2.2.2.2.1))) (K (.p3 false a0.1 a0.2.1 a0.2.2.1 a0.2.2.2.1 a0.2.2.2.2.1 a0.2.2.2.2.2.1 a0.2.2.2.2.2.2.1))) (K (.p3 false a0.1 a0.2.1 a0.2.2.1 a0.2.2.2.1 a0.2.2.2.2.1 a0.2.2.2.2.2.1 a0.2.2.2.2.2.2.1))) (K (.p3 false a0.1 a0.2.1 a0.2.2.1 a0.2.2.2.1 a0.2.2.2.2.1 a0.2.2.2.2.2.1 a0.2.2.2.2.2.2.1))) (K (.p3 false a0.1 a0.2.1 a0.2.2.1 a0.2.2.2.1 a0.2.2.2.2.1 a0.2.2.2.2.2.1 a0.2.2.2.2.2.2.1))) (K (.p3 false a0.1 a0.2.1 a0.2.2.1 a0.2.2.2.1 a0.2.2.2.2.1 a0.2.2.2.2.2.1 a0.2.2.2.2.2.2.1))) (K (.p3 false a0.1 a0.2.1 a0.2.2.1 a0.2.2.2.1 a0.2.2.2.2.1 a0.2.2.2.2.2.1 a0.2.2.2.2.2.2.1))) (K (.p3 false a0.1 a0.2.1 a0.2.2.1 a0.2.2.2.1 a0.2.2.2.2.1 a0.2.2.2.2.2.1 a0.2.2.2.2.2.2.1))
  | .p3 y1 y2 y3 y4 y5 y6 y7 y8 => K (.p9 y1 y5 ((List.length y5) : Int) (0 : Int) y2 y3 y4 y5 y6 y7 y8)
  | .p9 y1 y2 y3 y4 y5 y6 y7 y8 y9 y10 y11 => cond (decide (y4 < y3)) (cond (inB y4 (List.length y2)) (cond y1 (cond (decide ((0 : Int) < (List.getD y2 (Int.toNat y4) default).1)) (K (.p9 true y2 y3 (IntKind.wrap .i64 (y4 + (1 : Int))) y5 y6 y7 y8 y9 y10 y11)) (K (.p9 (decide ((List.getD y2 (Int.toNat y4) default).2.1 < (0 : Int))) y2 y3 (IntKind.wrap .i64 (y4 + (1 : Int))) y5 y6 y7 y8 y9 y10 y11))) (K (.p9 false y2 y3 (IntKind.wrap .i64 (y4 + (1 : Int))) y5 y6 y7 y8 y9 y10 y11))) (none)) (K (.p26 y1 y11 ((List.length y11) : Int) (0 : Int)))
  | .p26 y1 y2 y3 y4 => cond (decide (y4 < y3)) (cond (inB y4 (List.length y2)) (cond y1 (cond (decide ((0 : Int) ≤ (List.getD y2 (Int.toNat y4) default))) (K (.p26 (decide ((List.getD y2 (Int.toNat y4) default) ≤ (20000000 : Int))) y2 y3 (IntKind.wrap .i64 (y4 + (1 : Int))))) (K (.p26 false y2 y3 (IntKind.wrap .i64 (y4 + (1 : Int)))))) (K (.p26 false y2 y3 (IntKind.wrap .i64 (y4 + (1 : Int)))))) (none)) (some y1)
def impl_GoodInterval (n : Nat) (a0 : (Int) × ((List ((Int) × ((Int) × (Unit)))) × ((List ((Int) × ((Int) × (Unit)))) × ((List ((Int) × ((Int) × (Unit)))) × ((List ((Int) × ((Int) × (Unit)))) × ((List ((Int) × ((Int) × (Unit)))) × ((List (Int)) × (Unit)))))))) : Option (Tup [.bool]) := goRec impl_GoodInterval.step n (.p0 a0)
def impl_GoodInterval.spec : Ctr := ⟨14, [.v (.pair (.int .i64) (.pair (.sl false (.pair (.int .i64) (.pair (.int .i64) .unit))) (.pair (.sl false (.pair (.int .i64) (.pair (.int .i64) .unit))) (.pair (.sl false (.pair (.int .i64) (.pair (.int .i64) .unit))) (.pair (.sl false (.pair (.int .i64) (.pair (.int .i64) .unit))) (.pair (.sl false (.pair (.int .i64) (.pair (.int .i64) .unit))) (.pair (.sl false (.int .i64)) .unit)))))))], [.bool], [], fun n x => impl_GoodInterval n x.1⟩
theorem impl_GoodInterval.seg_eq : SegEq ty gl impl_GoodInterval.F impl_GoodInterval.md impl_GoodInterval.T impl_GoodInterval.spec impl_GoodInterval.lb impl_GoodInterval.st impl_GoodInterval.step := by
  intro n goto y; cases y <;> kernel_rfl
theorem impl_GoodInterval.text : Text Go.Proofs.Try.prog impl_GoodInterval.F impl_GoodInterval.spec := textOf Go.Proofs.Try.f14
theorem impl_GoodInterval.ok : CtrOK Go.Proofs.Try.prog gl impl_GoodInterval.spec :=
  ctr_okS tabs impl_GoodInterval.text impl_GoodInterval.seg_eq (fun n x => ⟨.p0 x.1, rfl, rfl, rfl⟩) (consC impl_goodRanges.ok (consC impl_rising_int.ok (nilC)))

/-! loop.example/g00039/impl.isTime -/
def impl_isTime.T : List Ctr := []
def impl_isTime.md : List (Nat × List Md) := []
noncomputable def impl_isTime.F : Fun := ⟨(Go.Proofs.Try.f15.body).getD .skip, [.v (.int .i64)], [(.tmp 2, .bool)], [], 0, []⟩
inductive impl_isTime.Pt where
  | p0 (a0 : Int)
def impl_isTime.lb : impl_isTime.Pt → Nat
  | .p0 _ => 0
def impl_isTime.st : impl_isTime.Pt → St
  | .p0 a0 => enter [.v (.int .i64) a0] 0
def impl_isTime.step (n : Nat) (K : impl_isTime.Pt → Option (Tup [.bool])) : impl_isTime.Pt → Option (Tup [.bool])
  | .p0 a0 => cond (decide ((0 : Int) ≤ a0)) (some (decide (a0 ≤ (1000000000000 : Int)))) (some false)
def impl_isTime (n : Nat) (a0 : Int) : Option (Tup [.bool]) := goRec impl_isTime.step n (.p0 a0)
def impl_isTime.spec : Ctr := ⟨15, [.v (.int .i64)], [.bool], [], fun n x => impl_isTime n x.1⟩
theorem impl_isTime.seg_eq : SegEq ty gl impl_isTime.F impl_isTime.md impl_isTime.T impl_isTime.spec impl_isTime.lb impl_isTime.st impl_isTime.step := by
  intro n goto y; cases y <;> kernel_rfl
theorem impl_isTime.text : Text Go.Proofs.Try.prog impl_isTime.F impl_isTime.spec := textOf Go.Proofs.Try.f15
theorem impl_isTime.ok : CtrOK Go.Proofs.Try.prog gl impl_isTime.spec :=
  ctr_okS tabs impl_isTime.text impl_isTime.seg_eq (fun n x => ⟨.p0 x.1, rfl, rfl, rfl⟩) (nilC)

/-! loop.example/g00039/impl.daysTo -/
def impl_daysTo.T : List Ctr := []
def impl_daysTo.md : List (Nat × List Md) := []
noncomputable def impl_daysTo.F : Fun := ⟨(Go.Proofs.Try.f32.body).getD .skip, [.v (.int .i64)], [(.tmp 2, (.int .i64))], [], 0, []⟩
inductive impl_daysTo.Pt where
  | p0 (a0 : Int)
def impl_daysTo.lb : impl_daysTo.Pt → Nat
  | .p0 _ => 0
def impl_daysTo.st : impl_daysTo.Pt → St
  | .p0 a0 => enter [.v (.int .i64) a0] 0
def impl_daysTo.step (n : Nat) (K : impl_daysTo.Pt → Option (Tup [(.int .i64)])) : impl_daysTo.Pt → Option (Tup [(.int .i64)])
  | .p0 a0 => some (IntKind.wrap .i64 ((IntKind.wrap .i64 ((IntKind.wrap .i64 ((IntKind.wrap .i64 (a0 - (1970 : Int))) * (365 : Int))) + (IntKind.wrap .i64 ((IntKind.wrap .i64 ((IntKind.wrap .i64 (Int.tdiv (IntKind.wrap .i64 (a0 - (1 : Int))) (4 : Int))) - (IntKind.wrap .i64 (Int.tdiv (IntKind.wrap .i64 (a0 - (1 : Int))) (100 : Int))))) + (IntKind.wrap .i64 (Int.tdiv (IntKind.wrap .i64 (a0 - (1 : Int))) (400 : Int))))))) - (477 : Int)))
def impl_daysTo (n : Nat) (a0 : Int) : Option (Tup [(.int .i64)]) := goRec impl_daysTo.step n (.p0 a0)
def impl_daysTo.spec : Ctr := ⟨32, [.v (.int .i64)], [(.int .i64)], [], fun n x => impl_daysTo n x.1⟩
theorem impl_daysTo.seg_eq : SegEq ty gl impl_daysTo.F impl_daysTo.md impl_daysTo.T impl_daysTo.spec impl_daysTo.lb impl_daysTo.st impl_daysTo.step := by
  intro n goto y; cases y <;> kernel_rfl
theorem impl_daysTo.text : Text Go.Proofs.Try.prog impl_daysTo.F impl_daysTo.spec := textOf Go.Proofs.Try.f32
theorem impl_daysTo.ok : CtrOK Go.Proofs.Try.prog gl impl_daysTo.spec :=
  ctr_okS tabs impl_daysTo.text impl_daysTo.seg_eq (fun n x => ⟨.p0 x.1, rfl, rfl, rfl⟩) (nilC)

/-! loop.example/g00039/impl.leap -/
def impl_leap.T : List Ctr := []
def impl_leap.md : List (Nat × List Md) := []
noncomputable def impl_leap.F : Fun := ⟨(Go.Proofs.Try.f39.body).getD .skip, [.v (.int .i64)], [(.tmp 2, .bool)], [], 0, []⟩
inductive impl_leap.Pt where
  | p0 (a0 : Int)
def impl_leap.lb : impl_leap.Pt → Nat
  | .p0 _ => 0
def impl_leap.st : impl_leap.Pt → St
  | .p0 a0 => enter [.v (.int .i64) a0] 0
def impl_leap.step (n : Nat) (K : impl_leap.Pt → Option (Tup [.bool])) : impl_leap.Pt → Option (Tup [.bool])
  | .p0 a0 => cond (decide ((Int.tmod a0 (4 : Int)) = (0 : Int))) (cond (!(decide ((Int.tmod a0 (100 : Int)) = (0 : Int)))) (some true) (some (decide ((Int.tmod a0 (400 : Int)) = (0 : Int))))) (some false)
def impl_leap (n : Nat) (a0 : Int) : Option (Tup [.bool]) := goRec impl_leap.step n (.p0 a0)
def impl_leap.spec : Ctr := ⟨39, [.v (.int .i64)], [.bool], [], fun n x => impl_leap n x.1⟩
theorem impl_leap.seg_eq : SegEq ty gl impl_leap.F impl_leap.md impl_leap.T impl_leap.spec impl_leap.lb impl_leap.st impl_leap.step := by
  intro n goto y; cases y <;> kernel_rfl
theorem impl_leap.text : Text Go.Proofs.Try.prog impl_leap.F impl_leap.spec := textOf Go.Proofs.Try.f39
theorem impl_leap.ok : CtrOK Go.Proofs.Try.prog gl impl_leap.spec :=
  ctr_okS tabs impl_leap.text impl_leap.seg_eq (fun n x => ⟨.p0 x.1, rfl, rfl, rfl⟩) (nilC)

/-! loop.example/g00039/impl.daysIn -/
def impl_daysIn.T : List Ctr := [impl_leap.spec]
def impl_daysIn.md : List (Nat × List Md) := []
noncomputable def impl_daysIn.F : Fun := ⟨(Go.Proofs.Try.f33.body).getD .skip, [.v (.int .i64), .v (.int .i64)], [(.tmp 4, (.int .i64))], [], 0, []⟩
inductive impl_daysIn.Pt where
  | p0 (a0 : Int) (a1 : Int)
def impl_daysIn.lb : impl_daysIn.Pt → Nat
  | .p0 _ _ => 0
def impl_daysIn.st : impl_daysIn.Pt → St
  | .p0 a0 a1 => enter [.v (.int .i64) a0, .v (.int .i64) a1] 0
def impl_daysIn.step (n : Nat) (K : impl_daysIn.Pt → Option (Tup [(.int .i64)])) : impl_daysIn.Pt → Option (Tup [(.int .i64)])
  | .p0 a0 a1 => cond (decide (a1 = (2 : Int))) ((impl_leap n a0).bind fun r5 => cond r5 (some (29 : Int)) (cond (inB a1 13) (some (List.getD (List.set (List.set (List.set (List.set (List.set (List.set (List.set (List.set (List.set (List.set (List.set (List.set (List.set (List.replicate 13 (default : Int)) 0 (0 : Int)) 1 (31 : Int)) 2 (28 : Int)) 3 (31 : Int)) 4 (30 : Int)) 5 (31 : Int)) 6 (30 : Int)) 7 (31 : Int)) 8 (31 : Int)) 9 (30 : Int)) 10 (31 : Int)) 11 (30 : Int)) 12 (31 : Int)) (Int.toNat a1) default)) (none))) (cond (inB a1 13) (some (List.getD (List.set (List.set (List.set (List.set (List.set (List.set (List.set (List.set (List.set (List.set (List.set (List.set (List.set (List.replicate 13 (default : Int)) 0 (0 : Int)) 1 (31 : Int)) 2 (28 : Int)) 3 (31 : Int)) 4 (30 : Int)) 5 (31 : Int)) 6 (30 : Int)) 7 (31 : Int)) 8 (31 : Int)) 9 (30 : Int)) 10 (31 : Int)) 11 (30 : Int)) 12 (31 : Int)) (Int.toNat a1) default)) (none))
def impl_daysIn (n : Nat) (a0 : Int) (a1 : Int) : Option (Tup [(.int .i64)]) := goRec impl_daysIn.step n (.p0 a0 a1)
def impl_daysIn.spec : Ctr := ⟨33, [.v (.int .i64), .v (.int .i64)], [(.int .i64)], [], fun n x => impl_daysIn n x.1 x.2.1⟩
theorem impl_daysIn.seg_eq : SegEq ty gl impl_daysIn.F impl_daysIn.md impl_daysIn.T impl_daysIn.spec impl_daysIn.lb impl_daysIn.st impl_daysIn.step := by
  intro n goto y; cases y <;> kernel_rfl
theorem impl_daysIn.text : Text Go.Proofs.Try.prog impl_daysIn.F impl_daysIn.spec := textOf Go.Proofs.Try.f33
theorem impl_daysIn.ok : CtrOK Go.Proofs.Try.prog gl impl_daysIn.spec :=
  ctr_okS tabs impl_daysIn.text impl_daysIn.seg_eq (fun n x => ⟨.p0 x.1 x.2.1, rfl, rfl, rfl⟩) (consC impl_leap.ok (nilC))

/-! loop.example/g00039/impl.DateOf -/
def impl_DateOf.T : List Ctr := [impl_isTime.spec, impl_daysTo.spec, impl_daysIn.spec]
def impl_DateOf.md : List (Nat × List Md) := []
noncomputable def impl_DateOf.F : Fun := ⟨(Go.Proofs.Try.f16.body).getD .skip, [.v (.int .i64), .v (.int .i64)], [(.cell 4 32, (.pair (.int .i64) (.pair (.int .i64) (.pair (.int .i64) (.pair (.int .i64) (.pair (.int .i64) (.pair (.int .i64) .unit)))))))], [], 0, [(4, ⟨[0, 1, 4, 26], [], [], false⟩), (19, ⟨[0, 4, 5, 6], [], [], false⟩), (34, ⟨[0, 4, 5, 6, 7, 8], [], [], false⟩)]⟩
inductive impl_DateOf.Pt where
  | p0 (a0 : Int) (a1 : Int)
  | p4 (y1 : Int) (y2 : Int) (y3 : Bool) (y4 : Int) (y5 : Int) (y6 : Int) (y7 : Int) (y8 : Int) (y9 : Int)
  | p19 (y1 : Int) (y2 : Int) (y3 : Int) (y4 : Int) (y5 : Int) (y6 : Int) (y7 : Int) (y8 : Int) (y9 : Int)
  | p34 (y1 : Int) (y2 : Int) (y3 : Int) (y4 : Int) (y5 : Int) (y6 : Int) (y7 : Int) (y8 : Int) (y9 : Int) (y10 : Int) (y11 : Int)
def impl_DateOf.lb : impl_DateOf.Pt → Nat
  | .p0 _ _ => 0
  | .p4 _ _ _ _ _ _ _ _ _ => 4
  | .p19 _ _ _ _ _ _ _ _ _ => 19
  | .p34 _ _ _ _ _ _ _ _ _ _ _ => 34
def impl_DateOf.st : impl_DateOf.Pt → St
  | .p0 a0 a1 => enter [.v (.int .i64) a0, .v (.int .i64) a1] 0
  | .p4 y1 y2 y3 y4 y5 y6 y7 y8 y9 => ⟨[(0, .im (.int .i64) y1), (1, .im (.int .i64) y2), (4, .po 0 0), (26, .im .bool y3)], [(0, .obj [.im (.int .i64) y4, .im (.int .i64) y5, .im (.int .i64) y6, .im (.int .i64) y7, .im (.int .i64) y8, .im (.int .i64) y9])], 1⟩
  | .p19 y1 y2 y3 y4 y5 y6 y7 y8 y9 => ⟨[(0, .im (.int .i64) y1), (4, .po 0 0), (5, .im (.int .i64) y2), (6, .im (.int .i64) y3)], [(0, .obj [.im (.int .i64) y4, .im (.int .i64) y5, .im (.int .i64) y6, .im (.int .i64) y7, .im (.int .i64) y8, .im (.int .i64) y9])], 1⟩
  | .p34 y1 y2 y3 y4 y5 y6 y7 y8 y9 y10 y11 => ⟨[(0, .im (.int .i64) y1), (4, .po 0 0), (5, .im (.int .i64) y2), (6, .im (.int .i64) y3), (7, .im (.int .i64) y4), (8, .im (.int .i64) y5)], [(0, .obj [.im (.int .i64) y6, .im (.int .i64) y7, .im (.int .i64) y8, .im (.int .i64) y9, .im (.int .i64) y10, .im (.int .i64) y11])], 1⟩
def impl_DateOf.step (n : Nat) (K : impl_DateOf.Pt → Option (Tup [(.pair (.int .i64) (.pair (.int .i64) (.pair (.int .i64) (.pair (.int .i64) (.pair (.int .i64) (.pair (.int .i64) .unit))))))])) : impl_DateOf.Pt → Option (Tup [(.pair (.int .i64) (.pair (.int .i64) (.pair (.int .i64) (.pair (.int .i64) (.pair (.int .i64) (.pair (.int .i64) .unit))))))])
  | .p0 a0 a1 => (impl_isTime n a0).bind fun r5 => cond (!r5) (K (.p4 a0 a1 true (default : Int) (default : Int) (default : Int) (default : Int) (default : Int) (default : Int))) (cond (decide (a1 < (-(1440 : Int)))) (K (.p4 a0 a1 true (default : Int) (default : Int) (default : Int) (default : Int) (default : Int) (default : Int))) (cond (decide ((1440 : Int) < a1)) (K (.p4 a0 a1 true (default : Int) (default : Int) (default : Int) (default : Int) (default : Int) (default : Int))) (K (.p4 a0 a1 (decide ((IntKind.wrap .i64 (a0 + (IntKind.wrap .i64 ((60 : Int) * a1)))) < (0 : Int))) (default : Int) (default : Int) (default : Int) (default : Int) (default : Int) (default : Int)))))
  | .p4 y1 y2 y3 y4 y5 y6 y7 y8 y9 => cond y3 (some (default : (Int) × ((Int) × ((Int) × ((Int) × ((Int) × ((Int) × (Unit)))))))) (K (.p19 (IntKind.wrap .i64 (y1 + (IntKind.wrap .i64 ((60 : Int) * y2)))) (IntKind.wrap .i64 (Int.tdiv (IntKind.wrap .i64 (y1 + (IntKind.wrap .i64 ((60 : Int) * y2)))) (86400 : Int))) (IntKind.wrap .i64 ((1970 : Int) + (IntKind.wrap .i64 (Int.tdiv (IntKind.wrap .i64 (Int.tdiv (IntKind.wrap .i64 (y1 + (IntKind.wrap .i64 ((60 : Int) * y2)))) (86400 : Int))) (366 : Int))))) y4 y5 y6 y7 y8 y9))
  | .p19 y1 y2 y3 y4 y5 y6 y7 y8 y9 => (impl_daysTo n (IntKind.wrap .i64 (y3 + (1 : Int)))).bind fun (r12 : Int) => cond (decide (r12 ≤ y2)) (K (.p19 y1 y2 (IntKind.wrap .i64 (y3 + (1 : Int))) y4 y5 y6 y7 y8 y9)) ((impl_daysTo n y3).bind fun (r13 : Int) => K (.p34 y1 y2 y3 (IntKind.wrap .i64 (y2 - r13)) (1 : Int) y4 y5 y6 y7 y8 y9))
  | .p34 y1 y2 y3 y4 y5 y6 y7 y8 y9 y10 y11 => (impl_daysIn n y3 y5).bind fun (r14 : Int) => cond (decide (r14 ≤ y4)) ((impl_daysIn n y3 y5).bind fun (r15 : Int) => K (.p34 y1 y2 y3 (IntKind.wrap .i64 (y4 - r15)) (IntKind.wrap .i64 (y5 + (1 : Int))) y6 y7 y8 y9 y10 y11)) ((impl_daysIn n y3 y5).bind fun (r15 : Int) => some (y3, (y5, ((IntKind.wrap .i64 (y4 + (1 : Int))), (r15, ((Int.tmod (IntKind.wrap .i64 (y2 + (4 : Int))) (7 : Int)), ((IntKind.wrap .i64 (Int.tdiv (Int.tmod y1 (86400 : Int)) (60 : Int))), ())))))))
def impl_DateOf (n : Nat) (a0 : Int) (a1 : Int) : Option (Tup [(.pair (.int .i64) (.pair (.int .i64) (.pair (.int .i64) (.pair (.int .i64) (.pair (.int .i64) (.pair (.int .i64) .unit))))))]) := goRec impl_DateOf.step n (.p0 a0 a1)
def impl_DateOf.spec : Ctr := ⟨16, [.v (.int .i64), .v (.int .i64)], [(.pair (.int .i64) (.pair (.int .i64) (.pair (.int .i64) (.pair (.int .i64) (.pair (.int .i64) (.pair (.int .i64) .unit))))))], [], fun n x => impl_DateOf n x.1 x.2.1⟩
theorem impl_DateOf.seg_eq : SegEq ty gl impl_DateOf.F impl_DateOf.md impl_DateOf.T impl_DateOf.spec impl_DateOf.lb impl_DateOf.st impl_DateOf.step := by
  intro n goto y; cases y <;> kernel_rfl
theorem impl_DateOf.text : Text Go.Proofs.Try.prog impl_DateOf.F impl_DateOf.spec := textOf Go.Proofs.Try.f16
theorem impl_DateOf.ok : CtrOK Go.Proofs.Try.prog gl impl_DateOf.spec :=
  ctr_okS tabs impl_DateOf.text impl_DateOf.seg_eq (fun n x => ⟨.p0 x.1 x.2.1, rfl, rfl, rfl⟩) (consC impl_isTime.ok (consC impl_daysTo.ok (consC impl_daysIn.ok (nilC))))

/-! loop.example/g00039/impl.inRanges -/
def impl_inRanges.T : List Ctr := []
def impl_inRanges.md : List (Nat × List Md) := []
noncomputable def impl_inRanges.F : Fun := ⟨(Go.Proofs.Try.f17.body).getD .skip, [.v (.sl false (.pair (.int .i64) (.pair (.int .i64) .unit))), .v (.sl false (.int .i64))], [(.tmp 4, .bool)], [], 0, [(15, ⟨[1, 12, 13, 14], [(12, (.pair (.int .i64) (.pair (.int .i64) .unit)))], [], false⟩), (29, ⟨[1, 6, 12, 13, 14, 18, 19, 20], [(12, (.pair (.int .i64) (.pair (.int .i64) .unit))), (18, (.int .i64))], [], false⟩)]⟩
inductive impl_inRanges.Pt where
  | p0 (a0 : List ((Int) × ((Int) × (Unit)))) (a1 : List (Int))
  | p15 (y1 : List (Int)) (y2 : List ((Int) × ((Int) × (Unit)))) (y3 : Int) (y4 : Int)
  | p29 (y1 : List (Int)) (y2 : List ((Int) × ((Int) × (Unit)))) (y3 : Int) (y4 : Int) (y5 : List (Int)) (y6 : Int) (y7 : Int) (y8 : Int) (y9 : Int)
def impl_inRanges.lb : impl_inRanges.Pt → Nat
  | .p0 _ _ => 0
  | .p15 _ _ _ _ => 15
  | .p29 _ _ _ _ _ _ _ _ _ => 29
def impl_inRanges.st : impl_inRanges.Pt → St
  | .p0 a0 a1 => enter [.v (.sl false (.pair (.int .i64) (.pair (.int .i64) .unit))) a0, .v (.sl false (.int .i64)) a1] 0
  | .p15 y1 y2 y3 y4 => ⟨[(1, .im (.sl false (.int .i64)) y1), (12, .im (.sl false (.pair (.int .i64) (.pair (.int .i64) .unit))) y2), (13, .im (.int .i64) y3), (14, .im (.int .i64) y4)], [], 0⟩
  | .p29 y1 y2 y3 y4 y5 y6 y7 y8 y9 => ⟨[(1, .im (.sl false (.int .i64)) y1), (6, .po 0 0), (12, .im (.sl false (.pair (.int .i64) (.pair (.int .i64) .unit))) y2), (13, .im (.int .i64) y3), (14, .im (.int .i64) y4), (18, .im (.sl false (.int .i64)) y5), (19, .im (.int .i64) y6), (20, .im (.int .i64) y7)], [(0, .obj [.im (.int .i64) y8, .im (.int .i64) y9])], 1⟩
def impl_inRanges.step (n : Nat) (K : impl_inRanges.Pt → Option (Tup [.bool])) : impl_inRanges.Pt → Option (Tup [.bool])
  | .p0 a0 a1 => cond (decide (((List.length a0) : Int) = (0 : Int))) (some true) (K (.p15 a1 a0 ((List.length a0) : Int) (0 : Int)))
  | .p15 y1 y2 y3 y4 => cond (decide (y4 < y3)) (cond (inB y4 (List.length y2)) (K (.p29 y1 y2 y3 y4 y1 ((List.length y1) : Int) (0 : Int) (List.getD y2 (Int.toNat y4) default).1 (List.getD y2 (Int.toNat y4) default).2.1)) (none)) (some false)
  | .p29 y1 y2 y3 y4 y5 y6 y7 y8 y9 => cond (decide (y7 < y6)) (cond (inB y7 (List.length y5)) (cond (decide (y8 ≤ (List.getD y5 (Int.toNat y7) default))) (cond (decide ((List.getD y5 (Int.toNat y7) default) ≤ y9)) (some true) (K (.p29 y1 y2 y3 y4 y5 y6 (IntKind.wrap .i64 (y7 + (1 : Int))) y8 y9))) (K (.p29 y1 y2 y3 y4 y5 y6 (IntKind.wrap .i64 (y7 + (1 : Int))) y8 y9))) (none)) (K (.p15 y1 y2 y3 (IntKind.wrap .i64 (y4 + (1 : Int)))))
def impl_inRanges (n : Nat) (a0 : List ((Int) × ((Int) × (Unit)))) (a1 : List (Int)) : Option (Tup [.bool]) := goRec impl_inRanges.step n (.p0 a0 a1)
def impl_inRanges.spec : Ctr := ⟨17, [.v (.sl false (.pair (.int .i64) (.pair (.int .i64) .unit))), .v (.sl false (.int .i64))], [.bool], [], fun n x => impl_inRanges n x.1 x.2.1⟩
theorem impl_inRanges.seg_eq : SegEq ty gl impl_inRanges.F impl_inRanges.md impl_inRanges.T impl_inRanges.spec impl_inRanges.lb impl_inRanges.st impl_inRanges.step := by
  intro n goto y; cases y <;> kernel_rfl
theorem impl_inRanges.text : Text Go.Proofs.Try.prog impl_inRanges.F impl_inRanges.spec := textOf Go.Proofs.Try.f17
theorem impl_inRanges.ok : CtrOK Go.Proofs.Try.prog gl impl_inRanges.spec :=
  ctr_okS tabs impl_inRanges.text impl_inRanges.seg_eq (fun n x => ⟨.p0 x.1 x.2.1, rfl, rfl, rfl⟩) (nilC)

/-! loop.example/g00039/impl.DayNumber -/
def impl_DayNumber.T : List Ctr := [impl_daysTo.spec, impl_daysIn.spec]
def impl_DayNumber.md : List (Nat × List Md) := []
noncomputable def impl_DayNumber.F : Fun := ⟨(Go.Proofs.Try.f19.body).getD .skip, [.v (.int .i64), .v (.int .i64), .v (.int .i64)], [(.tmp 6, (.int .i64))], [], 0, [(4, ⟨[0, 1, 2, 33], [], [], false⟩), (17, ⟨[0, 1, 7, 8], [], [], false⟩)]⟩
inductive impl_DayNumber.Pt where
  | p0 (a0 : Int) (a1 : Int) (a2 : Int)
  | p4 (y1 : Int) (y2 : Int) (y3 : Int) (y4 : Bool)
  | p17 (y1 : Int) (y2 : Int) (y3 : Int) (y4 : Int)
def impl_DayNumber.lb : impl_DayNumber.Pt → Nat
  | .p0 _ _ _ => 0
  | .p4 _ _ _ _ => 4
  | .p17 _ _ _ _ => 17
def impl_DayNumber.st : impl_DayNumber.Pt → St
  | .p0 a0 a1 a2 => enter [.v (.int .i64) a0, .v (.int .i64) a1, .v (.int .i64) a2] 0
  | .p4 y1 y2 y3 y4 => ⟨[(0, .im (.int .i64) y1), (1, .im (.int .i64) y2), (2, .im (.int .i64) y3), (33, .im .bool y4)], [], 0⟩
  | .p17 y1 y2 y3 y4 => ⟨[(0, .im (.int .i64) y1), (1, .im (.int .i64) y2), (7, .im (.int .i64) y3), (8, .im (.int .i64) y4)], [], 0⟩
def impl_DayNumber.step (n : Nat) (K : impl_DayNumber.Pt → Option (Tup [(.int .i64)])) : impl_DayNumber.Pt → Option (Tup [(.int .i64)])
  | .p0 a0 a1 a2 => cond (decide (a0 < (1970 : Int))) (K (.p4 a0 a1 a2 true)) (cond (decide ((40000 : Int) < a0)) (K (.p4 a0 a1 a2 true)) (cond (decide (a1 < (1 : Int))) (K (.p4 a0 a1 a2 true)) (cond (decide ((12 : Int) < a1)) (K (.p4 a0 a1 a2 true)) (cond (decide (a2 < (1 : Int))) (K (.p4 a0 a1 a2 true)) ((impl_daysIn n a0 a1).bind fun (r6 : Int) => K (.p4 a0 a1 a2 (decide (r6 < a2))))))))
  | .p4 y1 y2 y3 y4 => cond y4 (some (-(1 : Int))) ((impl_daysTo n y1).bind fun (r7 : Int) => K (.p17 y1 y2 (IntKind.wrap .i64 ((IntKind.wrap .i64 (r7 + y3)) - (1 : Int))) (1 : Int)))
  | .p17 y1 y2 y3 y4 => cond (decide (y4 < y2)) ((impl_daysIn n y1 y4).bind fun (r7 : Int) => K (.p17 y1 y2 (IntKind.wrap .i64 (y3 + r7)) (IntKind.wrap .i64 (y4 + (1 : Int))))) (some y3)
def impl_DayNumber (n : Nat) (a0 : Int) (a1 : Int) (a2 : Int) : Option (Tup [(.int .i64)]) := goRec impl_DayNumber.step n (.p0 a0 a1 a2)
def impl_DayNumber.spec : Ctr := ⟨19, [.v (.int .i64), .v (.int .i64), .v (.int .i64)], [(.int .i64)], [], fun n x => impl_DayNumber n x.1 x.2.1 x.2.2.1⟩
theorem impl_DayNumber.seg_eq : SegEq ty gl impl_DayNumber.F impl_DayNumber.md impl_DayNumber.T impl_DayNumber.spec impl_DayNumber.lb impl_DayNumber.st impl_DayNumber.step := by
  intro n goto y; cases y <;> kernel_rfl
theorem impl_DayNumber.text : Text Go.Proofs.Try.prog impl_DayNumber.F impl_DayNumber.spec := textOf Go.Proofs.Try.f19
theorem impl_DayNumber.ok : CtrOK Go.Proofs.Try.prog gl impl_DayNumber.spec :=
  ctr_okS tabs impl_DayNumber.text impl_DayNumber.seg_eq (fun n x => ⟨.p0 x.1 x.2.1 x.2.2.1, rfl, rfl, rfl⟩) (consC impl_daysTo.ok (consC impl_daysIn.ok (nilC)))

/-! slices.Index[[]int,int] -/
def slices_Index_int.T : List Ctr := []
def slices_Index_int.md : List (Nat × List Md) := []
noncomputable def slices_Index_int.F : Fun := ⟨(Go.Proofs.Try.f34.body).getD .skip, [.v (.sl false (.int .i64)), .v (.int .i64)], [(.tmp 4, (.int .i64))], [], 0, [(7, ⟨[0, 1, 7, 8], [], [], false⟩)]⟩
inductive slices_Index_int.Pt where
  | p0 (a0 : List (Int)) (a1 : Int)
  | p7 (y1 : List (Int)) (y2 : Int) (y3 : Int) (y4 : Int)
def slices_Index_int.lb : slices_Index_int.Pt → Nat
  | .p0 _ _ => 0
  | .p7 _ _ _ _ => 7
def slices_Index_int.st : slices_Index_int.Pt → St
  | .p0 a0 a1 => enter [.v (.sl false (.int .i64)) a0, .v (.int .i64) a1] 0
  | .p7 y1 y2 y3 y4 => ⟨[(0, .im (.sl false (.int .i64)) y1), (1, .im (.int .i64) y2), (7, .im (.int .i64) y3), (8, .im (.int .i64) y4)], [], 0⟩
def slices_Index_int.step (n : Nat) (K : slices_Index_int.Pt → Option (Tup [(.int .i64)])) : slices_Index_int.Pt → Option (Tup [(.int .i64)])
  | .p0 a0 a1 => K (.p7 a0 a1 ((List.length a0) : Int) (0 : Int))
  | .p7 y1 y2 y3 y4 => cond (decide (y4 < y3)) (cond (inB y4 (List.length y1)) (cond (decide (y2 = (List.getD y1 (Int.toNat y4) default))) (some y4) (K (.p7 y1 y2 y3 (IntKind.wrap .i64 (y4 + (1 : Int)))))) (none)) (some (-(1 : Int)))
def slices_Index_int (n : Nat) (a0 : List (Int)) (a1 : Int) : Option (Tup [(.int .i64)]) := goRec slices_Index_int.step n (.p0 a0 a1)
def slices_Index_int.spec : Ctr := ⟨34, [.v (.sl false (.int .i64)), .v (.int .i64)], [(.int .i64)], [], fun n x => slices_Index_int n x.1 x.2.1⟩
theorem slices_Index_int.seg_eq : SegEq ty gl slices_Index_int.F slices_Index_int.md slices_Index_int.T slices_Index_int.spec slices_Index_int.lb slices_Index_int.st slices_Index_int.step := by
  intro n goto y; cases y <;> kernel_rfl
theorem slices_Index_int.text : Text Go.Proofs.Try.prog slices_Index_int.F slices_Index_int.spec := textOf Go.Proofs.Try.f34
theorem slices_Index_int.ok : CtrOK Go.Proofs.Try.prog gl slices_Index_int.spec :=
  ctr_okS tabs slices_Index_int.text slices_Index_int.seg_eq (fun n x => ⟨.p0 x.1 x.2.1, rfl, rfl, rfl⟩) (nilC)

/-! slices.Contains[[]int,int] -/
def slices_Contains_int.T : List Ctr := [slices_Index_int.spec]
def slices_Contains_int.md : List (Nat × List Md) := []
noncomputable def slices_Contains_int.F : Fun := ⟨(Go.Proofs.Try.f18.body).getD .skip, [.v (.sl false (.int .i64)), .v (.int .i64)], [(.tmp 4, .bool)], [], 0, []⟩
inductive slices_Contains_int.Pt where
  | p0 (a0 : List (Int)) (a1 : Int)
def slices_Contains_int.lb : slices_Contains_int.Pt → Nat
  | .p0 _ _ => 0
def slices_Contains_int.st : slices_Contains_int.Pt → St
  | .p0 a0 a1 => enter [.v (.sl false (.int .i64)) a0, .v (.int .i64) a1] 0
def slices_Contains_int.step (n : Nat) (K : slices_Contains_int.Pt → Option (Tup [.bool])) : slices_Contains_int.Pt → Option (Tup [.bool])
  | .p0 a0 a1 => (slices_Index_int n a0 a1).bind fun (r5 : Int) => some (decide ((0 : Int) ≤ r5))
def slices_Contains_int (n : Nat) (a0 : List (Int)) (a1 : Int) : Option (Tup [.bool]) := goRec slices_Contains_int.step n (.p0 a0 a1)
def slices_Contains_int.spec : Ctr := ⟨18, [.v (.sl false (.int .i64)), .v (.int .i64)], [.bool], [], fun n x => slices_Contains_int n x.1 x.2.1⟩
theorem slices_Contains_int.seg_eq : SegEq ty gl slices_Contains_int.F slices_Contains_int.md slices_Contains_int.T slices_Contains_int.spec slices_Contains_int.lb slices_Contains_int.st slices_Contains_int.step := by
  intro n goto y; cases y <;> kernel_rfl
theorem slices_Contains_int.text : Text Go.Proofs.Try.prog slices_Contains_int.F slices_Contains_int.spec := textOf Go.Proofs.Try.f18
theorem slices_Contains_int.ok : CtrOK Go.Proofs.Try.prog gl slices_Contains_int.spec :=
  ctr_okS tabs slices_Contains_int.text slices_Contains_int.seg_eq (fun n x => ⟨.p0 x.1 x.2.1, rfl, rfl, rfl⟩) (consC slices_Index_int.ok (nilC))

/-! loop.example/g00039/impl.InInterval -/
def impl_InInterval.T : List Ctr := [impl_GoodInterval.spec, impl_isTime.spec, impl_DateOf.spec, impl_inRanges.spec, impl_DayNumber.spec, slices_Contains_int.spec]
def impl_InInterval.md : List (Nat × List Md) := []
noncomputable def impl_InInterval.F : Fun := ⟨(Go.Proofs.Try.f5.body).getD .skip, [.v (.pair (.int .i64) (.pair (.sl false (.pair (.int .i64) (.pair (.int .i64) .unit))) (.pair (.sl false (.pair (.int .i64) (.pair (.int .i64) .unit))) (.pair (.sl false (.pair (.int .i64) (.pair (.int .i64) .unit))) (.pair (.sl false (.pair (.int .i64) (.pair (.int .i64) .unit))) (.pair (.sl false (.pair (.int .i64) (.pair (.int .i64) .unit))) (.pair (.sl false (.int .i64)) .unit))))))), .v (.int .i64)], [(.tmp 4, .bool)], [], 0, [(4, ⟨[1, 2, 13], [], [(2, 1, (.pair (.int .i64) (.pair (.int .i64) .unit))), (2, 2, (.pair (.int .i64) (.pair (.int .i64) .unit))), (2, 3, (.pair (.int .i64) (.pair (.int .i64) .unit))), (2, 4, (.pair (.int .i64) (.pair (.int .i64) .unit))), (2, 5, (.pair (.int .i64) (.pair (.int .i64) .unit))), (2, 6, (.int .i64))], false⟩)]⟩
inductive impl_InInterval.Pt where
  | p0 (a0 : (Int) × ((List ((Int) × ((Int) × (Unit)))) × ((List ((Int) × ((Int) × (Unit)))) × ((List ((Int) × ((Int) × (Unit)))) × ((List ((Int) × ((Int) × (Unit)))) × ((List ((Int) × ((Int) × (Unit)))) × ((List (Int)) × (Unit)))))))) (a1 : Int)
  | p4 (y1 : Int) (y2 : Bool) (y3 : Int) (y4 : List ((Int) × ((Int) × (Unit)))) (y5 : List ((Int) × ((Int) × (Unit)))) (y6 : List ((Int) × ((Int) × (Unit)))) (y7 : List ((Int) × ((Int) × (Unit)))) (y8 : List ((Int) × ((Int) × (Unit)))) (y9 : List (Int))
def impl_InInterval.lb : impl_InInterval.Pt → Nat
  | .p0 _ _ => 0
  | .p4 _ _ _ _ _ _ _ _ _ => 4
def impl_InInterval.st : impl_InInterval.Pt → St
  | .p0 a0 a1 => enter [.v (.pair (.int .i64) (.pair (.sl false (.pair (.int .i64) (.pair (.int .i64) .unit))) (.pair (.sl false (.pair (.int .i64) (.pair (.int .i64) .unit))) (.pair (.sl false (.pair (.int .i64) (.pair (.int .i64) .unit))) (.pair (.sl false (.pair (.int .i64) (.pair (.int .i64) .unit))) (.pair (.sl false (.pair (.int .i64) (.pair (.int .i64) .unit))) (.pair (.sl false (.int .i64)) .unit))))))) a0, .v (.int .i64) a1] 0
  | .p4 y1 y2 y3 y4 y5 y6 y7 y8 y9 => ⟨[(1, .im (.int .i64) y1), (2, .po 0 0), (13, .im .bool y2)], [(0, .obj [.im (.int .i64) y3, .im (.sl false (.pair (.int .i64) (.pair (.int .i64) .unit))) y4, .im (.sl false (.pair (.int .i64) (.pair (.int .i64) .unit))) y5, .im (.sl false (.pair (.int .i64) (.pair (.int .i64) .unit))) y6, .im (.sl false (.pair (.int .i64) (.pair (.int .i64) .unit))) y7, .im (.sl false (.pair (.int .i64) (.pair (.int .i64) .unit))) y8, .im (.sl false (.int .i64)) y9])], 1⟩
def impl_InInterval.step (n : Nat) (K : impl_InInterval.Pt → Option (Tup [.bool])) : impl_InInterval.Pt → Option (Tup [.bool])
  | .p0 a0 a1 => (impl_GoodInterval n a0).bind fun r5 => cond (!r5) (K (.p4 a1 true a0.1 a0.2.1 a0.2.2.1 a0.2.2.2.1 a0.2.2.2.2.1 a0.2.2.2.2.2.1 a0.2.2.2.2.2.2.1)) ((impl_isTime n a1).bind fun r6 => K (.p4 a1 (!r6) a0.1 a0.2.1 a0.2.2.1 a0.2.2.2.1 a0.2.2.2.2.1 a0.2.2.2.2.2.1 a0.2.2.2.2.2.2.1))
  | .p4 y1 y2 y3 y4 y5 y6 y7 y8 y9 => cond y2 (some false) ((impl_DateOf n y1 y3).bind fun r12 => cond (decide (r12.1 = (0 : Int))) (some false) ((impl_inRanges n y4 [r12.2.2.2.2.2.1]).bind fun r13 => cond r13 ((impl_inRanges n y5 [r12.2.2.2.2.1]).bind fun r14 => cond r14 ((impl_inRanges n y6 [r12.2.2.1, (IntKind.wrap .i64 ((IntKind.wrap .i64 (r12.2.2.1 - r12.2.2.2.1)) - (1 : Int)))]).bind fun r15 => cond r15 ((impl_inRanges n y7 [r12.2.1]).bind fun r16 => cond r16 ((impl_inRanges n y8 [r12.1]).bind fun r17 => cond r17 ((impl_DayNumber n r12.1 r12.2.1 r12.2.2.1).bind fun (r18 : Int) => (slices_Contains_int n y9 r18).bind fun r19 => some (!r19)) (some false)) (some false)) (some false)) (some false)) (some false)))
def impl_InInterval (n : Nat) (a0 : (Int) × ((List ((Int) × ((Int) × (Unit)))) × ((List ((Int) × ((Int) × (Unit)))) × ((List ((Int) × ((Int) × (Unit)))) × ((List ((Int) × ((Int) × (Unit)))) × ((List ((Int) × ((Int) × (Unit)))) × ((List (Int)) × (Unit)))))))) (a1 : Int) : Option (Tup [.bool]) := goRec impl_InInterval.step n (.p0 a0 a1)
def impl_InInterval.spec : Ctr := ⟨5, [.v (.pair (.int .i64) (.pair (.sl false (.pair (.int .i64) (.pair (.int .i64) .unit))) (.pair (.sl false (.pair (.int .i64) (.pair (.int .i64) .unit))) (.pair (.sl false (.pair (.int .i64) (.pair (.int .i64) .unit))) (.pair (.sl false (.pair (.int .i64) (.pair (.int .i64) .unit))) (.pair (.sl false (.pair (.int .i64) (.pair (.int .i64) .unit))) (.pair (.sl false (.int .i64)) .unit))))))), .v (.int .i64)], [.bool], [], fun n x => impl_InInterval n x.1 x.2.1⟩
theorem impl_InInterval.seg_eq : SegEq ty gl impl_InInterval.F impl_InInterval.md impl_InInterval.T impl_InInterval.spec impl_InInterval.lb impl_InInterval.st impl_InInterval.step := by
  intro n goto y; cases y <;> kernel_rfl
theorem impl_InInterval.text : Text Go.Proofs.Try.prog impl_InInterval.F impl_InInterval.spec := textOf Go.Proofs.Try.f5
theorem impl_InInterval.ok : CtrOK Go.Proofs.Try.prog gl impl_InInterval.spec :=
  ctr_okS tabs impl_InInterval.text impl_InInterval.seg_eq (fun n x => ⟨.p0 x.1 x.2.1, rfl, rfl, rfl⟩) (consC impl_GoodInterval.ok (consC impl_isTime.ok (consC impl_DateOf.ok (consC impl_inRanges.ok (consC impl_DayNumber.ok (consC slices_Contains_int.ok (nilC)))))))

/-! loop.example/g00039/spec.l9Numbers -/
def spec_l9Numbers.T : List Ctr := []
def spec_l9Numbers.md : List (Nat × List Md) := []
noncomputable def spec_l9Numbers.F : Fun := ⟨(Go.Proofs.Try.f23.body).getD .skip, [.v (.sl false (.int .i64))], [(.tmp 2, .bool)], [], 0, [(7, ⟨[0, 5, 6], [], [], false⟩)]⟩
inductive spec_l9Numbers.Pt where
  | p0 (a0 : List (Int))
  | p7 (y1 : List (Int)) (y2 : Int) (y3 : Int)
def spec_l9Numbers.lb : spec_l9Numbers.Pt → Nat
  | .p0 _ => 0
  | .p7 _ _ _ => 7
def spec_l9Numbers.st : spec_l9Numbers.Pt → St
  | .p0 a0 => enter [.v (.sl false (.int .i64)) a0] 0
  | .p7 y1 y2 y3 => ⟨[(0, .im (.sl false (.int .i64)) y1), (5, .im (.int .i64) y2), (6, .im (.int .i64) y3)], [], 0⟩
def spec_l9Numbers.step (n : Nat) (K : spec_l9Numbers.Pt → Option (Tup [.bool])) : spec_l9Numbers.Pt → Option (Tup [.bool])
  | .p0 a0 => K (.p7 a0 ((List.length a0) : Int) (0 : Int))
  | .p7 y1 y2 y3 => cond (decide (y3 < y2)) (cond (decide ((0 : Int) < y3)) (cond (inB (IntKind.wrap .i64 (y3 - (1 : Int))) (List.length y1)) (cond (inB y3 (List.length y1)) (cond (decide ((List.getD y1 (Int.toNat y3) default) ≤ (List.getD y1 (Int.toNat (IntKind.wrap .i64 (y3 - (1 : Int)))) default))) (some false) (K (.p7 y1 y2 (IntKind.wrap .i64 (y3 + (1 : Int)))))) (none)) (none)) (K (.p7 y1 y2 (IntKind.wrap .i64 (y3 + (1 : Int)))))) (some (decide (((List.length y1) : Int) ≤ (1000 : Int))))
def spec_l9Numbers (n : Nat) (a0 : List (Int)) : Option (Tup [.bool]) := goRec spec_l9Numbers.step n (.p0 a0)
def spec_l9Numbers.spec : Ctr := ⟨23, [.v (.sl false (.int .i64))], [.bool], [], fun n x => spec_l9Numbers n x.1⟩
theorem spec_l9Numbers.seg_eq : SegEq ty gl spec_l9Numbers.F spec_l9Numbers.md spec_l9Numbers.T spec_l9Numbers.spec spec_l9Numbers.lb spec_l9Numbers.st spec_l9Numbers.step := by
  intro n goto y; cases y <;> kernel_rfl
theorem spec_l9Numbers.text : Text Go.Proofs.Try.prog spec_l9Numbers.F spec_l9Numbers.spec := textOf Go.Proofs.Try.f23
theorem spec_l9Numbers.ok : CtrOK Go.Proofs.Try.prog gl spec_l9Numbers.spec :=
  ctr_okS tabs spec_l9Numbers.text spec_l9Numbers.seg_eq (fun n x => ⟨.p0 x.1, rfl, rfl, rfl⟩) (nilC)

/-! loop.example/g00039/spec.l19Ranges -/
def spec_l19Ranges.T : List Ctr := []
def spec_l19Ranges.md : List (Nat × List Md) := []
noncomputable def spec_l19Ranges.F : Fun := ⟨(Go.Proofs.Try.f24.body).getD .skip, [.v (.sl false (.pair (.int .i64) (.pair (.int .i64) .unit))), .v (.int .i64), .v (.int .i64)], [(.tmp 6, .bool)], [], 0, [(7, ⟨[0, 1, 2, 9, 10, 11], [(9, (.pair (.int .i64) (.pair (.int .i64) .unit)))], [], false⟩), (18, ⟨[0, 1, 2, 9, 10, 11, 31], [(9, (.pair (.int .i64) (.pair (.int .i64) .unit)))], [], false⟩)]⟩
inductive spec_l19Ranges.Pt where
  | p0 (a0 : List ((Int) × ((Int) × (Unit)))) (a1 : Int) (a2 : Int)
  | p7 (y1 : List ((Int) × ((Int) × (Unit)))) (y2 : Int) (y3 : Int) (y4 : List ((Int) × ((Int) × (Unit)))) (y5 : Int) (y6 : Int)
  | p18 (y1 : List ((Int) × ((Int) × (Unit)))) (y2 : Int) (y3 : Int) (y4 : List ((Int) × ((Int) × (Unit)))) (y5 : Int) (y6 : Int) (y7 : Bool)
def spec_l19Ranges.lb : spec_l19Ranges.Pt → Nat
  | .p0 _ _ _ => 0
  | .p7 _ _ _ _ _ _ => 7
  | .p18 _ _ _ _ _ _ _ => 18
def spec_l19Ranges.st : spec_l19Ranges.Pt → St
  | .p0 a0 a1 a2 => enter [.v (.sl false (.pair (.int .i64) (.pair (.int .i64) .unit))) a0, .v (.int .i64) a1, .v (.int .i64) a2] 0
  | .p7 y1 y2 y3 y4 y5 y6 => ⟨[(0, .im (.sl false (.pair (.int .i64) (.pair (.int .i64) .unit))) y1), (1, .im (.int .i64) y2), (2, .im (.int .i64) y3), (9, .im (.sl false (.pair (.int .i64) (.pair (.int .i64) .unit))) y4), (10, .im (.int .i64) y5), (11, .im (.int .i64) y6)], [], 0⟩
  | .p18 y1 y2 y3 y4 y5 y6 y7 => ⟨[(0, .im (.sl false (.pair (.int .i64) (.pair (.int .i64) .unit))) y1), (1, .im (.int .i64) y2), (2, .im (.int .i64) y3), (9, .im (.sl false (.pair (.int .i64) (.pair (.int .i64) .unit))) y4), (10, .im (.int .i64) y5), (11, .im (.int .i64) y6), (31, .im .bool y7)], [], 0⟩
def spec_l19Ranges.step (n : Nat) (K : spec_l19Ranges.Pt → Option (Tup [.bool])) : spec_l19Ranges.Pt → Option (Tup [.bool])
  | .p0 a0 a1 a2 => K (.p7 a0 a1 a2 a0 ((List.length a0) : Int) (0 : Int))
  | .p7 y1 y2 y3 y4 y5 y6 => cond (decide (y6 < y5)) (cond (inB y6 (List.length y4)) (cond (decide ((List.getD y4 (Int.toNat y6) default).1 < y2)) (K (.p18 y1 y2 y3 y4 y5 y6 true)) (cond (decide (y3 < (List.getD y4 (Int.toNat y6) default).2.1)) (K (.p18 y1 y2 y3 y4 y5 y6 true)) (K (.p18 y1 y2 y3 y4 y5 y6 (decide ((List.getD y4 (Int.toNat y6) default).2.1 < (List.getD y4 (Int.toNat y6) default).1)))))) (none)) (some (decide (((List.length y1) : Int) ≤ (10 : Int))))
  | .p18 y1 y2 y3 y4 y5 y6 y7 => cond y7 (some false) (K (.p7 y1 y2 y3 y4 y5 (IntKind.wrap .i64 (y6 + (1 : Int)))))
def spec_l19Ranges (n : Nat) (a0 : List ((Int) × ((Int) × (Unit)))) (a1 : Int) (a2 : Int) : Option (Tup [.bool]) := goRec spec_l19Ranges.step n (.p0 a0 a1 a2)
def spec_l19Ranges.spec : Ctr := ⟨24, [.v (.sl false (.pair (.int .i64) (.pair (.int .i64) .unit))), .v (.int .i64), .v (.int .i64)], [.bool], [], fun n x => spec_l19Ranges n x.1 x.2.1 x.2.2.1⟩
theorem spec_l19Ranges.seg_eq : SegEq ty gl spec_l19Ranges.F spec_l19Ranges.md spec_l19Ranges.T spec_l19Ranges.spec spec_l19Ranges.lb spec_l19Ranges.st spec_l19Ranges.step := by
  intro n goto y; cases y <;> kernel_rfl
theorem spec_l19Ranges.text : Text Go.Proofs.Try.prog spec_l19Ranges.F spec_l19Ranges.spec := textOf Go.Proofs.Try.f24
theorem spec_l19Ranges.ok : CtrOK Go.Proofs.Try.prog gl spec_l19Ranges.spec :=
  ctr_okS tabs spec_l19Ranges.text spec_l19Ranges.seg_eq (fun n x => ⟨.p0 x.1 x.2.1 x.2.2.1, rfl, rfl, rfl⟩) (nilC)

/-! loop.example/g00039/spec.GoodInterval -/
def spec_GoodInterval.T : List Ctr := [spec_l9Numbers.spec, spec_l19Ranges.spec]
def spec_GoodInterval.md : List (Nat × List Md) := []
noncomputable def spec_GoodInterval.F : Fun := ⟨(Go.Proofs.Try.f7.body).getD .skip, [.v (.pair (.int .i64) (.pair (.sl false (.pair (.int .i64) (.pair (.int .i64) .unit))) (.pair (.sl false (.pair (.int .i64) (.pair (.int .i64) .unit))) (.pair (.sl false (.pair (.int .i64) (.pair (.int .i64) .unit))) (.pair (.sl false (.pair (.int .i64) (.pair (.int .i64) .unit))) (.pair (.sl false (.pair (.int .i64) (.pair (.int .i64) .unit))) (.pair (.sl false (.int .i64)) .unit)))))))], [(.tmp 2, .bool)], [], 0, [(7, ⟨[1, 8, 9, 10], [(8, (.pair (.int .i64) (.pair (.int .i64) .unit)))], [(1, 1, (.pair (.int .i64) (.pair (.int .i64) .unit))), (1, 2, (.pair (.int .i64) (.pair (.int .i64) .unit))), (1, 3, (.pair (.int .i64) (.pair (.int .i64) .unit))), (1, 4, (.pair (.int .i64) (.pair (.int .i64) .unit))), (1, 5, (.pair (.int .i64) (.pair (.int .i64) .unit))), (1, 6, (.int .i64))], false⟩), (18, ⟨[1, 8, 9, 10, 30], [(8, (.pair (.int .i64) (.pair (.int .i64) .unit)))], [(1, 1, (.pair (.int .i64) (.pair (.int .i64) .unit))), (1, 2, (.pair (.int .i64) (.pair (.int .i64) .unit))), (1, 3, (.pair (.int .i64) (.pair (.int .i64) .unit))), (1, 4, (.pair (.int .i64) (.pair (.int .i64) .unit))), (1, 5, (.pair (.int .i64) (.pair (.int .i64) .unit))), (1, 6, (.int .i64))], false⟩), (27, ⟨[1, 51], [], [(1, 1, (.pair (.int .i64) (.pair (.int .i64) .unit))), (1, 2, (.pair (.int .i64) (.pair (.int .i64) .unit))), (1, 3, (.pair (.int .i64) (.pair (.int .i64) .unit))), (1, 4, (.pair (.int .i64) (.pair (.int .i64) .unit))), (1, 5, (.pair (.int .i64) (.pair (.int .i64) .unit))), (1, 6, (.int .i64))], false⟩), (38, ⟨[1, 53, 54, 55], [(53, (.int .i64))], [(1, 1, (.pair (.int .i64) (.pair (.int .i64) .unit))), (1, 2, (.pair (.int .i64) (.pair (.int .i64) .unit))), (1, 3, (.pair (.int .i64) (.pair (.int .i64) .unit))), (1, 4, (.pair (.int .i64) (.pair (.int .i64) .unit))), (1, 5, (.pair (.int .i64) (.pair (.int .i64) .unit))), (1, 6, (.int .i64))], false⟩)]⟩
inductive spec_GoodInterval.Pt where
  | p0 (a0 : (Int) × ((List ((Int) × ((Int) × (Unit)))) × ((List ((Int) × ((Int) × (Unit)))) × ((List ((Int) × ((Int) × (Unit)))) × ((List ((Int) × ((Int) × (Unit)))) × ((List ((Int) × ((Int) × (Unit)))) × ((List (Int)) × (Unit))))))))
  | p7 (y1 : List ((Int) × ((Int) × (Unit)))) (y2 : Int) (y3 : Int) (y4 : Int) (y5 : List ((Int) × ((Int) × (Unit)))) (y6 : List ((Int) × ((Int) × (Unit)))) (y7 : List ((Int) × ((Int) × (Unit)))) (y8 : List ((Int) × ((Int) × (Unit)))) (y9 : List ((Int) × ((Int) × (Unit)))) (y10 : List (Int))
  | p18 (y1 : List ((Int) × ((Int) × (Unit)))) (y2 : Int) (y3 : Int) (y4 : Bool) (y5 : Int) (y6 : List ((Int) × ((Int) × (Unit)))) (y7 : List ((Int) × ((Int) × (Unit)))) (y8 : List ((Int) × ((Int) × (Unit)))) (y9 : List ((Int) × ((Int) × (Unit)))) (y10 : List ((Int) × ((Int) × (Unit)))) (y11 : List (Int))
  | p27 (y1 : Bool) (y2 : Int) (y3 : List ((Int) × ((Int) × (Unit)))) (y4 : List ((Int) × ((Int) × (Unit)))) (y5 : List ((Int) × ((Int) × (Unit)))) (y6 : List ((Int) × ((Int) × (Unit)))) (y7 : List ((Int) × ((Int) × (Unit)))) (y8 : List (Int))
  | p38 (y1 : List (Int)) (y2 : Int) (y3 : Int) (y4 : Int) (y5 : List ((Int) × ((Int) × (Unit)))) (y6 : List ((Int) × ((Int) × (Unit)))) (y7 : List ((Int) × ((Int) × (Unit)))) (y8 : List ((Int) × ((Int) × (Unit)))) (y9 : List ((Int) × ((Int) × (Unit)))) (y10 : List (Int))
def spec_GoodInterval.lb : spec_GoodInterval.Pt → Nat
  | .p0 _ => 0
  | .p7 _ _ _ _ _ _ _ _ _ _ => 7
  | .p18 _ _ _ _ _ _ _ _ _ _ _ => 18
  | .p27 _ _ _ _ _ _ _ _ => 27
  | .p38 _ _ _ _ _ _ _ _ _ _ => 38
def spec_GoodInterval.st : spec_GoodInterval.Pt → St
  | .p0 a0 => enter [.v (.pair (.int .i64) (.pair (.sl false (.pair (.int .i64) (.pair (.int .i64) .unit))) (.pair (.sl false (.pair (.int .i64) (.pair (.int .i64) .unit))) (.pair (.sl false (.pair (.int .i64) (.pair (.int .i64) .unit))) (.pair (.sl false (.pair (.int .i64) (.pair (.int .i64) .unit))) (.pair (.sl false (.pair (.int .i64) (.pair (.int .i64) .unit))) (.pair (.sl false (.int .i64)) .unit))))))) a0] 0
  | .p7 y1 y2 y3 y4 y5 y6 y7 y8 y9 y10 => ⟨[(1, .po 0 0), (8, .im (.sl false (.pair (.int .i64) (.pair (.int .i64) .unit))) y1), (9, .im (.int .i64) y2), (10, .im (.int .i64) y3)], [(0, .obj [.im (.int .i64) y4, .im (.sl false (.pair (.int .i64) (.pair (.int .i64) .unit))) y5, .im (.sl false (.pair (.int .i64) (.pair (.int .i64) .unit))) y6, .im (.sl false (.pair (.int .i64) (.pair (.int .i64) .unit))) y7, .im (.sl false (.pair (.int .i64) (.pair (.int .i64) .unit))) y8, .im (.sl false (.pair (.int .i64) (.pair (.int .i64) .unit))) y9, .im (.sl false (.int .i64)) y10])], 1⟩
  | .p18 y1 y2 y3 y4 y5 y6 y7 y8 y9 y10 y11 => ⟨[(1, .po 0 0), (8, .im (.sl false (.pair (.int .i64) (.pair (.int .i64) .unit))) y1), (9, .im (.int .i64) y2), (10, .im (.int .i64) y3), (30, .im .bool y4)], [(0, .obj [.im (.int .i64) y5, .im (.sl false (.pair (.int .i64) (.pair (.int .i64) .unit))) y6, .im (.sl false (.pair (.int .i64) (.pair (.int .i64) .unit))) y7, .im (.sl false (.pair (.int .i64) (.pair (.int .i64) .unit))) y8, .im (.sl false (.pair (.int .i64) (.pair (.int .i64) .unit))) y9, .im (.sl false (.pair (.int .i64) (.pair (.int .i64) .unit))) y10, .im (.sl false (.int .i64)) y11])], 1⟩
  | .p27 y1 y2 y3 y4 y5 y6 y7 y8 => ⟨[(1, .po 0 0), (51, .im .bool y1)], [(0, .obj [.im (.int .i64) y2, .im (.sl false (.pair (.int .i64) (.pair (.int .i64) .unit))) y3, .im (.sl false (.pair (.int .i64) (.pair (.int .i64) .unit))) y4, .im (.sl false (.pair (.int .i64) (.pair (.int .i64) .unit))) y5, .im (.sl false (.pair (.int .i64) (.pair (.int .i64) .unit))) y6, .im (.sl false (.pair (.int .i64) (.pair (.int .i64) .unit))) y7, .im (.sl false (.int .i64)) y8])], 1⟩
  | .p38 y1 y2 y3 y4 y5 y6 y7 y8 y9 y10 => ⟨[(1, .po 0 0), (53, .im (.sl false (.int .i64)) y1), (54, .im (.int .i64) y2), (55, .im (.int .i64) y3)], [(0, .obj [.im (.int .i64) y4, .im (.sl false (.pair (.int .i64) (.pair (.int .i64) .unit))) y5, .im (.sl false (.pair (.int .i64) (.pair (.int .i64) .unit))) y6, .im (.sl false (.pair (.int .i64) (.pair (.int .i64) .unit))) y7, .im (.sl false (.pair (.int .i64) (.pair (.int .i64) .unit))) y8, .im (.sl false (.pair (.int .i64) (.pair (.int .i64) .unit))) y9, .im (.sl false (.int .i64)) y10])], 1⟩
def spec_GoodInterval.step (n : Nat) (K : spec_GoodInterval.Pt → Option (Tup [.bool])) : spec_GoodInterval.Pt → Option (Tup [.bool])
  | .p0 a0 => K (.p7 a0.2.2.2.1 ((List.length a0.2.2.2.1) : Int) (0 : Int) a0.1 a0.2.1 a0.2.2.1 a0.2.2.2.1 a0.2.2.2.2.1 a0.2.2.2.2.2.1 a0.2.2.2.2.2.2.1)
  | .p7 y1 y2 y3 y4 y5 y6 y7 y8 y9 y10 => cond (decide (y3 < y2)) (cond (inB y3 (List.length y1)) (cond (decide ((List.getD y1 (Int.toNat y3) default).1 = (0 : Int))) (K (.p18 y1 y2 y3 true y4 y5 y6 y7 y8 y9 y10)) (cond (decide ((List.getD y1 (Int.toNat y3) default).2.1 = (0 : Int))) (K (.p18 y1 y2 y3 true y4 y5 y6 y7 y8 y9 y10)) (K (.p18 y1 y2 y3 ((decide ((List.getD y1 (Int.toNat y3) default).1 < (0 : Int))) != (decide ((List.getD y1 (Int.toNat y3) default).2.1 < (0 : Int)))) y4 y5 y6 y7 y8 y9 y10)))) (none)) (cond (decide (y4 < (-(1440 : Int)))) (K (.p27 true y4 y5 y6 y7 y8 y9 y10)) (cond (decide ((1440 : Int) < y4)) (K (.p27 true y4 y5 y6 y7 y8 y9 y10)) (cond (decide ((10 : Int) < ((List.length y10) : Int))) (K (.p27 true y4 y5 y6 y7 y8 y9 y10)) ((spec_l9Numbers n y10).bind fun r13 => K (.p27 (!r13) y4 y5 y6 y7 y8 y9 y10)))))
  | .p18 y1 y2 y3 y4 y5 y6 y7 y8 y9 y10 y11 => cond y4 (some false) (K (.p7 y1 y2 (IntKind.wrap .i64 (y3 + (1 : Int))) y5 y6 y7 y8 y9 y10 y11))
  | .p27 y1 y2 y3 y4 y5 y6 y7 y8 => cond y1 (some false) (K (.p38 y8 ((List.length y8) : Int) (0 : Int) y2 y3 y4 y5 y6 y7 y8))
  | .p38 y1 y2 y3 y4 y5 y6 y7 y8 y9 y10 => cond (decide (y3 < y2)) (cond (inB y3 (List.length y1)) (cond (decide ((List.getD y1 (Int.toNat y3) default) < (0 : Int))) (some false) (cond (decide ((20000000 : Int) < (List.getD y1 (Int.toNat y3) default))) (some false) (K (.p38 y1 y2 (IntKind.wrap .i64 (y3 + (1 : Int))) y4 y5 y6 y7 y8 y9 y10)))) (none)) ((spec_l19Ranges n y5 (0 : Int) (1439 : Int)).bind fun r13 => cond r13 ((spec_l19Ranges n y6 (0 : Int) (6 : Int)).bind fun r14 => cond r14 ((spec_l19Ranges n y7 (-(31 : Int)) (31 : Int)).bind fun r15 => cond r15 ((spec_l19Ranges n y8 (1 : Int) (12 : Int)).bind fun r16 => cond r16 ((spec_l19Ranges n y9 (1970 : Int) (40000 : Int)).bind fun r17 => some r17) (some false)) (some false)) (some false)) (some false))
def spec_GoodInterval (n : Nat) (a0 : (Int) × ((List ((Int) × ((Int) × (Unit)))) × ((List ((Int) × ((Int) × (Unit)))) × ((List ((Int) × ((Int) × (Unit)))) × ((List ((Int) × ((Int) × (Unit)))) × ((List ((Int) × ((Int) × (Unit)))) × ((List (Int)) × (Unit)))))))) : Option (Tup [.bool]) := goRec spec_GoodInterval.step n (.p0 a0)
def spec_GoodInterval.spec : Ctr := ⟨7, [.v (.pair (.int .i64) (.pair (.sl false (.pair (.int .i64) (.pair (.int .i64) .unit))) (.pair (.sl false (.pair (.int .i64) (.pair (.int .i64) .unit))) (.pair (.sl false (.pair (.int .i64) (.pair (.int .i64) .unit))) (.pair (.sl false (.pair (.int .i64) (.pair (.int .i64) .unit))) (.pair (.sl false (.pair (.int .i64) (.pair (.int .i64) .unit))) (.pair (.sl false (.int .i64)) .unit)))))))], [.bool], [], fun n x => spec_GoodInterval n x.1⟩
theorem spec_GoodInterval.seg_eq : SegEq ty gl spec_GoodInterval.F spec_GoodInterval.md spec_GoodInterval.T spec_GoodInterval.spec spec_GoodInterval.lb spec_GoodInterval.st spec_GoodInterval.step := by
  intro n goto y; cases y <;> kernel_rfl
theorem spec_GoodInterval.text : Text Go.Proofs.Try.prog spec_GoodInterval.F spec_GoodInterval.spec := textOf Go.Proofs.Try.f7
theorem spec_GoodInterval.ok : CtrOK Go.Proofs.Try.prog gl spec_GoodInterval.spec :=
  ctr_okS tabs spec_GoodInterval.text spec_GoodInterval.seg_eq (fun n x => ⟨.p0 x.1, rfl, rfl, rfl⟩) (consC spec_l9Numbers.ok (consC spec_l19Ranges.ok (nilC)))

/-! loop.example/g00039/spec.l19In -/
def spec_l19In.T : List Ctr := []
def spec_l19In.md : List (Nat × List Md) := []
noncomputable def spec_l19In.F : Fun := ⟨(Go.Proofs.Try.f21.body).getD .skip, [.v (.sl false (.pair (.int .i64) (.pair (.int .i64) .unit))), .v (.int .i64)], [(.tmp 4, .bool)], [], 0, [(9, ⟨[1, 5, 11, 12, 13], [(11, (.pair (.int .i64) (.pair (.int .i64) .unit)))], [], false⟩)]⟩
inductive spec_l19In.Pt where
  | p0 (a0 : List ((Int) × ((Int) × (Unit)))) (a1 : Int)
  | p9 (y1 : Int) (y2 : Bool) (y3 : List ((Int) × ((Int) × (Unit)))) (y4 : Int) (y5 : Int)
def spec_l19In.lb : spec_l19In.Pt → Nat
  | .p0 _ _ => 0
  | .p9 _ _ _ _ _ => 9
def spec_l19In.st : spec_l19In.Pt → St
  | .p0 a0 a1 => enter [.v (.sl false (.pair (.int .i64) (.pair (.int .i64) .unit))) a0, .v (.int .i64) a1] 0
  | .p9 y1 y2 y3 y4 y5 => ⟨[(1, .im (.int .i64) y1), (5, .im .bool y2), (11, .im (.sl false (.pair (.int .i64) (.pair (.int .i64) .unit))) y3), (12, .im (.int .i64) y4), (13, .im (.int .i64) y5)], [], 0⟩
def spec_l19In.step (n : Nat) (K : spec_l19In.Pt → Option (Tup [.bool])) : spec_l19In.Pt → Option (Tup [.bool])
  | .p0 a0 a1 => K (.p9 a1 (decide (((List.length a0) : Int) = (0 : Int))) a0 ((List.length a0) : Int) (0 : Int))
  | .p9 y1 y2 y3 y4 y5 => cond (decide (y5 < y4)) (cond (inB y5 (List.length y3)) (cond y2 (K (.p9 y1 true y3 y4 (IntKind.wrap .i64 (y5 + (1 : Int))))) (cond (decide ((List.getD y3 (Int.toNat y5) default).1 ≤ y1)) (K (.p9 y1 (decide (y1 ≤ (List.getD y3 (Int.toNat y5) default).2.1)) y3 y4 (IntKind.wrap .i64 (y5 + (1 : Int))))) (K (.p9 y1 false y3 y4 (IntKind.wrap .i64 (y5 + (1 : Int))))))) (none)) (some y2)
def spec_l19In (n : Nat) (a0 : List ((Int) × ((Int) × (Unit)))) (a1 : Int) : Option (Tup [.bool]) := goRec spec_l19In.step n (.p0 a0 a1)
def spec_l19In.spec : Ctr := ⟨21, [.v (.sl false (.pair (.int .i64) (.pair (.int .i64) .unit))), .v (.int .i64)], [.bool], [], fun n x => spec_l19In n x.1 x.2.1⟩
theorem spec_l19In.seg_eq : SegEq ty gl spec_l19In.F spec_l19In.md spec_l19In.T spec_l19In.spec spec_l19In.lb spec_l19In.st spec_l19In.step := by
  intro n goto y; cases y <;> kernel_rfl
theorem spec_l19In.text : Text Go.Proofs.Try.prog spec_l19In.F spec_l19In.spec := textOf Go.Proofs.Try.f21
theorem spec_l19In.ok : CtrOK Go.Proofs.Try.prog gl spec_l19In.spec :=
  ctr_okS tabs spec_l19In.text spec_l19In.seg_eq (fun n x => ⟨.p0 x.1 x.2.1, rfl, rfl, rfl⟩) (nilC)

/-! loop.example/g00039/spec.l9In -/
def spec_l9In.T : List Ctr := []
def spec_l9In.md : List (Nat × List Md) := []
noncomputable def spec_l9In.F : Fun := ⟨(Go.Proofs.Try.f22.body).getD .skip, [.v (.sl false (.int .i64)), .v (.int .i64)], [(.tmp 4, .bool)], [], 0, [(7, ⟨[1, 7, 8, 9], [(7, (.int .i64))], [], false⟩)]⟩
inductive spec_l9In.Pt where
  | p0 (a0 : List (Int)) (a1 : Int)
  | p7 (y1 : Int) (y2 : List (Int)) (y3 : Int) (y4 : Int)
def spec_l9In.lb : spec_l9In.Pt → Nat
  | .p0 _ _ => 0
  | .p7 _ _ _ _ => 7
def spec_l9In.st : spec_l9In.Pt → St
  | .p0 a0 a1 => enter [.v (.sl false (.int .i64)) a0, .v (.int .i64) a1] 0
  | .p7 y1 y2 y3 y4 => ⟨[(1, .im (.int .i64) y1), (7, .im (.sl false (.int .i64)) y2), (8, .im (.int .i64) y3), (9, .im (.int .i64) y4)], [], 0⟩
def spec_l9In.step (n : Nat) (K : spec_l9In.Pt → Option (Tup [.bool])) : spec_l9In.Pt → Option (Tup [.bool])
  | .p0 a0 a1 => K (.p7 a1 a0 ((List.length a0) : Int) (0 : Int))
  | .p7 y1 y2 y3 y4 => cond (decide (y4 < y3)) (cond (inB y4 (List.length y2)) (cond (decide ((List.getD y2 (Int.toNat y4) default) = y1)) (some true) (K (.p7 y1 y2 y3 (IntKind.wrap .i64 (y4 + (1 : Int)))))) (none)) (some false)
def spec_l9In (n : Nat) (a0 : List (Int)) (a1 : Int) : Option (Tup [.bool]) := goRec spec_l9In.step n (.p0 a0 a1)
def spec_l9In.spec : Ctr := ⟨22, [.v (.sl false (.int .i64)), .v (.int .i64)], [.bool], [], fun n x => spec_l9In n x.1 x.2.1⟩
theorem spec_l9In.seg_eq : SegEq ty gl spec_l9In.F spec_l9In.md spec_l9In.T spec_l9In.spec spec_l9In.lb spec_l9In.st spec_l9In.step := by
  intro n goto y; cases y <;> kernel_rfl
theorem spec_l9In.text : Text Go.Proofs.Try.prog spec_l9In.F spec_l9In.spec := textOf Go.Proofs.Try.f22
theorem spec_l9In.ok : CtrOK Go.Proofs.Try.prog gl spec_l9In.spec :=
  ctr_okS tabs spec_l9In.text spec_l9In.seg_eq (fun n x => ⟨.p0 x.1 x.2.1, rfl, rfl, rfl⟩) (nilC)

/-! loop.example/g00039/spec.InInterval -/
def spec_InInterval.T : List Ctr := [spec_DayNumber.spec, spec_l3Time.spec, spec_DateOf.spec, spec_GoodInterval.spec, spec_l19In.spec, spec_l9In.spec]
def spec_InInterval.md : List (Nat × List Md) := []
noncomputable def spec_InInterval.F : Fun := ⟨(Go.Proofs.Try.f6.body).getD .skip, [.v (.pair (.int .i64) (.pair (.sl false (.pair (.int .i64) (.pair (.int .i64) .unit))) (.pair (.sl false (.pair (.int .i64) (.pair (.int .i64) .unit))) (.pair (.sl false (.pair (.int .i64) (.pair (.int .i64) .unit))) (.pair (.sl false (.pair (.int .i64) (.pair (.int .i64) .unit))) (.pair (.sl false (.pair (.int .i64) (.pair (.int .i64) .unit))) (.pair (.sl false (.int .i64)) .unit))))))), .v (.int .i64)], [(.tmp 4, .bool)], [], 0, [(4, ⟨[1, 2, 14], [], [(2, 1, (.pair (.int .i64) (.pair (.int .i64) .unit))), (2, 2, (.pair (.int .i64) (.pair (.int .i64) .unit))), (2, 3, (.pair (.int .i64) (.pair (.int .i64) .unit))), (2, 4, (.pair (.int .i64) (.pair (.int .i64) .unit))), (2, 5, (.pair (.int .i64) (.pair (.int .i64) .unit))), (2, 6, (.int .i64))], false⟩), (21, ⟨[2, 5, 6], [], [(2, 1, (.pair (.int .i64) (.pair (.int .i64) .unit))), (2, 2, (.pair (.int .i64) (.pair (.int .i64) .unit))), (2, 3, (.pair (.int .i64) (.pair (.int .i64) .unit))), (2, 4, (.pair (.int .i64) (.pair (.int .i64) .unit))), (2, 5, (.pair (.int .i64) (.pair (.int .i64) .unit))), (2, 6, (.int .i64))], false⟩)]⟩
inductive spec_InInterval.Pt where
  | p0 (a0 : (Int) × ((List ((Int) × ((Int) × (Unit)))) × ((List ((Int) × ((Int) × (Unit)))) × ((List ((Int) × ((Int) × (Unit)))) × ((List ((Int) × ((Int) × (Unit)))) × ((List ((Int) × ((Int) × (Unit)))) × ((List (Int)) × (Unit)))))))) (a1 : Int)
  | p4 (y1 : Int) (y2 : Bool) (y3 : Int) (y4 : List ((Int) × ((Int) × (Unit)))) (y5 : List ((Int) × ((Int) × (Unit)))) (y6 : List ((Int) × ((Int) × (Unit)))) (y7 : List ((Int) × ((Int) × (Unit)))) (y8 : List ((Int) × ((Int) × (Unit)))) (y9 : List (Int))
  | p21 (y1 : Bool) (y2 : Int) (y3 : List ((Int) × ((Int) × (Unit)))) (y4 : List ((Int) × ((Int) × (Unit)))) (y5 : List ((Int) × ((Int) × (Unit)))) (y6 : List ((Int) × ((Int) × (Unit)))) (y7 : List ((Int) × ((Int) × (Unit)))) (y8 : List (Int)) (y9 : Int) (y10 : Int) (y11 : Int) (y12 : Int) (y13 : Int) (y14 : Int)
def spec_InInterval.lb : spec_InInterval.Pt → Nat
  | .p0 _ _ => 0
  | .p4 _ _ _ _ _ _ _ _ _ => 4
  | .p21 _ _ _ _ _ _ _ _ _ _ _ _ _ _ => 21
def spec_InInterval.st : spec_InInterval.Pt → St
  | .p0 a0 a1 => enter [.v (.pair (.int .i64) (.pair (.sl false (.pair (.int .i64) (.pair (.int .i64) .unit))) (.pair (.sl false (.pair (.int .i64) (.pair (.int .i64) .unit))) (.pair (.sl false (.pair (.int .i64) (.pair (.int .i64) .unit))) (.pair (.sl false (.pair (.int .i64) (.pair (.int .i64) .unit))) (.pair (.sl false (.pair (.int .i64) (.pair (.int .i64) .unit))) (.pair (.sl false (.int .i64)) .unit))))))) a0, .v (.int .i64) a1] 0
  | .p4 y1 y2 y3 y4 y5 y6 y7 y8 y9 => ⟨[(1, .im (.int .i64) y1), (2, .po 0 0), (14, .im .bool y2)], [(0, .obj [.im (.int .i64) y3, .im (.sl false (.pair (.int .i64) (.pair (.int .i64) .unit))) y4, .im (.sl false (.pair (.int .i64) (.pair (.int .i64) .unit))) y5, .im (.sl false (.pair (.int .i64) (.pair (.int .i64) .unit))) y6, .im (.sl false (.pair (.int .i64) (.pair (.int .i64) .unit))) y7, .im (.sl false (.pair (.int .i64) (.pair (.int .i64) .unit))) y8, .im (.sl false (.int .i64)) y9])], 1⟩
  | .p21 y1 y2 y3 y4 y5 y6 y7 y8 y9 y10 y11 y12 y13 y14 => ⟨[(2, .po 0 0), (5, .po 1 0), (6, .im .bool y1)], [(0, .obj [.im (.int .i64) y2, .im (.sl false (.pair (.int .i64) (.pair (.int .i64) .unit))) y3, .im (.sl false (.pair (.int .i64) (.pair (.int .i64) .unit))) y4, .im (.sl false (.pair (.int .i64) (.pair (.int .i64) .unit))) y5, .im (.sl false (.pair (.int .i64) (.pair (.int .i64) .unit))) y6, .im (.sl false (.pair (.int .i64) (.pair (.int .i64) .unit))) y7, .im (.sl false (.int .i64)) y8]), (1, .obj [.im (.int .i64) y9, .im (.int .i64) y10, .im (.int .i64) y11, .im (.int .i64) y12, .im (.int .i64) y13, .im (.int .i64) y14])], 2⟩
def spec_InInterval.step (n : Nat) (K : spec_InInterval.Pt → Option (Tup [.bool])) : spec_InInterval.Pt → Option (Tup [.bool])
  | .p0 a0 a1 => (spec_GoodInterval n a0).bind fun r5 => cond (!r5) (K (.p4 a1 true a0.1 a0.2.1 a0.2.2.1 a0.2.2.2.1 a0.2.2.2.2.1 a0.2.2.2.2.2.1 a0.2.2.2.2.2.2.1)) ((spec_l3Time n a1).bind fun r6 => K (.p4 a1 (!r6) a0.1 a0.2.1 a0.2.2.1 a0.2.2.2.1 a0.2.2.2.2.1 a0.2.2.2.2.2.1 a0.2.2.2.2.2.2.1))
  | .p4 y1 y2 y3 y4 y5 y6 y7 y8 y9 => cond y2 (some false) ((spec_DateOf n y1 y3).bind fun r12 => cond (decide (r12.1 = (0 : Int))) (some false) (cond (decide (((List.length y6) : Int) = (0 : Int))) (K (.p21 true y3 y4 y5 y6 y7 y8 y9 r12.1 r12.2.1 r12.2.2.1 r12.2.2.2.1 r12.2.2.2.2.1 r12.2.2.2.2.2.1)) ((spec_l19In n y6 r12.2.2.1).bind fun r13 => cond r13 (K (.p21 true y3 y4 y5 y6 y7 y8 y9 r12.1 r12.2.1 r12.2.2.1 r12.2.2.2.1 r12.2.2.2.2.1 r12.2.2.2.2.2.1)) ((spec_l19In n y6 (IntKind.wrap .i64 ((IntKind.wrap .i64 (r12.2.2.1 - r12.2.2.2.1)) - (1 : Int)))).bind fun r14 => K (.p21 r14 y3 y4 y5 y6 y7 y8 y9 r12.1 r12.2.1 r12.2.2.1 r12.2.2.2.1 r12.2.2.2.2.1 r12.2.2.2.2.2.1)))))
  | .p21 y1 y2 y3 y4 y5 y6 y7 y8 y9 y10 y11 y12 y13 y14 => cond y1 ((spec_l19In n y3 y14).bind fun r17 => cond r17 ((spec_l19In n y4 y13).bind fun r18 => cond r18 ((spec_l19In n y6 y10).bind fun r19 => cond r19 ((spec_l19In n y7 y9).bind fun r20 => cond r20 ((spec_DayNumber n y9 y10 y11).bind fun (r21 : Int) => (spec_l9In n y8 r21).bind fun r22 => some (!r22)) (some false)) (some false)) (some false)) (some false)) (some false)
def spec_InInterval (n : Nat) (a0 : (Int) × ((List ((Int) × ((Int) × (Unit)))) × ((List ((Int) × ((Int) × (Unit)))) × ((List ((Int) × ((Int) × (Unit)))) × ((List ((Int) × ((Int) × (Unit)))) × ((List ((Int) × ((Int) × (Unit)))) × ((List (Int)) × (Unit)))))))) (a1 : Int) : Option (Tup [.bool]) := goRec spec_InInterval.step n (.p0 a0 a1)
def spec_InInterval.spec : Ctr := ⟨6, [.v (.pair (.int .i64) (.pair (.sl false (.pair (.int .i64) (.pair (.int .i64) .unit))) (.pair (.sl false (.pair (.int .i64) (.pair (.int .i64) .unit))) (.pair (.sl false (.pair (.int .i64) (.pair (.int .i64) .unit))) (.pair (.sl false (.pair (.int .i64) (.pair (.int .i64) .unit))) (.pair (.sl false (.pair (.int .i64) (.pair (.int .i64) .unit))) (.pair (.sl false (.int .i64)) .unit))))))), .v (.int .i64)], [.bool], [], fun n x => spec_InInterval n x.1 x.2.1⟩
theorem spec_InInterval.seg_eq : SegEq ty gl spec_InInterval.F spec_InInterval.md spec_InInterval.T spec_InInterval.spec spec_InInterval.lb spec_InInterval.st spec_InInterval.step := by
  intro n goto y; cases y <;> kernel_rfl
theorem spec_InInterval.text : Text Go.Proofs.Try.prog spec_InInterval.F spec_InInterval.spec := textOf Go.Proofs.Try.f6
theorem spec_InInterval.ok : CtrOK Go.Proofs.Try.prog gl spec_InInterval.spec :=
  ctr_okS tabs spec_InInterval.text spec_InInterval.seg_eq (fun n x => ⟨.p0 x.1 x.2.1, rfl, rfl, rfl⟩) (consC spec_DayNumber.ok (consC spec_l3Time.ok (consC spec_DateOf.ok (consC spec_GoodInterval.ok (consC spec_l19In.ok (consC spec_l9In.ok (nilC)))))))

/-! loop.example/g00039/laws.FnIntervals -/
def laws_FnIntervals.T : List Ctr := [spec_DayNumber.spec, spec_DateOf.spec, spec_DrawInInterval.spec, impl_InInterval.spec, spec_GoodInterval.spec, spec_InInterval.spec]
def laws_FnIntervals.md : List (Nat × List Md) := [(4, [.c (.bs (.int .u8))])]
noncomputable def laws_FnIntervals.F : Fun := ⟨(Go.Proofs.Try.f3.body).getD .skip, [.v (.bs (.int .u8))], [(.tmp 2, .bool)], [], 0, [(24, ⟨[3, 4, 5, 33], [], [(3, 1, (.pair (.int .i64) (.pair (.int .i64) .unit))), (3, 2, (.pair (.int .i64) (.pair (.int .i64) .unit))), (3, 3, (.pair (.int .i64) (.pair (.int .i64) .unit))), (3, 4, (.pair (.int .i64) (.pair (.int .i64) .unit))), (3, 5, (.pair (.int .i64) (.pair (.int .i64) .unit))), (3, 6, (.int .i64))], false⟩)]⟩
inductive laws_FnIntervals.Pt where
  | p0 (a0 : List (Int))
  | p24 (y1 : Int) (y2 : Bool) (y3 : Bool) (y4 : Int) (y5 : List ((Int) × ((Int) × (Unit)))) (y6 : List ((Int) × ((Int) × (Unit)))) (y7 : List ((Int) × ((Int) × (Unit)))) (y8 : List ((Int) × ((Int) × (Unit)))) (y9 : List ((Int) × ((Int) × (Unit)))) (y10 : List (Int))
def laws_FnIntervals.lb : laws_FnIntervals.Pt → Nat
  | .p0 _ => 0
  | .p24 _ _ _ _ _ _ _ _ _ _ => 24
def laws_FnIntervals.st : laws_FnIntervals.Pt → St
  | .p0 a0 => enter [.v (.bs (.int .u8)) a0] 0
  | .p24 y1 y2 y3 y4 y5 y6 y7 y8 y9 y10 => ⟨[(3, .po 0 0), (4, .im (.int .i64) y1), (5, .im .bool y2), (33, .im .bool y3)], [(0, .obj [.im (.int .i64) y4, .hs 1 [] none 0, .hs 2 [] none 0, .hs 3 [] none 0, .hs 4 [] none 0, .hs 5 [] none 0, .hs 6 [] none 0]), (1, .arr false (.pair (.int .i64) (.pair (.int .i64) .unit)) y5 0), (2, .arr false (.pair (.int .i64) (.pair (.int .i64) .unit)) y6 0), (3, .arr false (.pair (.int .i64) (.pair (.int .i64) .unit)) y7 0), (4, .arr false (.pair (.int .i64) (.pair (.int .i64) .unit)) y8 0), (5, .arr false (.pair (.int .i64) (.pair (.int .i64) .unit)) y9 0), (6, .arr false (.int .i64) y10 0)], 7⟩
def laws_FnIntervals.step (n : Nat) (K : laws_FnIntervals.Pt → Option (Tup [.bool])) : laws_FnIntervals.Pt → Option (Tup [.bool])
  | .p0 a0 => cond (decide ((1048576 : Int) < ((List.length a0) : Int))) (some true) ((spec_DrawInInterval n a0).bind fun r4 => (impl_InInterval n r4.1 r4.2).bind fun r5 => (spec_InInterval n r4.1 r4.2).bind fun r6 => cond (r5 != r6) (some false) ((spec_GoodInterval n r4.1).bind fun r7 => cond (!r7) (K (.p24 r4.2 r5 true r4.1.1 r4.1.2.1 r4.1.2.2.1 r4.1.2.2.2.1 r4.1.2.2.2.2.1 r4.1.2.2.2.2.2.1 r4.1.2.2.2.2.2.2.1)) (cond (decide (r4.2 < (0 : Int))) (K (.p24 r4.2 r5 true r4.1.1 r4.1.2.1 r4.1.2.2.1 r4.1.2.2.2.1 r4.1.2.2.2.2.1 r4.1.2.2.2.2.2.1 r4.1.2.2.2.2.2.2.1)) (K (.p24 r4.2 r5 (decide ((1000000000000 : Int) < r4.2)) r4.1.1 r4.1.2.1 r4.1.2.2.1 r4.1.2.2.2.1 r4.1.2.2.2.2.1 r4.1.2.2.2.2.2.1 r4.1.2.2.2.2.2.2.1)))))
  | .p24 y1 y2 y3 y4 y5 y6 y7 y8 y9 y10 => cond y3 (some (!y2)) ((spec_DateOf n y1 y4).bind fun r13 => cond (decide (r13.1 = (0 : Int))) (some (!y2)) ((impl_InInterval n (y4, (([] : List ((Int) × ((Int) × (Unit)))), (([] : List ((Int) × ((Int) × (Unit)))), (([] : List ((Int) × ((Int) × (Unit)))), (([] : List ((Int) × ((Int) × (Unit)))), (([] : List ((Int) × ((Int) × (Unit)))), (([] : List (Int)), ()))))))) y1).bind fun r14 => cond (!r14) (some false) ((spec_DayNumber n r13.1 r13.2.1 r13.2.2.1).bind fun (r15 : Int) => (impl_InInterval n (y4, (y5, (y6, (y7, (y8, (y9, ([r15], ()))))))) y1).bind fun r16 => some (!r16))))
def laws_FnIntervals (n : Nat) (a0 : List (Int)) : Option (Tup [.bool]) := goRec laws_FnIntervals.step n (.p0 a0)
def laws_FnIntervals.spec : Ctr := ⟨3, [.v (.bs (.int .u8))], [.bool], [], fun n x => laws_FnIntervals n x.1⟩
theorem laws_FnIntervals.seg_eq : SegEq ty gl laws_FnIntervals.F laws_FnIntervals.md laws_FnIntervals.T laws_FnIntervals.spec laws_FnIntervals.lb laws_FnIntervals.st laws_FnIntervals.step := by
  intro n goto y; cases y <;> kernel_rfl
theorem laws_FnIntervals.text : Text Go.Proofs.Try.prog laws_FnIntervals.F laws_FnIntervals.spec := textOf Go.Proofs.Try.f3
theorem laws_FnIntervals.ok : CtrOK Go.Proofs.Try.prog gl laws_FnIntervals.spec :=
  ctr_okS tabs laws_FnIntervals.text laws_FnIntervals.seg_eq (fun n x => ⟨.p0 x.1, rfl, rfl, rfl⟩) (consC spec_DayNumber.ok (consC spec_DateOf.ok (consC spec_DrawInInterval.ok (consC impl_InInterval.ok (consC spec_GoodInterval.ok (consC spec_InInterval.ok (nilC)))))))
end Go.IV
