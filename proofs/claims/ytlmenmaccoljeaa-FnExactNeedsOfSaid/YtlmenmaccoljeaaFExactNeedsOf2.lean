/- The functions that the law reaches, each as a Lean function and with its contract, part 2. -/
import Derived.Test.YtlmenmaccoljeaaV1
import Derived.Test.YtlmenmaccoljeaaV2
import Derived.Test.YtlmenmaccoljeaaV3
import Derived.Test.YtlmenmaccoljeaaV4
import Derived.Lib.Bytealg
import Derived.Shelf.Lays
import Derived.Shelf.Small.Strs
import Derived.Test.YtlmenmaccoljeaaProg
import Derived.Test.YtlmenmaccoljeaaFExactNeedsOf1
open Go Go.VM
namespace Go.NE
set_option maxRecDepth 100000
set_option linter.unusedVariables false
set_option linter.unusedSimpArgs false
set_option linter.unusedSectionVars false
variable [Bor]
/-! loop.example/g00039/impl.NeedsOf$1 -/
def impl_NeedsOf_1.T : List Ctr := [impl_momentOf.spec]
def impl_NeedsOf_1.md : List (Nat × List Md) := [(20, [.v, .v, .v, .v, .p (.sl false cU5), .me 20 4]), (1000020, [.p (.sl false cU5), .me 20 4])]
noncomputable def impl_NeedsOf_1.F : Fun := ⟨(Go.Proofs.Try.f20.body).getD .skip, [.v (.pt cU0), .v (.int .i64), .v (.int .i64), .v (.int .i64), .p (.sl false cU5), .me 20 4], [], [some (.sl false cU5)], 1, [(1, ⟨[0, 1, 2, 3, 4, 5], [], [], false⟩), (2, ⟨[0, 1, 2, 3, 4, 5, 26], [], [], false⟩), (10, ⟨[0, 1, 2, 3, 5], [], [], false⟩), (22, ⟨[0, 1, 2, 3, 4, 10], [(10, cU3)], [], false⟩), (43, ⟨[1, 2, 3, 5, 100, 101, 102], [(100, (.pt cU0))], [], false⟩)]⟩
inductive impl_NeedsOf_1.Pt where
  | p0 (a0 : Tr (tU1)) (a1 : Int) (a2 : Int) (a3 : Int) (a4 : List (tU6)) (a5 : Unit)
  | p2 (y1 : Tr (tU1)) (y2 : Int) (y3 : Int) (y4 : Int) (y5 : Bool) (y6 : List (tU6))
  | p1 (y1 : Tr (tU1)) (y2 : Int) (y3 : Int) (y4 : Int) (y5 : List (tU6))
  | p22 (y1 : Tr (tU1)) (y2 : Int) (y3 : Int) (y4 : Int) (y5 : List (tU4)) (y6 : List (tU6))
  | p10 (y1 : Tr (tU1)) (y2 : Int) (y3 : Int) (y4 : Int) (y5 : List (tU6))
  | p43 (y1 : Int) (y2 : Int) (y3 : Int) (y4 : List (Tr (tU1))) (y5 : Int) (y6 : Int) (y7 : List (tU6))
def impl_NeedsOf_1.lb : impl_NeedsOf_1.Pt → Nat
  | .p0 _ _ _ _ _ _ => 0
  | .p2 _ _ _ _ _ _ => 2
  | .p1 _ _ _ _ _ => 1
  | .p22 _ _ _ _ _ _ => 22
  | .p10 _ _ _ _ _ => 10
  | .p43 _ _ _ _ _ _ _ => 43
def impl_NeedsOf_1.st : impl_NeedsOf_1.Pt → St
  | .p0 a0 a1 a2 a3 a4 a5 => enter [.v (.pt cU0) a0, .v (.int .i64) a1, .v (.int .i64) a2, .v (.int .i64) a3, .p (.sl false cU5) a4, .me 20 4] 1
  | .p2 y1 y2 y3 y4 y5 y6 => ⟨[(0, .im (.pt cU0) y1), (1, .im (.int .i64) y2), (2, .im (.int .i64) y3), (3, .im (.int .i64) y4), (4, .po 0 0), (5, .px 20 [.po 0 0] 2), (26, .im .bool y5)], [(0, .obj [.hs 1 [] none 0]), (1, .arr false cU5 y6 0)], 2⟩
  | .p1 y1 y2 y3 y4 y5 => ⟨[(0, .im (.pt cU0) y1), (1, .im (.int .i64) y2), (2, .im (.int .i64) y3), (3, .im (.int .i64) y4), (4, .po 0 0), (5, .px 20 [.po 0 0] 2)], [(0, .obj [.hs 1 [] none 0]), (1, .arr false cU5 y5 0)], 2⟩
  | .p22 y1 y2 y3 y4 y5 y6 => ⟨[(0, .im (.pt cU0) y1), (1, .im (.int .i64) y2), (2, .im (.int .i64) y3), (3, .im (.int .i64) y4), (4, .po 0 0), (10, .hs 1 [] none 0)], [(0, .obj [.hs 2 [] none 0]), (1, .arr true cU3 y5 0), (2, .arr false cU5 y6 0)], 3⟩
  | .p10 y1 y2 y3 y4 y5 => ⟨[(0, .im (.pt cU0) y1), (1, .im (.int .i64) y2), (2, .im (.int .i64) y3), (3, .im (.int .i64) y4), (5, .px 20 [.po 0 0] 2)], [(0, .obj [.hs 1 [] none 0]), (1, .arr false cU5 y5 0)], 2⟩
  | .p43 y1 y2 y3 y4 y5 y6 y7 => ⟨[(1, .im (.int .i64) y1), (2, .im (.int .i64) y2), (3, .im (.int .i64) y3), (5, .px 20 [.po 0 0] 2), (100, .im (.sl false (.pt cU0)) y4), (101, .im (.int .i64) y5), (102, .im (.int .i64) y6)], [(0, .obj [.hs 1 [] none 0]), (1, .arr false cU5 y7 0)], 2⟩
def impl_NeedsOf_1.step (n : Nat) (self : Ty.Els [.v (.pt cU0), .v (.int .i64), .v (.int .i64), .v (.int .i64), .p (.sl false cU5), .me 20 4] → Option (Tup [(.sl false cU5)])) (K : impl_NeedsOf_1.Pt → Option (Tup [(.sl false cU5)])) : impl_NeedsOf_1.Pt → Option (Tup [(.sl false cU5)])
  | .p0 a0 a1 a2 a3 a4 a5 => cond (Tr.is a0) (cond (decide ((Tr.val default a0).1 = (3 : Int))) (K (.p2 a0 a1 a2 a3 true a4)) (cond (Tr.is a0) (K (.p2 a0 a1 a2 a3 (decide ((Tr.val default a0).1 = (5 : Int))) a4)) (none))) (none)
  | .p2 y1 y2 y3 y4 y5 y6 => cond y5 (cond (Tr.is y1) ((impl_momentOf n ((Tr.val default y1).1, ((Tr.val default y1).2.1, ((Tr.val default y1).2.2.1, ((Tr.val default y1).2.2.2.1, ((Tr.val default y1).2.2.2.2.1, ((Tr.val default y1).2.2.2.2.2.1, ((Tr.val default y1).2.2.2.2.2.2.1, ((Tr.val default y1).2.2.2.2.2.2.2.1, ((Tr.val default y1).2.2.2.2.2.2.2.2.1, ((Tr.val default y1).2.2.2.2.2.2.2.2.2.1, ((Tr.val default y1).2.2.2.2.2.2.2.2.2.2.1, ((Tr.val default y1).2.2.2.2.2.2.2.2.2.2.2.1, ((Tr.val default y1).2.2.2.2.2.2.2.2.2.2.2.2.1, ((Tr.val default y1).2.2.2.2.2.2.2.2.2.2.2.2.2.1, (Tr.val default y1).2.2.2.2.2.2.2.2.2.2.2.2.2.2)))))))))))))) y2).bind fun (r9 : Int) => cond (Tr.is y1) ((impl_momentOf n ((Tr.val default y1).1, ((Tr.val default y1).2.1, ((Tr.val default y1).2.2.1, ((Tr.val default y1).2.2.2.1, ((Tr.val default y1).2.2.2.2.1, ((Tr.val default y1).2.2.2.2.2.1, ((Tr.val default y1).2.2.2.2.2.2.1, ((Tr.val default y1).2.2.2.2.2.2.2.1, ((Tr.val default y1).2.2.2.2.2.2.2.2.1, ((Tr.val default y1).2.2.2.2.2.2.2.2.2.1, ((Tr.val default y1).2.2.2.2.2.2.2.2.2.2.1, ((Tr.val default y1).2.2.2.2.2.2.2.2.2.2.2.1, ((Tr.val default y1).2.2.2.2.2.2.2.2.2.2.2.2.1, ((Tr.val default y1).2.2.2.2.2.2.2.2.2.2.2.2.2.1, (Tr.val default y1).2.2.2.2.2.2.2.2.2.2.2.2.2.2)))))))))))))) y3).bind fun (r10 : Int) => K (.p1 y1 r9 r10 y4 y6)) (none)) (none)) (K (.p1 y1 y2 y3 y4 y6))
  | .p1 y1 y2 y3 y4 y5 => cond (Tr.is y1) (cond (decide ((Tr.val default y1).1 = (3 : Int))) (cond (decide (y3 < (0 : Int))) (some y5) (cond (Tr.is y1) (cond (!(seq (Tr.val default y1).2.2.2.1 (⟨#[]⟩ : ByteArray))) (cond (Tr.is y1) (K (.p22 y1 y2 y3 y4 (([] : List (tU4)) ++ [((⟨#[95, 110, 97, 109, 101]⟩ : ByteArray), ((1 : Int), ((Tr.val default y1).2.2.2.1, ())))]) y5)) (none)) (K (.p22 y1 y2 y3 y4 ([] : List (tU4)) y5))) (none))) (cond (decide ((Tr.val default y1).1 = (5 : Int))) (cond (Tr.is y1) (K (.p10 y1 (IntKind.wrap .i64 ((IntKind.wrap .i64 (y2 - (Tr.val default y1).2.1)) + (1 : Int))) y3 y4 y5)) (none)) (cond (decide ((Tr.val default y1).1 = (4 : Int))) (cond (Tr.is y1) (K (.p10 y1 y2 y3 (IntKind.wrap .i64 ((Tr.val default y1).2.1 - (1 : Int))) y5)) (none)) (K (.p10 y1 y2 y3 y4 y5))))) (none)
  | .p22 y1 y2 y3 y4 y5 y6 => cond (Tr.is y1) (cond (room ((List.length y5) + (List.length (Tr.val default y1).2.2.2.2.2.1))) (cond (room ((List.length y6) + (List.length [((y5 ++ (Tr.val default y1).2.2.2.2.2.1), ((max (0 : Int) (IntKind.wrap .i64 (y2 - y4))), (y3, ())))]))) (some (y6 ++ [((y5 ++ (Tr.val default y1).2.2.2.2.2.1), ((max (0 : Int) (IntKind.wrap .i64 (y2 - y4))), (y3, ())))])) (none)) (none)) (none)
  | .p10 y1 y2 y3 y4 y5 => cond (Tr.is y1) (K (.p43 y2 y3 y4 (Tr.kids y1) ((List.length (Tr.kids y1)) : Int) (0 : Int) y5)) (none)
  | .p43 y1 y2 y3 y4 y5 y6 y7 => cond (decide (y6 < y5)) (cond (inB y6 (List.length y4)) ((self ((List.getD y4 (Int.toNat y6) default), y1, y2, y3, y7, (), ())).bind fun r10 => K (.p43 y1 y2 y3 y4 y5 (IntKind.wrap .i64 (y6 + (1 : Int))) r10)) (none)) (some y7)
def impl_NeedsOf_1 (n : Nat) (a0 : Tr (tU1)) (a1 : Int) (a2 : Int) (a3 : Int) (a4 : List (tU6)) (a5 : Unit) : Option (Tup [(.sl false cU5)]) := goRec (fun n K => impl_NeedsOf_1.step n (fun x => K (.p0 x.1 x.2.1 x.2.2.1 x.2.2.2.1 x.2.2.2.2.1 x.2.2.2.2.2.1)) K) n (.p0 a0 a1 a2 a3 a4 a5)
def impl_NeedsOf_1.spec : Ctr := ⟨20, [.v (.pt cU0), .v (.int .i64), .v (.int .i64), .v (.int .i64), .p (.sl false cU5), .me 20 4], [], [(.sl false cU5)], none, fun n x => impl_NeedsOf_1 n x.1 x.2.1 x.2.2.1 x.2.2.2.1 x.2.2.2.2.1 x.2.2.2.2.2.1⟩
theorem impl_NeedsOf_1.seg_eq (n : Nat) (φ : Ty.Els [.v (.pt cU0), .v (.int .i64), .v (.int .i64), .v (.int .i64), .p (.sl false cU5), .me 20 4] → Option (Tup [(.sl false cU5)])) (goto : Nat → St → Option (Tup [(.sl false cU5)])) (y : impl_NeedsOf_1.Pt) : seg ⟨tyN, gl, impl_NeedsOf_1.md, calOf (impl_NeedsOf_1.spec.at φ :: impl_NeedsOf_1.T) n⟩ impl_NeedsOf_1.F.np impl_NeedsOf_1.F.ks goto (impl_NeedsOf_1.F.fin ⟨tyN, gl, impl_NeedsOf_1.md, calOf impl_NeedsOf_1.T 0⟩ [(.sl false cU5)] none) impl_NeedsOf_1.F.c (impl_NeedsOf_1.lb y) (impl_NeedsOf_1.st y) = impl_NeedsOf_1.step n φ (fun z => goto (impl_NeedsOf_1.lb z) (impl_NeedsOf_1.st z)) y := by
  cases y <;> kernel_rfl
theorem impl_NeedsOf_1.text : Text Go.Proofs.Try.prog impl_NeedsOf_1.F impl_NeedsOf_1.spec := textOf Go.Proofs.Try.f20
theorem impl_NeedsOf_1.ok : CtrOK Go.Proofs.Try.prog gl impl_NeedsOf_1.spec :=
  ctr_rec (T := impl_NeedsOf_1.T) (F := impl_NeedsOf_1.F) (lb := impl_NeedsOf_1.lb) (st := impl_NeedsOf_1.st) (ent := fun x => .p0 x.1 x.2.1 x.2.2.1 x.2.2.2.1 x.2.2.2.2.1 x.2.2.2.2.2.1) (stp := impl_NeedsOf_1.step) (md := impl_NeedsOf_1.md) tabsN impl_NeedsOf_1.text impl_NeedsOf_1.seg_eq (fun _ => ⟨rfl, rfl⟩) (fun _ _ => rfl) (consC impl_momentOf.ok (nilC))

/-! loop.example/g00039/impl.NeedsOf -/
def impl_NeedsOf.T : List Ctr := [impl_isTime.spec, impl_treeOf.spec, impl_NeedsOf_1.spec]
def impl_NeedsOf.md : List (Nat × List Md) := [(20, [.v, .v, .v, .v, .p (.sl false cU5), .me 20 4]), (1000020, [.p (.sl false cU5), .me 20 4])]
noncomputable def impl_NeedsOf.F : Fun := ⟨(Go.Proofs.Try.f7.body).getD .skip, [.v (.sl false cU0), .v (.int .i64), .v (.int .i64)], [(.tmp 6, (.sl false cU5))], [], 0, [(6, ⟨[1, 2, 7, 28], [], [], false⟩)]⟩
inductive impl_NeedsOf.Pt where
  | p0 (a0 : List (tU1)) (a1 : Int) (a2 : Int)
  | p6 (y1 : Int) (y2 : Int) (y3 : Bool) (y4 : Tr (tU1))
def impl_NeedsOf.lb : impl_NeedsOf.Pt → Nat
  | .p0 _ _ _ => 0
  | .p6 _ _ _ _ => 6
def impl_NeedsOf.st : impl_NeedsOf.Pt → St
  | .p0 a0 a1 a2 => enter [.v (.sl false cU0) a0, .v (.int .i64) a1, .v (.int .i64) a2] 0
  | .p6 y1 y2 y3 y4 => ⟨[(1, .im (.int .i64) y1), (2, .im (.int .i64) y2), (7, .tp 0), (28, .im .bool y3)], [(0, .tre cU0 y4)], 1⟩
def impl_NeedsOf.step (n : Nat) (K : impl_NeedsOf.Pt → Option (Tup [(.sl false cU5)])) : impl_NeedsOf.Pt → Option (Tup [(.sl false cU5)])
  | .p0 a0 a1 a2 => (impl_treeOf n a0).bind fun r6 => cond (!(Tr.is r6)) (K (.p6 a1 a2 true r6)) ((impl_isTime n a1).bind fun r7 => cond (!r7) (K (.p6 a1 a2 true r6)) ((impl_isTime n a2).bind fun r8 => cond (!r8) (K (.p6 a1 a2 true r6)) (K (.p6 a1 a2 (decide (a2 < a1)) r6))))
  | .p6 y1 y2 y3 y4 => cond y3 (some ([] : List (tU6))) ((impl_NeedsOf_1 n y4 y1 y2 (300 : Int) ([] : List (tU6)) ()).bind fun r7 => some r7)
def impl_NeedsOf (n : Nat) (a0 : List (tU1)) (a1 : Int) (a2 : Int) : Option (Tup [(.sl false cU5)]) := goRec impl_NeedsOf.step n (.p0 a0 a1 a2)
def impl_NeedsOf.spec : Ctr := ⟨7, [.v (.sl false cU0), .v (.int .i64), .v (.int .i64)], [(.sl false cU5)], [], none, fun n x => impl_NeedsOf n x.1 x.2.1 x.2.2.1⟩
theorem impl_NeedsOf.seg_eq : SegEq tyN gl impl_NeedsOf.F impl_NeedsOf.md impl_NeedsOf.T impl_NeedsOf.spec impl_NeedsOf.lb impl_NeedsOf.st impl_NeedsOf.step := by
  intro n goto y; cases y <;> kernel_rfl
theorem impl_NeedsOf.text : Text Go.Proofs.Try.prog impl_NeedsOf.F impl_NeedsOf.spec := textOf Go.Proofs.Try.f7
theorem impl_NeedsOf.ok : CtrOK Go.Proofs.Try.prog gl impl_NeedsOf.spec :=
  ctr_okS tabsN impl_NeedsOf.text impl_NeedsOf.seg_eq (fun n x => ⟨.p0 x.1 x.2.1 x.2.2.1, rfl, rfl, rfl⟩) (consC impl_isTime.ok (consC impl_treeOf.ok (consC impl_NeedsOf_1.ok (nilC))))

/-! loop.example/g00039/laws.eqMatcher -/
def laws_eqMatcher.T : List Ctr := []
def laws_eqMatcher.md : List (Nat × List Md) := []
noncomputable def laws_eqMatcher.F : Fun := ⟨(Go.Proofs.Try.f51.body).getD .skip, [.v cU3, .v cU3], [(.tmp 4, .bool)], [], 0, []⟩
inductive laws_eqMatcher.Pt where
  | p0 (a0 : tU4) (a1 : tU4)
def laws_eqMatcher.lb : laws_eqMatcher.Pt → Nat
  | .p0 _ _ => 0
def laws_eqMatcher.st : laws_eqMatcher.Pt → St
  | .p0 a0 a1 => enter [.v cU3 a0, .v cU3 a1] 0
def laws_eqMatcher.step (n : Nat) (K : laws_eqMatcher.Pt → Option (Tup [.bool])) : laws_eqMatcher.Pt → Option (Tup [.bool])
  | .p0 a0 a1 => cond (!(seq a0.1 a1.1)) (some false) (cond (!(decide (a0.2.1 = a1.2.1))) (some false) (cond (!(seq a0.2.2.1 a1.2.2.1)) (some false) (some true)))
def laws_eqMatcher (n : Nat) (a0 : tU4) (a1 : tU4) : Option (Tup [.bool]) := goRec laws_eqMatcher.step n (.p0 a0 a1)
def laws_eqMatcher.spec : Ctr := ⟨51, [.v cU3, .v cU3], [.bool], [], none, fun n x => laws_eqMatcher n x.1 x.2.1⟩
theorem laws_eqMatcher.seg_eq : SegEq ty gl laws_eqMatcher.F laws_eqMatcher.md laws_eqMatcher.T laws_eqMatcher.spec laws_eqMatcher.lb laws_eqMatcher.st laws_eqMatcher.step := by
  intro n goto y; cases y <;> kernel_rfl
theorem laws_eqMatcher.text : Text Go.Proofs.Try.prog laws_eqMatcher.F laws_eqMatcher.spec := textOf Go.Proofs.Try.f51
theorem laws_eqMatcher.ok : CtrOK Go.Proofs.Try.prog gl laws_eqMatcher.spec :=
  ctr_okS tabs laws_eqMatcher.text laws_eqMatcher.seg_eq (fun n x => ⟨.p0 x.1 x.2.1, rfl, rfl, rfl⟩) (nilC)

/-! loop.example/g00039/laws.eqMatcherS -/
def laws_eqMatcherS.T : List Ctr := [laws_eqMatcher.spec]
def laws_eqMatcherS.md : List (Nat × List Md) := []
noncomputable def laws_eqMatcherS.F : Fun := ⟨(Go.Proofs.Try.f36.body).getD .skip, [.v (.sl false cU3), .v (.sl false cU3)], [(.tmp 4, .bool)], [], 0, [(15, ⟨[0, 1, 5], [], [], false⟩)]⟩
inductive laws_eqMatcherS.Pt where
  | p0 (a0 : List (tU4)) (a1 : List (tU4))
  | p15 (y1 : List (tU4)) (y2 : List (tU4)) (y3 : Int)
def laws_eqMatcherS.lb : laws_eqMatcherS.Pt → Nat
  | .p0 _ _ => 0
  | .p15 _ _ _ => 15
def laws_eqMatcherS.st : laws_eqMatcherS.Pt → St
  | .p0 a0 a1 => enter [.v (.sl false cU3) a0, .v (.sl false cU3) a1] 0
  | .p15 y1 y2 y3 => ⟨[(0, .im (.sl false cU3) y1), (1, .im (.sl false cU3) y2), (5, .im (.int .i64) y3)], [], 0⟩
def laws_eqMatcherS.step (n : Nat) (K : laws_eqMatcherS.Pt → Option (Tup [.bool])) : laws_eqMatcherS.Pt → Option (Tup [.bool])
  | .p0 a0 a1 => cond (!(decide (((List.length a0) : Int) = ((List.length a1) : Int)))) (some false) (K (.p15 a0 a1 (0 : Int)))
  | .p15 y1 y2 y3 => cond (decide (y3 < ((List.length y1) : Int))) (cond (inB y3 (List.length y1)) (cond (inB y3 (List.length y2)) ((laws_eqMatcher n (List.getD y1 (Int.toNat y3) default) (List.getD y2 (Int.toNat y3) default)).bind fun r6 => cond (!r6) (some false) (K (.p15 y1 y2 (IntKind.wrap .i64 (y3 + (1 : Int)))))) (none)) (none)) (some true)
def laws_eqMatcherS (n : Nat) (a0 : List (tU4)) (a1 : List (tU4)) : Option (Tup [.bool]) := goRec laws_eqMatcherS.step n (.p0 a0 a1)
def laws_eqMatcherS.spec : Ctr := ⟨36, [.v (.sl false cU3), .v (.sl false cU3)], [.bool], [], none, fun n x => laws_eqMatcherS n x.1 x.2.1⟩
theorem laws_eqMatcherS.seg_eq : SegEq ty gl laws_eqMatcherS.F laws_eqMatcherS.md laws_eqMatcherS.T laws_eqMatcherS.spec laws_eqMatcherS.lb laws_eqMatcherS.st laws_eqMatcherS.step := by
  intro n goto y; cases y <;> kernel_rfl
theorem laws_eqMatcherS.text : Text Go.Proofs.Try.prog laws_eqMatcherS.F laws_eqMatcherS.spec := textOf Go.Proofs.Try.f36
theorem laws_eqMatcherS.ok : CtrOK Go.Proofs.Try.prog gl laws_eqMatcherS.spec :=
  ctr_okS tabs laws_eqMatcherS.text laws_eqMatcherS.seg_eq (fun n x => ⟨.p0 x.1 x.2.1, rfl, rfl, rfl⟩) (consC laws_eqMatcher.ok (nilC))

/-! loop.example/g00039/laws.eqNeed -/
def laws_eqNeed.T : List Ctr := [laws_eqMatcherS.spec]
def laws_eqNeed.md : List (Nat × List Md) := []
noncomputable def laws_eqNeed.F : Fun := ⟨(Go.Proofs.Try.f22.body).getD .skip, [.v cU5, .v cU5], [(.tmp 4, .bool)], [], 0, []⟩
inductive laws_eqNeed.Pt where
  | p0 (a0 : tU6) (a1 : tU6)
def laws_eqNeed.lb : laws_eqNeed.Pt → Nat
  | .p0 _ _ => 0
def laws_eqNeed.st : laws_eqNeed.Pt → St
  | .p0 a0 a1 => enter [.v cU5 a0, .v cU5 a1] 0
def laws_eqNeed.step (n : Nat) (K : laws_eqNeed.Pt → Option (Tup [.bool])) : laws_eqNeed.Pt → Option (Tup [.bool])
  | .p0 a0 a1 => (laws_eqMatcherS n a0.1 a1.1).bind fun r5 => cond (!r5) (some false) (cond (!(decide (a0.2.1 = a1.2.1))) (some false) (cond (!(decide (a0.2.2.1 = a1.2.2.1))) (some false) (some true)))
def laws_eqNeed (n : Nat) (a0 : tU6) (a1 : tU6) : Option (Tup [.bool]) := goRec laws_eqNeed.step n (.p0 a0 a1)
def laws_eqNeed.spec : Ctr := ⟨22, [.v cU5, .v cU5], [.bool], [], none, fun n x => laws_eqNeed n x.1 x.2.1⟩
theorem laws_eqNeed.seg_eq : SegEq ty gl laws_eqNeed.F laws_eqNeed.md laws_eqNeed.T laws_eqNeed.spec laws_eqNeed.lb laws_eqNeed.st laws_eqNeed.step := by
  intro n goto y; cases y <;> kernel_rfl
theorem laws_eqNeed.text : Text Go.Proofs.Try.prog laws_eqNeed.F laws_eqNeed.spec := textOf Go.Proofs.Try.f22
theorem laws_eqNeed.ok : CtrOK Go.Proofs.Try.prog gl laws_eqNeed.spec :=
  ctr_okS tabs laws_eqNeed.text laws_eqNeed.seg_eq (fun n x => ⟨.p0 x.1 x.2.1, rfl, rfl, rfl⟩) (consC laws_eqMatcherS.ok (nilC))

/-! loop.example/g00039/laws.eqNeedS -/
def laws_eqNeedS.T : List Ctr := [laws_eqNeed.spec]
def laws_eqNeedS.md : List (Nat × List Md) := []
noncomputable def laws_eqNeedS.F : Fun := ⟨(Go.Proofs.Try.f8.body).getD .skip, [.v (.sl false cU5), .v (.sl false cU5)], [(.tmp 4, .bool)], [], 0, [(15, ⟨[0, 1, 5], [], [], false⟩)]⟩
inductive laws_eqNeedS.Pt where
  | p0 (a0 : List (tU6)) (a1 : List (tU6))
  | p15 (y1 : List (tU6)) (y2 : List (tU6)) (y3 : Int)
def laws_eqNeedS.lb : laws_eqNeedS.Pt → Nat
  | .p0 _ _ => 0
  | .p15 _ _ _ => 15
def laws_eqNeedS.st : laws_eqNeedS.Pt → St
  | .p0 a0 a1 => enter [.v (.sl false cU5) a0, .v (.sl false cU5) a1] 0
  | .p15 y1 y2 y3 => ⟨[(0, .im (.sl false cU5) y1), (1, .im (.sl false cU5) y2), (5, .im (.int .i64) y3)], [], 0⟩
def laws_eqNeedS.step (n : Nat) (K : laws_eqNeedS.Pt → Option (Tup [.bool])) : laws_eqNeedS.Pt → Option (Tup [.bool])
  | .p0 a0 a1 => cond (!(decide (((List.length a0) : Int) = ((List.length a1) : Int)))) (some false) (K (.p15 a0 a1 (0 : Int)))
  | .p15 y1 y2 y3 => cond (decide (y3 < ((List.length y1) : Int))) (cond (inB y3 (List.length y1)) (cond (inB y3 (List.length y2)) ((laws_eqNeed n ((List.getD y1 (Int.toNat y3) default).1, (List.getD y1 (Int.toNat y3) default).2) ((List.getD y2 (Int.toNat y3) default).1, (List.getD y2 (Int.toNat y3) default).2)).bind fun r6 => cond (!r6) (some false) (K (.p15 y1 y2 (IntKind.wrap .i64 (y3 + (1 : Int)))))) (none)) (none)) (some true)
def laws_eqNeedS (n : Nat) (a0 : List (tU6)) (a1 : List (tU6)) : Option (Tup [.bool]) := goRec laws_eqNeedS.step n (.p0 a0 a1)
def laws_eqNeedS.spec : Ctr := ⟨8, [.v (.sl false cU5), .v (.sl false cU5)], [.bool], [], none, fun n x => laws_eqNeedS n x.1 x.2.1⟩
theorem laws_eqNeedS.seg_eq : SegEq ty gl laws_eqNeedS.F laws_eqNeedS.md laws_eqNeedS.T laws_eqNeedS.spec laws_eqNeedS.lb laws_eqNeedS.st laws_eqNeedS.step := by
  intro n goto y; cases y <;> kernel_rfl
theorem laws_eqNeedS.text : Text Go.Proofs.Try.prog laws_eqNeedS.F laws_eqNeedS.spec := textOf Go.Proofs.Try.f8
theorem laws_eqNeedS.ok : CtrOK Go.Proofs.Try.prog gl laws_eqNeedS.spec :=
  ctr_okS tabs laws_eqNeedS.text laws_eqNeedS.seg_eq (fun n x => ⟨.p0 x.1 x.2.1, rfl, rfl, rfl⟩) (consC laws_eqNeed.ok (nilC))

/-! loop.example/g00039/laws.eqStringS -/
def laws_eqStringS.T : List Ctr := []
def laws_eqStringS.md : List (Nat × List Md) := []
noncomputable def laws_eqStringS.F : Fun := ⟨(Go.Proofs.Try.f37.body).getD .skip, [.v (.sl false .str), .v (.sl false .str)], [(.tmp 4, .bool)], [], 0, [(15, ⟨[0, 1, 5], [], [], false⟩)]⟩
inductive laws_eqStringS.Pt where
  | p0 (a0 : List (ByteArray)) (a1 : List (ByteArray))
  | p15 (y1 : List (ByteArray)) (y2 : List (ByteArray)) (y3 : Int)
def laws_eqStringS.lb : laws_eqStringS.Pt → Nat
  | .p0 _ _ => 0
  | .p15 _ _ _ => 15
def laws_eqStringS.st : laws_eqStringS.Pt → St
  | .p0 a0 a1 => enter [.v (.sl false .str) a0, .v (.sl false .str) a1] 0
  | .p15 y1 y2 y3 => ⟨[(0, .im (.sl false .str) y1), (1, .im (.sl false .str) y2), (5, .im (.int .i64) y3)], [], 0⟩
def laws_eqStringS.step (n : Nat) (K : laws_eqStringS.Pt → Option (Tup [.bool])) : laws_eqStringS.Pt → Option (Tup [.bool])
  | .p0 a0 a1 => cond (!(decide (((List.length a0) : Int) = ((List.length a1) : Int)))) (some false) (K (.p15 a0 a1 (0 : Int)))
  | .p15 y1 y2 y3 => cond (decide (y3 < ((List.length y1) : Int))) (cond (inB y3 (List.length y1)) (cond (inB y3 (List.length y2)) (cond (!(seq (List.getD y1 (Int.toNat y3) default) (List.getD y2 (Int.toNat y3) default))) (some false) (K (.p15 y1 y2 (IntKind.wrap .i64 (y3 + (1 : Int)))))) (none)) (none)) (some true)
def laws_eqStringS (n : Nat) (a0 : List (ByteArray)) (a1 : List (ByteArray)) : Option (Tup [.bool]) := goRec laws_eqStringS.step n (.p0 a0 a1)
def laws_eqStringS.spec : Ctr := ⟨37, [.v (.sl false .str), .v (.sl false .str)], [.bool], [], none, fun n x => laws_eqStringS n x.1 x.2.1⟩
theorem laws_eqStringS.seg_eq : SegEq ty gl laws_eqStringS.F laws_eqStringS.md laws_eqStringS.T laws_eqStringS.spec laws_eqStringS.lb laws_eqStringS.st laws_eqStringS.step := by
  intro n goto y; cases y <;> kernel_rfl
theorem laws_eqStringS.text : Text Go.Proofs.Try.prog laws_eqStringS.F laws_eqStringS.spec := textOf Go.Proofs.Try.f37
theorem laws_eqStringS.ok : CtrOK Go.Proofs.Try.prog gl laws_eqStringS.spec :=
  ctr_okS tabs laws_eqStringS.text laws_eqStringS.seg_eq (fun n x => ⟨.p0 x.1 x.2.1, rfl, rfl, rfl⟩) (nilC)

/-! loop.example/g00039/laws.eqQuery -/
def laws_eqQuery.T : List Ctr := [laws_eqMatcherS.spec, laws_eqStringS.spec]
def laws_eqQuery.md : List (Nat × List Md) := []
noncomputable def laws_eqQuery.F : Fun := ⟨(Go.Proofs.Try.f23.body).getD .skip, [.v cU2, .v cU2], [(.tmp 4, .bool)], [], 0, []⟩
inductive laws_eqQuery.Pt where
  | p0 (a0 : tU1) (a1 : tU1)
def laws_eqQuery.lb : laws_eqQuery.Pt → Nat
  | .p0 _ _ => 0
def laws_eqQuery.st : laws_eqQuery.Pt → St
  | .p0 a0 a1 => enter [.v cU2 a0, .v cU2 a1] 0
def laws_eqQuery.step (n : Nat) (K : laws_eqQuery.Pt → Option (Tup [.bool])) : laws_eqQuery.Pt → Option (Tup [.bool])
  | .p0 a0 a1 => cond (!(decide (a0.1 = a1.1))) (some false) (cond (!(decide (a0.2.1 = a1.2.1))) (some false) (cond (!(decide (a0.2.2.1 = a1.2.2.1))) (some false) (cond (!(seq a0.2.2.2.1 a1.2.2.2.1)) (some false) (cond (!(decide (a0.2.2.2.2.1 = a1.2.2.2.2.1))) (some false) ((laws_eqMatcherS n a0.2.2.2.2.2.1 a1.2.2.2.2.2.1).bind fun r5 => cond (!r5) (some false) (cond (!(decide (a0.2.2.2.2.2.2.1 = a1.2.2.2.2.2.2.1))) (some false) (cond (a0.2.2.2.2.2.2.2.1 != a1.2.2.2.2.2.2.2.1) (some false) (cond (!(decide (a0.2.2.2.2.2.2.2.2.1 = a1.2.2.2.2.2.2.2.2.1))) (some false) (cond (a0.2.2.2.2.2.2.2.2.2.1 != a1.2.2.2.2.2.2.2.2.2.1) (some false) (cond (!(decide (a0.2.2.2.2.2.2.2.2.2.2.1 = a1.2.2.2.2.2.2.2.2.2.2.1))) (some false) ((laws_eqStringS n a0.2.2.2.2.2.2.2.2.2.2.2.1 a1.2.2.2.2.2.2.2.2.2.2.2.1).bind fun r6 => cond (!r6) (some false) (cond (!(decide (a0.2.2.2.2.2.2.2.2.2.2.2.2.1 = a1.2.2.2.2.2.2.2.2.2.2.2.2.1))) (some false) ((laws_eqStringS n a0.2.2.2.2.2.2.2.2.2.2.2.2.2.1 a1.2.2.2.2.2.2.2.2.2.2.2.2.2.1).bind fun r7 => cond (!r7) (some false) (cond (!(decide (a0.2.2.2.2.2.2.2.2.2.2.2.2.2.2.1 = a1.2.2.2.2.2.2.2.2.2.2.2.2.2.2.1))) (some false) (some true)))))))))))))))
def laws_eqQuery (n : Nat) (a0 : tU1) (a1 : tU1) : Option (Tup [.bool]) := goRec laws_eqQuery.step n (.p0 a0 a1)
def laws_eqQuery.spec : Ctr := ⟨23, [.v cU2, .v cU2], [.bool], [], none, fun n x => laws_eqQuery n x.1 x.2.1⟩
theorem laws_eqQuery.seg_eq : SegEq ty gl laws_eqQuery.F laws_eqQuery.md laws_eqQuery.T laws_eqQuery.spec laws_eqQuery.lb laws_eqQuery.st laws_eqQuery.step := by
  intro n goto y; cases y <;> kernel_rfl
theorem laws_eqQuery.text : Text Go.Proofs.Try.prog laws_eqQuery.F laws_eqQuery.spec := textOf Go.Proofs.Try.f23
theorem laws_eqQuery.ok : CtrOK Go.Proofs.Try.prog gl laws_eqQuery.spec :=
  ctr_okS tabs laws_eqQuery.text laws_eqQuery.seg_eq (fun n x => ⟨.p0 x.1 x.2.1, rfl, rfl, rfl⟩) (consC laws_eqMatcherS.ok (consC laws_eqStringS.ok (nilC)))

/-! loop.example/g00039/laws.eqQueryS -/
def laws_eqQueryS.T : List Ctr := [laws_eqQuery.spec]
def laws_eqQueryS.md : List (Nat × List Md) := []
noncomputable def laws_eqQueryS.F : Fun := ⟨(Go.Proofs.Try.f9.body).getD .skip, [.v (.sl false cU2), .v (.sl false cU2)], [(.tmp 4, .bool)], [], 0, [(15, ⟨[0, 1, 5], [], [], false⟩)]⟩
inductive laws_eqQueryS.Pt where
  | p0 (a0 : List (tU1)) (a1 : List (tU1))
  | p15 (y1 : List (tU1)) (y2 : List (tU1)) (y3 : Int)
def laws_eqQueryS.lb : laws_eqQueryS.Pt → Nat
  | .p0 _ _ => 0
  | .p15 _ _ _ => 15
def laws_eqQueryS.st : laws_eqQueryS.Pt → St
  | .p0 a0 a1 => enter [.v (.sl false cU2) a0, .v (.sl false cU2) a1] 0
  | .p15 y1 y2 y3 => ⟨[(0, .im (.sl false cU2) y1), (1, .im (.sl false cU2) y2), (5, .im (.int .i64) y3)], [], 0⟩
def laws_eqQueryS.step (n : Nat) (K : laws_eqQueryS.Pt → Option (Tup [.bool])) : laws_eqQueryS.Pt → Option (Tup [.bool])
  | .p0 a0 a1 => cond (!(decide (((List.length a0) : Int) = ((List.length a1) : Int)))) (some false) (K (.p15 a0 a1 (0 : Int)))
  | .p15 y1 y2 y3 => cond (decide (y3 < ((List.length y1) : Int))) (cond (inB y3 (List.length y1)) (cond (inB y3 (List.length y2)) ((laws_eqQuery n ((List.getD y1 (Int.toNat y3) default).1, ((List.getD y1 (Int.toNat y3) default).2.1, ((List.getD y1 (Int.toNat y3) default).2.2.1, ((List.getD y1 (Int.toNat y3) default).2.2.2.1, ((List.getD y1 (Int.toNat y3) default).2.2.2.2.1, ((List.getD y1 (Int.toNat y3) default).2.2.2.2.2.1, ((List.getD y1 (Int.toNat y3) default).2.2.2.2.2.2.1, ((List.getD y1 (Int.toNat y3) default).2.2.2.2.2.2.2.1, ((List.getD y1 (Int.toNat y3) default).2.2.2.2.2.2.2.2.1, ((List.getD y1 (Int.toNat y3) default).2.2.2.2.2.2.2.2.2.1, ((List.getD y1 (Int.toNat y3) default).2.2.2.2.2.2.2.2.2.2.1, ((List.getD y1 (Int.toNat y3) default).2.2.2.2.2.2.2.2.2.2.2.1, ((List.getD y1 (Int.toNat y3) default).2.2.2.2.2.2.2.2.2.2.2.2.1, ((List.getD y1 (Int.toNat y3) default).2.2.2.2.2.2.2.2.2.2.2.2.2.1, (List.getD y1 (Int.toNat y3) default).2.2.2.2.2.2.2.2.2.2.2.2.2.2)))))))))))))) ((List.getD y2 (Int.toNat y3) default).1, ((List.getD y2 (Int.toNat y3) default).2.1, ((List.getD y2 (Int.toNat y3) default).2.2.1, ((List.getD y2 (Int.toNat y3) default).2.2.2.1, ((List.getD y2 (Int.toNat y3) default).2.2.2.2.1, ((List.getD y2 (Int.toNat y3) default).2.2.2.2.2.1, ((List.getD y2 (Int.toNat y3) default).2.2.2.2.2.2.1, ((List.getD y2 (Int.toNat y3) default).2.2.2.2.2.2.2.1, ((List.getD y2 (Int.toNat y3) default).2.2.2.2.2.2.2.2.1, ((List.getD y2 (Int.toNat y3) default).2.2.2.2.2.2.2.2.2.1, ((List.getD y2 (Int.toNat y3) default).2.2.2.2.2.2.2.2.2.2.1, ((List.getD y2 (Int.toNat y3) default).2.2.2.2.2.2.2.2.2.2.2.1, ((List.getD y2 (Int.toNat y3) default).2.2.2.2.2.2.2.2.2.2.2.2.1, ((List.getD y2 (Int.toNat y3) default).2.2.2.2.2.2.2.2.2.2.2.2.2.1, (List.getD y2 (Int.toNat y3) default).2.2.2.2.2.2.2.2.2.2.2.2.2.2))))))))))))))).bind fun r6 => cond (!r6) (some false) (K (.p15 y1 y2 (IntKind.wrap .i64 (y3 + (1 : Int)))))) (none)) (none)) (some true)
def laws_eqQueryS (n : Nat) (a0 : List (tU1)) (a1 : List (tU1)) : Option (Tup [.bool]) := goRec laws_eqQueryS.step n (.p0 a0 a1)
def laws_eqQueryS.spec : Ctr := ⟨9, [.v (.sl false cU2), .v (.sl false cU2)], [.bool], [], none, fun n x => laws_eqQueryS n x.1 x.2.1⟩
theorem laws_eqQueryS.seg_eq : SegEq ty gl laws_eqQueryS.F laws_eqQueryS.md laws_eqQueryS.T laws_eqQueryS.spec laws_eqQueryS.lb laws_eqQueryS.st laws_eqQueryS.step := by
  intro n goto y; cases y <;> kernel_rfl
theorem laws_eqQueryS.text : Text Go.Proofs.Try.prog laws_eqQueryS.F laws_eqQueryS.spec := textOf Go.Proofs.Try.f9
theorem laws_eqQueryS.ok : CtrOK Go.Proofs.Try.prog gl laws_eqQueryS.spec :=
  ctr_okS tabs laws_eqQueryS.text laws_eqQueryS.seg_eq (fun n x => ⟨.p0 x.1 x.2.1, rfl, rfl, rfl⟩) (consC laws_eqQuery.ok (nilC))

/-! loop.example/g00039/laws.markText -/
def laws_markText.T : List Ctr := []
def laws_markText.md : List (Nat × List Md) := []
noncomputable def laws_markText.F : Fun := ⟨(Go.Proofs.Try.f24.body).getD .skip, [.v (.int .i64)], [(.tmp 2, .str)], [], 0, [(15, ⟨[0, 3], [], [], false⟩)]⟩
inductive laws_markText.Pt where
  | p0 (a0 : Int)
  | p15 (y1 : Int) (y2 : ByteArray)
def laws_markText.lb : laws_markText.Pt → Nat
  | .p0 _ => 0
  | .p15 _ _ => 15
def laws_markText.st : laws_markText.Pt → St
  | .p0 a0 => enter [.v (.int .i64) a0] 0
  | .p15 y1 y2 => ⟨[(0, .im (.int .i64) y1), (3, .im .str y2)], [], 0⟩
def laws_markText.step (n : Nat) (K : laws_markText.Pt → Option (Tup [.str])) : laws_markText.Pt → Option (Tup [.str])
  | .p0 a0 => cond (decide (a0 ≤ (0 : Int))) (some (⟨#[109, 48]⟩ : ByteArray)) (K (.p15 a0 (⟨#[]⟩ : ByteArray)))
  | .p15 y1 y2 => cond (decide ((0 : Int) < y1)) (cond (room ((ByteArray.size (ofOcts [(IntKind.wrap .u8 (IntKind.wrap .i64 ((48 : Int) + (Int.tmod y1 (10 : Int)))))])) + (ByteArray.size y2))) (K (.p15 (IntKind.wrap .i64 (Int.tdiv y1 (10 : Int))) ((ofOcts [(IntKind.wrap .u8 (IntKind.wrap .i64 ((48 : Int) + (Int.tmod y1 (10 : Int)))))]) ++ y2))) (none)) (cond (room ((ByteArray.size (⟨#[109]⟩ : ByteArray)) + (ByteArray.size y2))) (some ((⟨#[109]⟩ : ByteArray) ++ y2)) (none))
def laws_markText (n : Nat) (a0 : Int) : Option (Tup [.str]) := goRec laws_markText.step n (.p0 a0)
def laws_markText.spec : Ctr := ⟨24, [.v (.int .i64)], [.str], [], none, fun n x => laws_markText n x.1⟩
theorem laws_markText.seg_eq : SegEq ty gl laws_markText.F laws_markText.md laws_markText.T laws_markText.spec laws_markText.lb laws_markText.st laws_markText.step := by
  intro n goto y; cases y <;> kernel_rfl
theorem laws_markText.text : Text Go.Proofs.Try.prog laws_markText.F laws_markText.spec := textOf Go.Proofs.Try.f24
theorem laws_markText.ok : CtrOK Go.Proofs.Try.prog gl laws_markText.spec :=
  ctr_okS tabs laws_markText.text laws_markText.seg_eq (fun n x => ⟨.p0 x.1, rfl, rfl, rfl⟩) (nilC)

/-! loop.example/g00039/laws.markMatcherS -/
def laws_markMatcherS.T : List Ctr := [laws_markText.spec]
def laws_markMatcherS.md : List (Nat × List Md) := []
noncomputable def laws_markMatcherS.F : Fun := ⟨(Go.Proofs.Try.f25.body).getD .skip, [.s false cU3, .v (.int .i64)], [(.tmp 4, (.int .i64))], [none], 1, [(7, ⟨[0, 1, 5], [], [], false⟩)]⟩
inductive laws_markMatcherS.Pt where
  | p0 (a0 : List (tU4)) (a1 : Int)
  | p7 (y1 : Int) (y2 : Int) (y3 : List (tU4))
def laws_markMatcherS.lb : laws_markMatcherS.Pt → Nat
  | .p0 _ _ => 0
  | .p7 _ _ _ => 7
def laws_markMatcherS.st : laws_markMatcherS.Pt → St
  | .p0 a0 a1 => enter [.s false cU3 a0, .v (.int .i64) a1] 1
  | .p7 y1 y2 y3 => ⟨[(0, .hs 0 [] none 0), (1, .im (.int .i64) y1), (5, .im (.int .i64) y2)], [(0, .arr false cU3 y3 0)], 1⟩
def laws_markMatcherS.step (n : Nat) (K : laws_markMatcherS.Pt → Option (Tup [(.int .i64), (.sl false cU3)])) : laws_markMatcherS.Pt → Option (Tup [(.int .i64), (.sl false cU3)])
  | .p0 a0 a1 => K (.p7 a1 (0 : Int) a0)
  | .p7 y1 y2 y3 => cond (decide (y2 < ((List.length y3) : Int))) ((laws_markText n y1).bind fun r6 => cond (inB y2 (List.length y3)) (cond (inB y2 (List.length (List.set y3 (0 + (Int.toNat y2)) (r6, (List.getD y3 (0 + (Int.toNat y2)) default).2)))) ((laws_markText n (IntKind.wrap .i64 ((IntKind.wrap .i64 (y1 + (1 : Int))) + (1 : Int)))).bind fun r7 => let mm0 := (List.set (List.set y3 (0 + (Int.toNat y2)) (r6, (List.getD y3 (0 + (Int.toNat y2)) default).2)) (0 + (Int.toNat y2)) ((List.getD (List.set y3 (0 + (Int.toNat y2)) (r6, (List.getD y3 (0 + (Int.toNat y2)) default).2)) (0 + (Int.toNat y2)) default).1, ((IntKind.wrap .i64 (y1 + (1 : Int))), (List.getD (List.set y3 (0 + (Int.toNat y2)) (r6, (List.getD y3 (0 + (Int.toNat y2)) default).2)) (0 + (Int.toNat y2)) default).2.2))); cond (inB y2 (List.length mm0)) (K (.p7 (IntKind.wrap .i64 ((IntKind.wrap .i64 ((IntKind.wrap .i64 (y1 + (1 : Int))) + (1 : Int))) + (1 : Int))) (IntKind.wrap .i64 (y2 + (1 : Int))) (List.set mm0 (0 + (Int.toNat y2)) ((List.getD mm0 (0 + (Int.toNat y2)) default).1, ((List.getD mm0 (0 + (Int.toNat y2)) default).2.1, (r7, (List.getD mm0 (0 + (Int.toNat y2)) default).2.2.2)))))) (none)) (none)) (none)) (some (y1, y3))
def laws_markMatcherS (n : Nat) (a0 : List (tU4)) (a1 : Int) : Option (Tup [(.int .i64), (.sl false cU3)]) := goRec laws_markMatcherS.step n (.p0 a0 a1)
def laws_markMatcherS.spec : Ctr := ⟨25, [.s false cU3, .v (.int .i64)], [(.int .i64)], [(.sl false cU3)], none, fun n x => laws_markMatcherS n x.1 x.2.1⟩
theorem laws_markMatcherS.seg_eq : SegEq ty gl laws_markMatcherS.F laws_markMatcherS.md laws_markMatcherS.T laws_markMatcherS.spec laws_markMatcherS.lb laws_markMatcherS.st laws_markMatcherS.step := by
  intro n goto y; cases y <;> kernel_rfl
theorem laws_markMatcherS.text : Text Go.Proofs.Try.prog laws_markMatcherS.F laws_markMatcherS.spec := textOf Go.Proofs.Try.f25
theorem laws_markMatcherS.ok : CtrOK Go.Proofs.Try.prog gl laws_markMatcherS.spec :=
  ctr_okS tabs laws_markMatcherS.text laws_markMatcherS.seg_eq (fun n x => ⟨.p0 x.1 x.2.1, rfl, rfl, rfl⟩) (consC laws_markText.ok (nilC))

/-! loop.example/g00039/laws.markStringS -/
def laws_markStringS.T : List Ctr := [laws_markText.spec]
def laws_markStringS.md : List (Nat × List Md) := []
noncomputable def laws_markStringS.F : Fun := ⟨(Go.Proofs.Try.f26.body).getD .skip, [.s false .str, .v (.int .i64)], [(.tmp 4, (.int .i64))], [none], 1, [(7, ⟨[0, 1, 5], [], [], false⟩)]⟩
inductive laws_markStringS.Pt where
  | p0 (a0 : List (ByteArray)) (a1 : Int)
  | p7 (y1 : Int) (y2 : Int) (y3 : List (ByteArray))
def laws_markStringS.lb : laws_markStringS.Pt → Nat
  | .p0 _ _ => 0
  | .p7 _ _ _ => 7
def laws_markStringS.st : laws_markStringS.Pt → St
  | .p0 a0 a1 => enter [.s false .str a0, .v (.int .i64) a1] 1
  | .p7 y1 y2 y3 => ⟨[(0, .hs 0 [] none 0), (1, .im (.int .i64) y1), (5, .im (.int .i64) y2)], [(0, .arr false .str y3 0)], 1⟩
def laws_markStringS.step (n : Nat) (K : laws_markStringS.Pt → Option (Tup [(.int .i64), (.sl false .str)])) : laws_markStringS.Pt → Option (Tup [(.int .i64), (.sl false .str)])
  | .p0 a0 a1 => K (.p7 a1 (0 : Int) a0)
  | .p7 y1 y2 y3 => cond (decide (y2 < ((List.length y3) : Int))) ((laws_markText n y1).bind fun r6 => cond (inB y2 (List.length y3)) (K (.p7 (IntKind.wrap .i64 (y1 + (1 : Int))) (IntKind.wrap .i64 (y2 + (1 : Int))) (List.set y3 (0 + (Int.toNat y2)) r6))) (none)) (some (y1, y3))
def laws_markStringS (n : Nat) (a0 : List (ByteArray)) (a1 : Int) : Option (Tup [(.int .i64), (.sl false .str)]) := goRec laws_markStringS.step n (.p0 a0 a1)
def laws_markStringS.spec : Ctr := ⟨26, [.s false .str, .v (.int .i64)], [(.int .i64)], [(.sl false .str)], none, fun n x => laws_markStringS n x.1 x.2.1⟩
theorem laws_markStringS.seg_eq : SegEq ty gl laws_markStringS.F laws_markStringS.md laws_markStringS.T laws_markStringS.spec laws_markStringS.lb laws_markStringS.st laws_markStringS.step := by
  intro n goto y; cases y <;> kernel_rfl
theorem laws_markStringS.text : Text Go.Proofs.Try.prog laws_markStringS.F laws_markStringS.spec := textOf Go.Proofs.Try.f26
theorem laws_markStringS.ok : CtrOK Go.Proofs.Try.prog gl laws_markStringS.spec :=
  ctr_okS tabs laws_markStringS.text laws_markStringS.seg_eq (fun n x => ⟨.p0 x.1 x.2.1, rfl, rfl, rfl⟩) (consC laws_markText.ok (nilC))

/-! loop.example/g00039/laws.markQueryS -/
def laws_markQueryS.T : List Ctr := [laws_markText.spec, laws_markMatcherS.spec, laws_markStringS.spec]
def laws_markQueryS.md : List (Nat × List Md) := [(25, [.s, .v]), (26, [.s, .v])]
noncomputable def laws_markQueryS.F : Fun := ⟨(Go.Proofs.Try.f10.body).getD .skip, [.s false cU2, .v (.int .i64)], [(.tmp 4, (.int .i64))], [none], 1, [(7, ⟨[0, 1, 5], [], [], false⟩)]⟩
inductive laws_markQueryS.Pt where
  | p0 (a0 : List (tU1)) (a1 : Int)
  | p7 (y1 : Int) (y2 : Int) (y3 : List (tU1))
def laws_markQueryS.lb : laws_markQueryS.Pt → Nat
  | .p0 _ _ => 0
  | .p7 _ _ _ => 7
def laws_markQueryS.st : laws_markQueryS.Pt → St
  | .p0 a0 a1 => enter [.s false cU2 a0, .v (.int .i64) a1] 1
  | .p7 y1 y2 y3 => ⟨[(0, .hs 0 [] none 0), (1, .im (.int .i64) y1), (5, .im (.int .i64) y2)], [(0, .arr false cU2 y3 0)], 1⟩
def laws_markQueryS.step (n : Nat) (K : laws_markQueryS.Pt → Option (Tup [(.int .i64), (.sl false cU2)])) : laws_markQueryS.Pt → Option (Tup [(.int .i64), (.sl false cU2)])
  | .p0 a0 a1 => K (.p7 a1 (0 : Int) a0)
  | .p7 y1 y2 y3 => cond (decide (y2 < ((List.length y3) : Int))) (cond (inB y2 (List.length y3)) (cond (inB y2 (List.length (List.set y3 (0 + (Int.toNat y2)) (y1, (List.getD y3 (0 + (Int.toNat y2)) default).2)))) (let mm0 := (List.set (List.set y3 (0 + (Int.toNat y2)) (y1, (List.getD y3 (0 + (Int.toNat y2)) default).2)) (0 + (Int.toNat y2)) ((List.getD (List.set y3 (0 + (Int.toNat y2)) (y1, (List.getD y3 (0 + (Int.toNat y2)) default).2)) (0 + (Int.toNat y2)) default).1, ((IntKind.wrap .i64 (y1 + (1 : Int))), (List.getD (List.set y3 (0 + (Int.toNat y2)) (y1, (List.getD y3 (0 + (Int.toNat y2)) default).2)) (0 + (Int.toNat y2)) default).2.2))); cond (inB y2 (List.length mm0)) ((laws_markText n (IntKind.wrap .i64 ((IntKind.wrap .i64 ((IntKind.wrap .i64 (y1 + (1 : Int))) + (1 : Int))) + (1 : Int)))).bind fun r6 => cond (inB y2 (List.length (List.set mm0 (0 + (Int.toNat y2)) ((List.getD mm0 (0 + (Int.toNat y2)) default).1, ((List.getD mm0 (0 + (Int.toNat y2)) default).2.1, ((IntKind.wrap .i64 ((IntKind.wrap .i64 (y1 + (1 : Int))) + (1 : Int))), (List.getD mm0 (0 + (Int.toNat y2)) default).2.2.2)))))) (let mm1 := (List.set (List.set mm0 (0 + (Int.toNat y2)) ((List.getD mm0 (0 + (Int.toNat y2)) default).1, ((List.getD mm0 (0 + (Int.toNat y2)) default).2.1, ((IntKind.wrap .i64 ((IntKind.wrap .i64 (y1 + (1 : Int))) + (1 : Int))), (List.getD mm0 (0 + (Int.toNat y2)) default).2.2.2)))) (0 + (Int.toNat y2)) ((List.getD (List.set mm0 (0 + (Int.toNat y2)) ((List.getD mm0 (0 + (Int.toNat y2)) default).1, ((List.getD mm0 (0 + (Int.toNat y2)) default).2.1, ((IntKind.wrap .i64 ((IntKind.wrap .i64 (y1 + (1 : Int))) + (1 : Int))), (List.getD mm0 (0 + (Int.toNat y2)) default).2.2.2)))) (0 + (Int.toNat y2)) default).1, ((List.getD (List.set mm0 (0 + (Int.toNat y2)) ((List.getD mm0 (0 + (Int.toNat y2)) default).1, ((List.getD mm0 (0 + (Int.toNat y2)) default).2.1, ((IntKind.wrap .i64 ((IntKind.wrap .i64 (y1 + (1 : Int))) + (1 : Int))), (List.getD mm0 (0 + (Int.toNat y2)) default).2.2.2)))) (0 + (Int.toNat y2)) default).2.1, ((List.getD (List.set mm0 (0 + (Int.toNat y2)) ((List.getD mm0 (0 + (Int.toNat y2)) default).1, ((List.getD mm0 (0 + (Int.toNat y2)) default).2.1, ((IntKind.wrap .i64 ((IntKind.wrap .i64 (y1 + (1 : Int))) + (1 : Int))), (List.getD mm0 (0 + (Int.toNat y2)) default).2.2.2)))) (0 + (Int.toNat y2)) default).2.2.1, (r6, (List.getD (List.set mm0 (0 + (Int.toNat y2)) ((List.getD mm0 (0 + (Int.toNat y2)) default).1, ((List.getD mm0 (0 + (Int.toNat y2)) default).2.1, ((IntKind.wrap .i64 ((IntKind.wrap .i64 (y1 + (1 : Int))) + (1 : Int))), (List.getD mm0 (0 + (Int.toNat y2)) default).2.2.2)))) (0 + (Int.toNat y2)) default).2.2.2.2))))); cond (inB y2 (List.length mm1)) (let mm2 := (List.set mm1 (0 + (Int.toNat y2)) ((List.getD mm1 (0 + (Int.toNat y2)) default).1, ((List.getD mm1 (0 + (Int.toNat y2)) default).2.1, ((List.getD mm1 (0 + (Int.toNat y2)) default).2.2.1, ((List.getD mm1 (0 + (Int.toNat y2)) default).2.2.2.1, ((IntKind.wrap .i64 ((IntKind.wrap .i64 ((IntKind.wrap .i64 ((IntKind.wrap .i64 (y1 + (1 : Int))) + (1 : Int))) + (1 : Int))) + (1 : Int))), (List.getD mm1 (0 + (Int.toNat y2)) default).2.2.2.2.2)))))); cond (inB y2 (List.length mm2)) ((laws_markMatcherS n (List.getD mm2 (0 + (Int.toNat y2)) default).2.2.2.2.2.1 (IntKind.wrap .i64 ((IntKind.wrap .i64 ((IntKind.wrap .i64 ((IntKind.wrap .i64 ((IntKind.wrap .i64 (y1 + (1 : Int))) + (1 : Int))) + (1 : Int))) + (1 : Int))) + (1 : Int)))).bind fun r7 => cond (inB y2 (List.length (List.set mm2 (0 + (Int.toNat y2)) ((List.getD mm2 (0 + (Int.toNat y2)) default).1, ((List.getD mm2 (0 + (Int.toNat y2)) default).2.1, ((List.getD mm2 (0 + (Int.toNat y2)) default).2.2.1, ((List.getD mm2 (0 + (Int.toNat y2)) default).2.2.2.1, ((List.getD mm2 (0 + (Int.toNat y2)) default).2.2.2.2.1, (r7.2, (List.getD mm2 (0 + (Int.toNat y2)) default).2.2.2.2.2.2))))))))) (let mm3 := (List.set (List.set mm2 (0 + (Int.toNat y2)) ((List.getD mm2 (0 + (Int.toNat y2)) default).1, ((List.getD mm2 (0 + (Int.toNat y2)) default).2.1, ((List.getD mm2 (0 + (Int.toNat y2)) default).2.2.1, ((List.getD mm2 (0 + (Int.toNat y2)) default).2.2.2.1, ((List.getD mm2 (0 + (Int.toNat y2)) default).2.2.2.2.1, (r7.2, (List.getD mm2 (0 + (Int.toNat y2)) default).2.2.2.2.2.2))))))) (0 + (Int.toNat y2)) ((List.getD (List.set mm2 (0 + (Int.toNat y2)) ((List.getD mm2 (0 + (Int.toNat y2)) default).1, ((List.getD mm2 (0 + (Int.toNat y2)) default).2.1, ((List.getD mm2 (0 + (Int.toNat y2)) default).2.2.1, ((List.getD mm2 (0 + (Int.toNat y2)) default).2.2.2.1, ((List.getD mm2 (0 + (Int.toNat y2)) default).2.2.2.2.1, (r7.2, (List.getD mm2 (0 + (Int.toNat y2)) default).2.2.2.2.2.2))))))) (0 + (Int.toNat y2)) default).1, ((List.getD (List.set mm2 (0 + (Int.toNat y2)) ((List.getD mm2 (0 + (Int.toNat y2)) default).1, ((List.getD mm2 (0 + (Int.toNat y2)) default).2.1, ((List.getD mm2 (0 + (Int.toNat y2)) default).2.2.1, ((List.getD mm2 (0 + (Int.toNat y2)) default).2.2.2.1, ((List.getD mm2 (0 + (Int.toNat y2)) default).2.2.2.2.1, (r7.2, (List.getD mm2 (0 + (Int.toNat y2)) default).2.2.2.2.2.2))))))) (0 + (Int.toNat y2)) default).2.1, ((List.getD (List.set mm2 (0 + (Int.toNat y2)) ((List.getD mm2 (0 + (Int.toNat y2)) default).1, ((List.getD mm2 (0 + (Int.toNat y2)) default).2.1, ((List.getD mm2 (0 + (Int.toNat y2)) default).2.2.1, ((List.getD mm2 (0 + (Int.toNat y2)) default).2.2.2.1, ((List.getD mm2 (0 + (Int.toNat y2)) default).2.2.2.2.1, (r7.2, (List.getD mm2 (0 + (Int.toNat y2)) default).2.2.2.2.2.2))))))) (0 + (Int.toNat y2)) default).2.2.1, ((List.getD (List.set mm2 (0 + (Int.toNat y2)) ((List.getD mm2 (0 + (Int.toNat y2)) default).1, ((List.getD mm2 (0 + (Int.toNat y2)) default).2.1, ((List.getD mm2 (0 + (Int.toNat y2)) default).2.2.1, ((List.getD mm2 (0 + (Int.toNat y2)) default).2.2.2.1, ((List.getD mm2 (0 + (Int.toNat y2)) default).2.2.2.2.1, (r7.2, (List.getD mm2 (0 + (Int.toNat y2)) default).2.2.2.2.2.2))))))) (0 + (Int.toNat y2)) default).2.2.2.1, ((List.getD (List.set mm2 (0 + (Int.toNat y2)) ((List.getD mm2 (0 + (Int.toNat y2)) default).1, ((List.getD mm2 (0 + (Int.toNat y2)) default).2.1, ((List.getD mm2 (0 + (Int.toNat y2)) default).2.2.1, ((List.getD mm2 (0 + (Int.toNat y2)) default).2.2.2.1, ((List.getD mm2 (0 + (Int.toNat y2)) default).2.2.2.2.1, (r7.2, (List.getD mm2 (0 + (Int.toNat y2)) default).2.2.2.2.2.2))))))) (0 + (Int.toNat y2)) default).2.2.2.2.1, ((List.getD (List.set mm2 (0 + (Int.toNat y2)) ((List.getD mm2 (0 + (Int.toNat y2)) default).1, ((List.getD mm2 (0 + (Int.toNat y2)) default).2.1, ((List.getD mm2 (0 + (Int.toNat y2)) default).2.2.1, ((List.getD mm2 (0 + (Int.toNat y2)) default).2.2.2.1, ((List.getD mm2 (0 + (Int.toNat y2)) default).2.2.2.2.1, (r7.2, (List.getD mm2 (0 + (Int.toNat y2)) default).2.2.2.2.2.2))))))) (0 + (Int.toNat y2)) default).2.2.2.2.2.1, (r7.1, (List.getD (List.set mm2 (0 + (Int.toNat y2)) ((List.getD mm2 (0 + (Int.toNat y2)) default).1, ((List.getD mm2 (0 + (Int.toNat y2)) default).2.1, ((List.getD mm2 (0 + (Int.toNat y2)) default).2.2.1, ((List.getD mm2 (0 + (Int.toNat y2)) default).2.2.2.1, ((List.getD mm2 (0 + (Int.toNat y2)) default).2.2.2.2.1, (r7.2, (List.getD mm2 (0 + (Int.toNat y2)) default).2.2.2.2.2.2))))))) (0 + (Int.toNat y2)) default).2.2.2.2.2.2.2)))))))); cond (inB y2 (List.length mm3)) (let mm4 := (List.set mm3 (0 + (Int.toNat y2)) ((List.getD mm3 (0 + (Int.toNat y2)) default).1, ((List.getD mm3 (0 + (Int.toNat y2)) default).2.1, ((List.getD mm3 (0 + (Int.toNat y2)) default).2.2.1, ((List.getD mm3 (0 + (Int.toNat y2)) default).2.2.2.1, ((List.getD mm3 (0 + (Int.toNat y2)) default).2.2.2.2.1, ((List.getD mm3 (0 + (Int.toNat y2)) default).2.2.2.2.2.1, ((List.getD mm3 (0 + (Int.toNat y2)) default).2.2.2.2.2.2.1, ((decide ((Int.tmod (IntKind.wrap .i64 (r7.1 + (1 : Int))) (3 : Int)) = (0 : Int))), (List.getD mm3 (0 + (Int.toNat y2)) default).2.2.2.2.2.2.2.2))))))))); cond (inB y2 (List.length mm4)) (let mm5 := (List.set mm4 (0 + (Int.toNat y2)) ((List.getD mm4 (0 + (Int.toNat y2)) default).1, ((List.getD mm4 (0 + (Int.toNat y2)) default).2.1, ((List.getD mm4 (0 + (Int.toNat y2)) default).2.2.1, ((List.getD mm4 (0 + (Int.toNat y2)) default).2.2.2.1, ((List.getD mm4 (0 + (Int.toNat y2)) default).2.2.2.2.1, ((List.getD mm4 (0 + (Int.toNat y2)) default).2.2.2.2.2.1, ((List.getD mm4 (0 + (Int.toNat y2)) default).2.2.2.2.2.2.1, ((List.getD mm4 (0 + (Int.toNat y2)) default).2.2.2.2.2.2.2.1, ((IntKind.wrap .i64 ((IntKind.wrap .i64 (r7.1 + (1 : Int))) + (1 : Int))), (List.getD mm4 (0 + (Int.toNat y2)) default).2.2.2.2.2.2.2.2.2)))))))))); cond (inB y2 (List.length mm5)) (let mm6 := (List.set mm5 (0 + (Int.toNat y2)) ((List.getD mm5 (0 + (Int.toNat y2)) default).1, ((List.getD mm5 (0 + (Int.toNat y2)) default).2.1, ((List.getD mm5 (0 + (Int.toNat y2)) default).2.2.1, ((List.getD mm5 (0 + (Int.toNat y2)) default).2.2.2.1, ((List.getD mm5 (0 + (Int.toNat y2)) default).2.2.2.2.1, ((List.getD mm5 (0 + (Int.toNat y2)) default).2.2.2.2.2.1, ((List.getD mm5 (0 + (Int.toNat y2)) default).2.2.2.2.2.2.1, ((List.getD mm5 (0 + (Int.toNat y2)) default).2.2.2.2.2.2.2.1, ((List.getD mm5 (0 + (Int.toNat y2)) default).2.2.2.2.2.2.2.2.1, ((decide ((Int.tmod (IntKind.wrap .i64 ((IntKind.wrap .i64 ((IntKind.wrap .i64 (r7.1 + (1 : Int))) + (1 : Int))) + (1 : Int))) (3 : Int)) = (0 : Int))), (List.getD mm5 (0 + (Int.toNat y2)) default).2.2.2.2.2.2.2.2.2.2))))))))))); cond (inB y2 (List.length mm6)) (let mm7 := (List.set mm6 (0 + (Int.toNat y2)) ((List.getD mm6 (0 + (Int.toNat y2)) default).1, ((List.getD mm6 (0 + (Int.toNat y2)) default).2.1, ((List.getD mm6 (0 + (Int.toNat y2)) default).2.2.1, ((List.getD mm6 (0 + (Int.toNat y2)) default).2.2.2.1, ((List.getD mm6 (0 + (Int.toNat y2)) default).2.2.2.2.1, ((List.getD mm6 (0 + (Int.toNat y2)) default).2.2.2.2.2.1, ((List.getD mm6 (0 + (Int.toNat y2)) default).2.2.2.2.2.2.1, ((List.getD mm6 (0 + (Int.toNat y2)) default).2.2.2.2.2.2.2.1, ((List.getD mm6 (0 + (Int.toNat y2)) default).2.2.2.2.2.2.2.2.1, ((List.getD mm6 (0 + (Int.toNat y2)) default).2.2.2.2.2.2.2.2.2.1, ((IntKind.wrap .i64 ((IntKind.wrap .i64 ((IntKind.wrap .i64 ((IntKind.wrap .i64 (r7.1 + (1 : Int))) + (1 : Int))) + (1 : Int))) + (1 : Int))), (List.getD mm6 (0 + (Int.toNat y2)) default).2.2.2.2.2.2.2.2.2.2.2)))))))))))); cond (inB y2 (List.length mm7)) ((laws_markStringS n (List.getD mm7 (0 + (Int.toNat y2)) default).2.2.2.2.2.2.2.2.2.2.2.1 (IntKind.wrap .i64 ((IntKind.wrap .i64 ((IntKind.wrap .i64 ((IntKind.wrap .i64 ((IntKind.wrap .i64 (r7.1 + (1 : Int))) + (1 : Int))) + (1 : Int))) + (1 : Int))) + (1 : Int)))).bind fun r8 => let mm8 := (List.set mm7 (0 + (Int.toNat y2)) ((List.getD mm7 (0 + (Int.toNat y2)) default).1, ((List.getD mm7 (0 + (Int.toNat y2)) default).2.1, ((List.getD mm7 (0 + (Int.toNat y2)) default).2.2.1, ((List.getD mm7 (0 + (Int.toNat y2)) default).2.2.2.1, ((List.getD mm7 (0 + (Int.toNat y2)) default).2.2.2.2.1, ((List.getD mm7 (0 + (Int.toNat y2)) default).2.2.2.2.2.1, ((List.getD mm7 (0 + (Int.toNat y2)) default).2.2.2.2.2.2.1, ((List.getD mm7 (0 + (Int.toNat y2)) default).2.2.2.2.2.2.2.1, ((List.getD mm7 (0 + (Int.toNat y2)) default).2.2.2.2.2.2.2.2.1, ((List.getD mm7 (0 + (Int.toNat y2)) default).2.2.2.2.2.2.2.2.2.1, ((List.getD mm7 (0 + (Int.toNat y2)) default).2.2.2.2.2.2.2.2.2.2.1, (r8.2, (List.getD mm7 (0 + (Int.toNat y2)) default).2.2.2.2.2.2.2.2.2.2.2.2))))))))))))); cond (inB y2 (List.length mm8)) (let mm9 := (List.set mm8 (0 + (Int.toNat y2)) ((List.getD mm8 (0 + (Int.toNat y2)) default).1, ((List.getD mm8 (0 + (Int.toNat y2)) default).2.1, ((List.getD mm8 (0 + (Int.toNat y2)) default).2.2.1, ((List.getD mm8 (0 + (Int.toNat y2)) default).2.2.2.1, ((List.getD mm8 (0 + (Int.toNat y2)) default).2.2.2.2.1, ((List.getD mm8 (0 + (Int.toNat y2)) default).2.2.2.2.2.1, ((List.getD mm8 (0 + (Int.toNat y2)) default).2.2.2.2.2.2.1, ((List.getD mm8 (0 + (Int.toNat y2)) default).2.2.2.2.2.2.2.1, ((List.getD mm8 (0 + (Int.toNat y2)) default).2.2.2.2.2.2.2.2.1, ((List.getD mm8 (0 + (Int.toNat y2)) default).2.2.2.2.2.2.2.2.2.1, ((List.getD mm8 (0 + (Int.toNat y2)) default).2.2.2.2.2.2.2.2.2.2.1, ((List.getD mm8 (0 + (Int.toNat y2)) default).2.2.2.2.2.2.2.2.2.2.2.1, (r8.1, (List.getD mm8 (0 + (Int.toNat y2)) default).2.2.2.2.2.2.2.2.2.2.2.2.2)))))))))))))); cond (inB y2 (List.length mm9)) ((laws_markStringS n (List.getD mm9 (0 + (Int.toNat y2)) default).2.2.2.2.2.2.2.2.2.2.2.2.2.1 (IntKind.wrap .i64 (r8.1 + (1 : Int)))).bind fun r9 => let mm10 := (List.set mm9 (0 + (Int.toNat y2)) ((List.getD mm9 (0 + (Int.toNat y2)) default).1, ((List.getD mm9 (0 + (Int.toNat y2)) default).2.1, ((List.getD mm9 (0 + (Int.toNat y2)) default).2.2.1, ((List.getD mm9 (0 + (Int.toNat y2)) default).2.2.2.1, ((List.getD mm9 (0 + (Int.toNat y2)) default).2.2.2.2.1, ((List.getD mm9 (0 + (Int.toNat y2)) default).2.2.2.2.2.1, ((List.getD mm9 (0 + (Int.toNat y2)) default).2.2.2.2.2.2.1, ((List.getD mm9 (0 + (Int.toNat y2)) default).2.2.2.2.2.2.2.1, ((List.getD mm9 (0 + (Int.toNat y2)) default).2.2.2.2.2.2.2.2.1, ((List.getD mm9 (0 + (Int.toNat y2)) default).2.2.2.2.2.2.2.2.2.1, ((List.getD mm9 (0 + (Int.toNat y2)) default).2.2.2.2.2.2.2.2.2.2.1, ((List.getD mm9 (0 + (Int.toNat y2)) default).2.2.2.2.2.2.2.2.2.2.2.1, ((List.getD mm9 (0 + (Int.toNat y2)) default).2.2.2.2.2.2.2.2.2.2.2.2.1, (r9.2, (List.getD mm9 (0 + (Int.toNat y2)) default).2.2.2.2.2.2.2.2.2.2.2.2.2.2))))))))))))))); cond (inB y2 (List.length mm10)) (let mm11 := (List.set mm10 (0 + (Int.toNat y2)) ((List.getD mm10 (0 + (Int.toNat y2)) default).1, ((List.getD mm10 (0 + (Int.toNat y2)) default).2.1, ((List.getD mm10 (0 + (Int.toNat y2)) default).2.2.1, ((List.getD mm10 (0 + (Int.toNat y2)) default).2.2.2.1, ((List.getD mm10 (0 + (Int.toNat y2)) default).2.2.2.2.1, ((List.getD mm10 (0 + (Int.toNat y2)) default).2.2.2.2.2.1, ((List.getD mm10 (0 + (Int.toNat y2)) default).2.2.2.2.2.2.1, ((List.getD mm10 (0 + (Int.toNat y2)) default).2.2.2.2.2.2.2.1, ((List.getD mm10 (0 + (Int.toNat y2)) default).2.2.2.2.2.2.2.2.1, ((List.getD mm10 (0 + (Int.toNat y2)) default).2.2.2.2.2.2.2.2.2.1, ((List.getD mm10 (0 + (Int.toNat y2)) default).2.2.2.2.2.2.2.2.2.2.1, ((List.getD mm10 (0 + (Int.toNat y2)) default).2.2.2.2.2.2.2.2.2.2.2.1, ((List.getD mm10 (0 + (Int.toNat y2)) default).2.2.2.2.2.2.2.2.2.2.2.2.1, ((List.getD mm10 (0 + (Int.toNat y2)) default).2.2.2.2.2.2.2.2.2.2.2.2.2.1, (r9.1, (List.getD mm10 (0 + (Int.toNat y2)) default).2.2.2.2.2.2.2.2.2.2.2.2.2.2.2)))))))))))))))); K (.p7 (IntKind.wrap .i64 (r9.1 + (1 : Int))) (IntKind.wrap .i64 (y2 + (1 : Int))) mm11)) (none)) (none)) (none)) (none)) (none)) (none)) (none)) (none)) (none)) (none)) (none)) (none)) (none)) (none)) (none)) (some (y1, y3))
def laws_markQueryS (n : Nat) (a0 : List (tU1)) (a1 : Int) : Option (Tup [(.int .i64), (.sl false cU2)]) := goRec laws_markQueryS.step n (.p0 a0 a1)
def laws_markQueryS.spec : Ctr := ⟨10, [.s false cU2, .v (.int .i64)], [(.int .i64)], [(.sl false cU2)], none, fun n x => laws_markQueryS n x.1 x.2.1⟩
theorem laws_markQueryS.seg_eq : SegEq ty gl laws_markQueryS.F laws_markQueryS.md laws_markQueryS.T laws_markQueryS.spec laws_markQueryS.lb laws_markQueryS.st laws_markQueryS.step := by
  intro n goto y; cases y <;> kernel_rfl
theorem laws_markQueryS.text : Text Go.Proofs.Try.prog laws_markQueryS.F laws_markQueryS.spec := textOf Go.Proofs.Try.f10
theorem laws_markQueryS.ok : CtrOK Go.Proofs.Try.prog gl laws_markQueryS.spec :=
  ctr_okS tabs laws_markQueryS.text laws_markQueryS.seg_eq (fun n x => ⟨.p0 x.1 x.2.1, rfl, rfl, rfl⟩) (consC laws_markText.ok (consC laws_markMatcherS.ok (consC laws_markStringS.ok (nilC))))

/-! loop.example/g00039/laws.markNeedS -/
def laws_markNeedS.T : List Ctr := [laws_markMatcherS.spec]
def laws_markNeedS.md : List (Nat × List Md) := [(25, [.s, .v])]
noncomputable def laws_markNeedS.F : Fun := ⟨(Go.Proofs.Try.f11.body).getD .skip, [.s false cU5, .v (.int .i64)], [(.tmp 4, (.int .i64))], [none], 1, [(7, ⟨[0, 1, 5], [], [], false⟩)]⟩
inductive laws_markNeedS.Pt where
  | p0 (a0 : List (tU6)) (a1 : Int)
  | p7 (y1 : Int) (y2 : Int) (y3 : List (tU6))
def laws_markNeedS.lb : laws_markNeedS.Pt → Nat
  | .p0 _ _ => 0
  | .p7 _ _ _ => 7
def laws_markNeedS.st : laws_markNeedS.Pt → St
  | .p0 a0 a1 => enter [.s false cU5 a0, .v (.int .i64) a1] 1
  | .p7 y1 y2 y3 => ⟨[(0, .hs 0 [] none 0), (1, .im (.int .i64) y1), (5, .im (.int .i64) y2)], [(0, .arr false cU5 y3 0)], 1⟩
def laws_markNeedS.step (n : Nat) (K : laws_markNeedS.Pt → Option (Tup [(.int .i64), (.sl false cU5)])) : laws_markNeedS.Pt → Option (Tup [(.int .i64), (.sl false cU5)])
  | .p0 a0 a1 => K (.p7 a1 (0 : Int) a0)
  | .p7 y1 y2 y3 => cond (decide (y2 < ((List.length y3) : Int))) (cond (inB y2 (List.length y3)) ((laws_markMatcherS n (List.getD y3 (0 + (Int.toNat y2)) default).1 y1).bind fun r6 => cond (inB y2 (List.length (List.set y3 (0 + (Int.toNat y2)) (r6.2, (List.getD y3 (0 + (Int.toNat y2)) default).2)))) (cond (inB y2 (List.length (List.set (List.set y3 (0 + (Int.toNat y2)) (r6.2, (List.getD y3 (0 + (Int.toNat y2)) default).2)) (0 + (Int.toNat y2)) ((List.getD (List.set y3 (0 + (Int.toNat y2)) (r6.2, (List.getD y3 (0 + (Int.toNat y2)) default).2)) (0 + (Int.toNat y2)) default).1, (r6.1, (List.getD (List.set y3 (0 + (Int.toNat y2)) (r6.2, (List.getD y3 (0 + (Int.toNat y2)) default).2)) (0 + (Int.toNat y2)) default).2.2))))) (let mm0 := (List.set (List.set (List.set y3 (0 + (Int.toNat y2)) (r6.2, (List.getD y3 (0 + (Int.toNat y2)) default).2)) (0 + (Int.toNat y2)) ((List.getD (List.set y3 (0 + (Int.toNat y2)) (r6.2, (List.getD y3 (0 + (Int.toNat y2)) default).2)) (0 + (Int.toNat y2)) default).1, (r6.1, (List.getD (List.set y3 (0 + (Int.toNat y2)) (r6.2, (List.getD y3 (0 + (Int.toNat y2)) default).2)) (0 + (Int.toNat y2)) default).2.2))) (0 + (Int.toNat y2)) ((List.getD (List.set (List.set y3 (0 + (Int.toNat y2)) (r6.2, (List.getD y3 (0 + (Int.toNat y2)) default).2)) (0 + (Int.toNat y2)) ((List.getD (List.set y3 (0 + (Int.toNat y2)) (r6.2, (List.getD y3 (0 + (Int.toNat y2)) default).2)) (0 + (Int.toNat y2)) default).1, (r6.1, (List.getD (List.set y3 (0 + (Int.toNat y2)) (r6.2, (List.getD y3 (0 + (Int.toNat y2)) default).2)) (0 + (Int.toNat y2)) default).2.2))) (0 + (Int.toNat y2)) default).1, ((List.getD (List.set (List.set y3 (0 + (Int.toNat y2)) (r6.2, (List.getD y3 (0 + (Int.toNat y2)) default).2)) (0 + (Int.toNat y2)) ((List.getD (List.set y3 (0 + (Int.toNat y2)) (r6.2, (List.getD y3 (0 + (Int.toNat y2)) default).2)) (0 + (Int.toNat y2)) default).1, (r6.1, (List.getD (List.set y3 (0 + (Int.toNat y2)) (r6.2, (List.getD y3 (0 + (Int.toNat y2)) default).2)) (0 + (Int.toNat y2)) default).2.2))) (0 + (Int.toNat y2)) default).2.1, ((IntKind.wrap .i64 (r6.1 + (1 : Int))), (List.getD (List.set (List.set y3 (0 + (Int.toNat y2)) (r6.2, (List.getD y3 (0 + (Int.toNat y2)) default).2)) (0 + (Int.toNat y2)) ((List.getD (List.set y3 (0 + (Int.toNat y2)) (r6.2, (List.getD y3 (0 + (Int.toNat y2)) default).2)) (0 + (Int.toNat y2)) default).1, (r6.1, (List.getD (List.set y3 (0 + (Int.toNat y2)) (r6.2, (List.getD y3 (0 + (Int.toNat y2)) default).2)) (0 + (Int.toNat y2)) default).2.2))) (0 + (Int.toNat y2)) default).2.2.2)))); K (.p7 (IntKind.wrap .i64 ((IntKind.wrap .i64 (r6.1 + (1 : Int))) + (1 : Int))) (IntKind.wrap .i64 (y2 + (1 : Int))) mm0)) (none)) (none)) (none)) (some (y1, y3))
def laws_markNeedS (n : Nat) (a0 : List (tU6)) (a1 : Int) : Option (Tup [(.int .i64), (.sl false cU5)]) := goRec laws_markNeedS.step n (.p0 a0 a1)
def laws_markNeedS.spec : Ctr := ⟨11, [.s false cU5, .v (.int .i64)], [(.int .i64)], [(.sl false cU5)], none, fun n x => laws_markNeedS n x.1 x.2.1⟩
theorem laws_markNeedS.seg_eq : SegEq ty gl laws_markNeedS.F laws_markNeedS.md laws_markNeedS.T laws_markNeedS.spec laws_markNeedS.lb laws_markNeedS.st laws_markNeedS.step := by
  intro n goto y; cases y <;> kernel_rfl
theorem laws_markNeedS.text : Text Go.Proofs.Try.prog laws_markNeedS.F laws_markNeedS.spec := textOf Go.Proofs.Try.f11
theorem laws_markNeedS.ok : CtrOK Go.Proofs.Try.prog gl laws_markNeedS.spec :=
  ctr_okS tabs laws_markNeedS.text laws_markNeedS.seg_eq (fun n x => ⟨.p0 x.1 x.2.1, rfl, rfl, rfl⟩) (consC laws_markMatcherS.ok (nilC))

/-! loop.example/g00039/laws.heldMatcherS -/
def laws_heldMatcherS.T : List Ctr := [laws_markText.spec]
def laws_heldMatcherS.md : List (Nat × List Md) := []
noncomputable def laws_heldMatcherS.F : Fun := ⟨(Go.Proofs.Try.f27.body).getD .skip, [.v (.sl false cU3), .v (.int .i64)], [(.tmp 4, (.int .i64))], [], 0, [(7, ⟨[0, 1, 5], [], [], false⟩)]⟩
inductive laws_heldMatcherS.Pt where
  | p0 (a0 : List (tU4)) (a1 : Int)
  | p7 (y1 : List (tU4)) (y2 : Int) (y3 : Int)
def laws_heldMatcherS.lb : laws_heldMatcherS.Pt → Nat
  | .p0 _ _ => 0
  | .p7 _ _ _ => 7
def laws_heldMatcherS.st : laws_heldMatcherS.Pt → St
  | .p0 a0 a1 => enter [.v (.sl false cU3) a0, .v (.int .i64) a1] 0
  | .p7 y1 y2 y3 => ⟨[(0, .im (.sl false cU3) y1), (1, .im (.int .i64) y2), (5, .im (.int .i64) y3)], [], 0⟩
def laws_heldMatcherS.step (n : Nat) (K : laws_heldMatcherS.Pt → Option (Tup [(.int .i64)])) : laws_heldMatcherS.Pt → Option (Tup [(.int .i64)])
  | .p0 a0 a1 => K (.p7 a0 a1 (0 : Int))
  | .p7 y1 y2 y3 => cond (decide (y3 < ((List.length y1) : Int))) (cond (inB y3 (List.length y1)) ((laws_markText n y2).bind fun r6 => cond (!(seq (List.getD y1 (Int.toNat y3) default).1 r6)) (some (-(1 : Int))) (cond (inB y3 (List.length y1)) (cond (!(decide ((List.getD y1 (Int.toNat y3) default).2.1 = (IntKind.wrap .i64 (y2 + (1 : Int)))))) (some (-(1 : Int))) (cond (inB y3 (List.length y1)) ((laws_markText n (IntKind.wrap .i64 ((IntKind.wrap .i64 (y2 + (1 : Int))) + (1 : Int)))).bind fun r7 => cond (!(seq (List.getD y1 (Int.toNat y3) default).2.2.1 r7)) (some (-(1 : Int))) (K (.p7 y1 (IntKind.wrap .i64 ((IntKind.wrap .i64 ((IntKind.wrap .i64 (y2 + (1 : Int))) + (1 : Int))) + (1 : Int))) (IntKind.wrap .i64 (y3 + (1 : Int)))))) (none))) (none))) (none)) (some y2)
def laws_heldMatcherS (n : Nat) (a0 : List (tU4)) (a1 : Int) : Option (Tup [(.int .i64)]) := goRec laws_heldMatcherS.step n (.p0 a0 a1)
def laws_heldMatcherS.spec : Ctr := ⟨27, [.v (.sl false cU3), .v (.int .i64)], [(.int .i64)], [], none, fun n x => laws_heldMatcherS n x.1 x.2.1⟩
theorem laws_heldMatcherS.seg_eq : SegEq ty gl laws_heldMatcherS.F laws_heldMatcherS.md laws_heldMatcherS.T laws_heldMatcherS.spec laws_heldMatcherS.lb laws_heldMatcherS.st laws_heldMatcherS.step := by
  intro n goto y; cases y <;> kernel_rfl
theorem laws_heldMatcherS.text : Text Go.Proofs.Try.prog laws_heldMatcherS.F laws_heldMatcherS.spec := textOf Go.Proofs.Try.f27
theorem laws_heldMatcherS.ok : CtrOK Go.Proofs.Try.prog gl laws_heldMatcherS.spec :=
  ctr_okS tabs laws_heldMatcherS.text laws_heldMatcherS.seg_eq (fun n x => ⟨.p0 x.1 x.2.1, rfl, rfl, rfl⟩) (consC laws_markText.ok (nilC))

/-! loop.example/g00039/laws.heldNeedS -/
def laws_heldNeedS.T : List Ctr := [laws_heldMatcherS.spec]
def laws_heldNeedS.md : List (Nat × List Md) := []
noncomputable def laws_heldNeedS.F : Fun := ⟨(Go.Proofs.Try.f12.body).getD .skip, [.v (.sl false cU5), .v (.int .i64)], [(.tmp 4, (.int .i64))], [], 0, [(7, ⟨[0, 1, 5], [], [], false⟩)]⟩
inductive laws_heldNeedS.Pt where
  | p0 (a0 : List (tU6)) (a1 : Int)
  | p7 (y1 : List (tU6)) (y2 : Int) (y3 : Int)
def laws_heldNeedS.lb : laws_heldNeedS.Pt → Nat
  | .p0 _ _ => 0
  | .p7 _ _ _ => 7
def laws_heldNeedS.st : laws_heldNeedS.Pt → St
  | .p0 a0 a1 => enter [.v (.sl false cU5) a0, .v (.int .i64) a1] 0
  | .p7 y1 y2 y3 => ⟨[(0, .im (.sl false cU5) y1), (1, .im (.int .i64) y2), (5, .im (.int .i64) y3)], [], 0⟩
def laws_heldNeedS.step (n : Nat) (K : laws_heldNeedS.Pt → Option (Tup [(.int .i64)])) : laws_heldNeedS.Pt → Option (Tup [(.int .i64)])
  | .p0 a0 a1 => K (.p7 a0 a1 (0 : Int))
  | .p7 y1 y2 y3 => cond (decide (y3 < ((List.length y1) : Int))) (cond (inB y3 (List.length y1)) ((laws_heldMatcherS n (List.getD y1 (Int.toNat y3) default).1 y2).bind fun (r6 : Int) => cond (decide (r6 < (0 : Int))) (some (-(1 : Int))) (cond (inB y3 (List.length y1)) (cond (!(decide ((List.getD y1 (Int.toNat y3) default).2.1 = r6))) (some (-(1 : Int))) (cond (inB y3 (List.length y1)) (cond (!(decide ((List.getD y1 (Int.toNat y3) default).2.2.1 = (IntKind.wrap .i64 (r6 + (1 : Int)))))) (some (-(1 : Int))) (K (.p7 y1 (IntKind.wrap .i64 ((IntKind.wrap .i64 (r6 + (1 : Int))) + (1 : Int))) (IntKind.wrap .i64 (y3 + (1 : Int)))))) (none))) (none))) (none)) (some y2)
def laws_heldNeedS (n : Nat) (a0 : List (tU6)) (a1 : Int) : Option (Tup [(.int .i64)]) := goRec laws_heldNeedS.step n (.p0 a0 a1)
def laws_heldNeedS.spec : Ctr := ⟨12, [.v (.sl false cU5), .v (.int .i64)], [(.int .i64)], [], none, fun n x => laws_heldNeedS n x.1 x.2.1⟩
theorem laws_heldNeedS.seg_eq : SegEq ty gl laws_heldNeedS.F laws_heldNeedS.md laws_heldNeedS.T laws_heldNeedS.spec laws_heldNeedS.lb laws_heldNeedS.st laws_heldNeedS.step := by
  intro n goto y; cases y <;> kernel_rfl
theorem laws_heldNeedS.text : Text Go.Proofs.Try.prog laws_heldNeedS.F laws_heldNeedS.spec := textOf Go.Proofs.Try.f12
theorem laws_heldNeedS.ok : CtrOK Go.Proofs.Try.prog gl laws_heldNeedS.spec :=
  ctr_okS tabs laws_heldNeedS.text laws_heldNeedS.seg_eq (fun n x => ⟨.p0 x.1 x.2.1, rfl, rfl, rfl⟩) (consC laws_heldMatcherS.ok (nilC))

/-! loop.example/g00039/laws.FnExactNeedsOf -/
def laws_FnExactNeedsOf.T : List Ctr := [laws_szQueryS.spec, laws_toQueryS.spec, spec_NeedsOf.spec, impl_NeedsOf.spec, laws_eqNeedS.spec, laws_eqQueryS.spec, laws_markQueryS.spec, laws_markNeedS.spec, laws_heldNeedS.spec]
def laws_FnExactNeedsOf.md : List (Nat × List Md) := [(5, [.b (.sl false cU0), .v, .v]), (7, [.b (.sl false cU0), .v, .v]), (10, [.s, .v]), (11, [.s, .v])]
noncomputable def laws_FnExactNeedsOf.F : Fun := ⟨(Go.Proofs.Try.f3.body).getD .skip, [.v (.sl false cU2), .v (.int .i64), .v (.int .i64)], [(.tmp 6, .bool)], [], 0, [(42, ⟨[0, 1, 2, 8, 10, 50], [(8, cU5), (10, cU5)], [], false⟩)]⟩
inductive laws_FnExactNeedsOf.Pt where
  | p0 (a0 : List (tU1)) (a1 : Int) (a2 : Int)
  | p42 (y1 : List (tU1)) (y2 : Int) (y3 : Int) (y4 : Bool) (y5 : List (tU6)) (y6 : List (tU6))
def laws_FnExactNeedsOf.lb : laws_FnExactNeedsOf.Pt → Nat
  | .p0 _ _ _ => 0
  | .p42 _ _ _ _ _ _ => 42
def laws_FnExactNeedsOf.st : laws_FnExactNeedsOf.Pt → St
  | .p0 a0 a1 a2 => enter [.v (.sl false cU2) a0, .v (.int .i64) a1, .v (.int .i64) a2] 0
  | .p42 y1 y2 y3 y4 y5 y6 => ⟨[(0, .im (.sl false cU2) y1), (1, .im (.int .i64) y2), (2, .im (.int .i64) y3), (8, .hs 0 [] none 0), (10, .hs 1 [] none 0), (50, .im .bool y4)], [(0, .arr false cU5 y5 0), (1, .arr false cU5 y6 0)], 2⟩
def laws_FnExactNeedsOf.step (n : Nat) (K : laws_FnExactNeedsOf.Pt → Option (Tup [.bool])) : laws_FnExactNeedsOf.Pt → Option (Tup [.bool])
  | .p0 a0 a1 a2 => (laws_szQueryS n a0 (1048576 : Int)).bind fun (r6 : Int) => cond (decide (r6 < (0 : Int))) (some true) ((laws_toQueryS n a0).bind fun r7 => (spec_NeedsOf n r7 a1 a2).bind fun r8 => (laws_toQueryS n a0).bind fun r9 => (impl_NeedsOf n r9 a1 a2).bind fun r10 => (laws_eqNeedS n r10 r8).bind fun r11 => cond (!r11) (some false) ((laws_toQueryS n a0).bind fun r12 => (laws_eqQueryS n r9 r12).bind fun r13 => cond (!r13) (some false) ((laws_markQueryS n r9 (1 : Int)).bind fun r14 => cond (decide (r14.1 < (0 : Int))) (K (.p42 a0 a1 a2 true r8 r10)) ((laws_eqNeedS n r10 r8).bind fun r15 => K (.p42 a0 a1 a2 (!r15) r8 r10)))))
  | .p42 y1 y2 y3 y4 y5 y6 => cond y4 (some false) ((laws_markNeedS n y6 (1 : Int)).bind fun r9 => (laws_heldNeedS n r9.2 (1 : Int)).bind fun (r10 : Int) => cond (decide (r10 < (0 : Int))) (some false) (cond (!(decide (r10 = r9.1))) (some false) ((laws_toQueryS n y1).bind fun r11 => (impl_NeedsOf n r11 y2 y3).bind fun r12 => (laws_eqNeedS n r12 y5).bind fun r13 => cond (!r13) (some false) ((laws_heldNeedS n r9.2 (1 : Int)).bind fun (r14 : Int) => cond (decide (r14 < (0 : Int))) (some false) (cond (!(decide (r14 = r9.1))) (some false) (some true))))))
def laws_FnExactNeedsOf (n : Nat) (a0 : List (tU1)) (a1 : Int) (a2 : Int) : Option (Tup [.bool]) := goRec laws_FnExactNeedsOf.step n (.p0 a0 a1 a2)
def laws_FnExactNeedsOf.spec : Ctr := ⟨3, [.v (.sl false cU2), .v (.int .i64), .v (.int .i64)], [.bool], [], none, fun n x => laws_FnExactNeedsOf n x.1 x.2.1 x.2.2.1⟩
theorem laws_FnExactNeedsOf.seg_eq : SegEq ty gl laws_FnExactNeedsOf.F laws_FnExactNeedsOf.md laws_FnExactNeedsOf.T laws_FnExactNeedsOf.spec laws_FnExactNeedsOf.lb laws_FnExactNeedsOf.st laws_FnExactNeedsOf.step := by
  intro n goto y; cases y <;> kernel_rfl
theorem laws_FnExactNeedsOf.text : Text Go.Proofs.Try.prog laws_FnExactNeedsOf.F laws_FnExactNeedsOf.spec := textOf Go.Proofs.Try.f3
theorem laws_FnExactNeedsOf.ok : CtrOK Go.Proofs.Try.prog gl laws_FnExactNeedsOf.spec :=
  ctr_okS tabs laws_FnExactNeedsOf.text laws_FnExactNeedsOf.seg_eq (fun n x => ⟨.p0 x.1 x.2.1 x.2.2.1, rfl, rfl, rfl⟩) (consC laws_szQueryS.ok (consC laws_toQueryS.ok (consC spec_NeedsOf.ok (consC impl_NeedsOf.ok (consC laws_eqNeedS.ok (consC laws_eqQueryS.ok (consC laws_markQueryS.ok (consC laws_markNeedS.ok (consC laws_heldNeedS.ok (nilC))))))))))
end Go.NE
