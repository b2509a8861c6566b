/- The functions that the law reaches, each as a Lean function and with its contract, part 2. -/
import Derived.Test.YtjleibkkhmhpmaaGreatV1
import Derived.Test.YtjleibkkhmhpmaaGreatV2
import Derived.Test.YtjleibkkhmhpmaaGreatV3
import Derived.Lib.Bytealg
import Derived.Shelf.Lays
import Derived.Shelf.Small.Strs
import Derived.Shelf.Sort.Plain
import Derived.Shelf.Slices.In.SortNone
import Derived.Sort.OwnSortedInts
import Derived.Test.YtjleibkkhmhpmaaGreatProg
import Derived.Test.YtjleibkkhmhpmaaGreatFExactRoutesFor1
open Go Go.VM
namespace Go.RF
set_option maxRecDepth 100000
set_option linter.unusedVariables false
set_option linter.unusedSimpArgs false
/-! loop.example/g00039/impl.valueOf -/
def impl_valueOf.T : List Ctr := []
def impl_valueOf.md : List (Nat × List Md) := []
noncomputable def impl_valueOf.F : Fun := ⟨(Go.Proofs.Tryz.f192.body).getD .skip, [.v (.sl false (.pair .str (.pair .str .unit))), .v .str], [(.tmp 4, .str)], [], 0, [(7, ⟨[1, 7, 8, 9], [(7, (.pair .str (.pair .str .unit)))], [], false⟩)]⟩
inductive impl_valueOf.Pt where
  | p0 (a0 : List ((ByteArray) × ((ByteArray) × (Unit)))) (a1 : ByteArray)
  | p7 (y1 : ByteArray) (y2 : List ((ByteArray) × ((ByteArray) × (Unit)))) (y3 : Int) (y4 : Int)
def impl_valueOf.lb : impl_valueOf.Pt → Nat
  | .p0 _ _ => 0
  | .p7 _ _ _ _ => 7
def impl_valueOf.st : impl_valueOf.Pt → St
  | .p0 a0 a1 => enter [.v (.sl false (.pair .str (.pair .str .unit))) a0, .v .str a1] 0
  | .p7 y1 y2 y3 y4 => ⟨[(1, .im .str y1), (7, .im (.sl false (.pair .str (.pair .str .unit))) y2), (8, .im (.int .i64) y3), (9, .im (.int .i64) y4)], [], 0⟩
def impl_valueOf.step (n : Nat) (K : impl_valueOf.Pt → Option (Tup [.str])) : impl_valueOf.Pt → Option (Tup [.str])
  | .p0 a0 a1 => K (.p7 a1 a0 ((List.length a0) : Int) (0 : Int))
  | .p7 y1 y2 y3 y4 => cond (decide (y4 < y3)) (cond (inB y4 (List.length y2)) (cond (seq (List.getD y2 (Int.toNat y4) default).1 y1) (some (List.getD y2 (Int.toNat y4) default).2.1) (K (.p7 y1 y2 y3 (IntKind.wrap .i64 (y4 + (1 : Int)))))) (none)) (some (⟨#[]⟩ : ByteArray))
def impl_valueOf (n : Nat) (a0 : List ((ByteArray) × ((ByteArray) × (Unit)))) (a1 : ByteArray) : Option (Tup [.str]) := goRec impl_valueOf.step n (.p0 a0 a1)
def impl_valueOf.spec : Ctr := ⟨192, [.v (.sl false (.pair .str (.pair .str .unit))), .v .str], [.str], [], fun n x => impl_valueOf n x.1 x.2.1⟩
theorem impl_valueOf.seg_eq (n : Nat) (goto : Nat → St → Option (Tup [.str])) (y : impl_valueOf.Pt) : seg ⟨ty, gl, impl_valueOf.md, calOf impl_valueOf.T n⟩ impl_valueOf.F.np impl_valueOf.F.ks goto (impl_valueOf.F.fin ⟨ty, gl, impl_valueOf.md, calOf impl_valueOf.T 0⟩ [.str]) impl_valueOf.F.c (impl_valueOf.lb y) (impl_valueOf.st y) = impl_valueOf.step n (fun z => goto (impl_valueOf.lb z) (impl_valueOf.st z)) y := by
  cases y <;> kernel_rfl
theorem impl_valueOf.text : Text Go.Proofs.Tryz.prog impl_valueOf.F impl_valueOf.spec := ⟨⟨Go.Proofs.Tryz.f192, by kernel_rfl, by kernel_rfl, by decide +kernel, by kernel_rfl, by kernel_rfl, of_decide_eq_true (by kernel_rfl)⟩, fun _ => rfl, fun _ => rfl, rfl⟩
theorem impl_valueOf.ok : CtrOK Go.Proofs.Tryz.prog gl impl_valueOf.spec :=
  ctr_ok (T := impl_valueOf.T) (F := impl_valueOf.F) (lb := impl_valueOf.lb) (st := impl_valueOf.st) (step := impl_valueOf.step) (md := impl_valueOf.md) tabs impl_valueOf.text impl_valueOf.seg_eq (fun n x => ⟨.p0 x.1 x.2.1, rfl, rfl, rfl⟩) (nilC)

/-! loop.example/g00039/impl.parts -/
def impl_parts.T : List Ctr := []
def impl_parts.md : List (Nat × List Md) := []
noncomputable def impl_parts.F : Fun := ⟨(Go.Proofs.Tryz.f208.body).getD .skip, [.v (.sl false (.pair (.int .u8) (.pair .bool (.pair .bool .unit)))), .v .str], [(.tmp 4, (.sl false .str)), (.tmp 5, .bool)], [], 0, [(9, ⟨[0, 1, 6, 7], [(6, (.sl false .bool))], [], false⟩), (23, ⟨[0, 1, 6, 7, 8], [(6, (.sl false .bool))], [], false⟩), (60, ⟨[1, 6, 9, 10, 133, 134, 135], [(6, (.sl false .bool)), (9, .str), (133, (.pair (.int .u8) (.pair .bool (.pair .bool .unit))))], [], false⟩), (83, ⟨[1, 6, 9, 10, 11, 13, 133, 134, 135], [(6, (.sl false .bool)), (9, .str), (133, (.pair (.int .u8) (.pair .bool (.pair .bool .unit))))], [], false⟩)]⟩
inductive impl_parts.Pt where
  | p0 (a0 : List ((Int) × ((Bool) × ((Bool) × (Unit))))) (a1 : ByteArray)
  | p9 (y1 : List ((Int) × ((Bool) × ((Bool) × (Unit))))) (y2 : ByteArray) (y3 : Int) (y4 : List (List (Bool)))
  | p23 (y1 : List ((Int) × ((Bool) × ((Bool) × (Unit))))) (y2 : ByteArray) (y3 : Int) (y4 : Int) (y5 : List (List (Bool)))
  | p60 (y1 : ByteArray) (y2 : Int) (y3 : List ((Int) × ((Bool) × ((Bool) × (Unit))))) (y4 : Int) (y5 : Int) (y6 : List (List (Bool))) (y7 : List (ByteArray))
  | p83 (y1 : ByteArray) (y2 : Int) (y3 : Int) (y4 : Int) (y5 : List ((Int) × ((Bool) × ((Bool) × (Unit))))) (y6 : Int) (y7 : Int) (y8 : List (List (Bool))) (y9 : List (ByteArray))
def impl_parts.lb : impl_parts.Pt → Nat
  | .p0 _ _ => 0
  | .p9 _ _ _ _ => 9
  | .p23 _ _ _ _ _ => 23
  | .p60 _ _ _ _ _ _ _ => 60
  | .p83 _ _ _ _ _ _ _ _ _ => 83
def impl_parts.st : impl_parts.Pt → St
  | .p0 a0 a1 => enter [.v (.sl false (.pair (.int .u8) (.pair .bool (.pair .bool .unit)))) a0, .v .str a1] 0
  | .p9 y1 y2 y3 y4 => ⟨[(0, .im (.sl false (.pair (.int .u8) (.pair .bool (.pair .bool .unit)))) y1), (1, .im .str y2), (6, .hs 0 [] none 0), (7, .im (.int .i64) y3)], [(0, .arr false (.sl false .bool) y4 0)], 1⟩
  | .p23 y1 y2 y3 y4 y5 => ⟨[(0, .im (.sl false (.pair (.int .u8) (.pair .bool (.pair .bool .unit)))) y1), (1, .im .str y2), (6, .hs 0 [] none 0), (7, .im (.int .i64) y3), (8, .im (.int .i64) y4)], [(0, .arr false (.sl false .bool) y5 0)], 1⟩
  | .p60 y1 y2 y3 y4 y5 y6 y7 => ⟨[(1, .im .str y1), (6, .hs 0 [] none 0), (9, .hs 1 [] none 0), (10, .im (.int .i64) y2), (133, .im (.sl false (.pair (.int .u8) (.pair .bool (.pair .bool .unit)))) y3), (134, .im (.int .i64) y4), (135, .im (.int .i64) y5)], [(0, .arr false (.sl false .bool) y6 0), (1, .arr true .str y7 0)], 2⟩
  | .p83 y1 y2 y3 y4 y5 y6 y7 y8 y9 => ⟨[(1, .im .str y1), (6, .hs 0 [] none 0), (9, .hs 1 [] none 0), (10, .im (.int .i64) y2), (11, .im (.int .i64) y3), (13, .im (.int .i64) y4), (133, .im (.sl false (.pair (.int .u8) (.pair .bool (.pair .bool .unit)))) y5), (134, .im (.int .i64) y6), (135, .im (.int .i64) y7)], [(0, .arr false (.sl false .bool) y8 0), (1, .arr true .str y9 0)], 2⟩
def impl_parts.step (n : Nat) (K : impl_parts.Pt → Option (Tup [(.sl false .str), .bool])) : impl_parts.Pt → Option (Tup [(.sl false .str), .bool])
  | .p0 a0 a1 => cond (inC (IntKind.wrap .i64 (((List.length a0) : Int) + (1 : Int))) (IntKind.wrap .i64 (((List.length a0) : Int) + (1 : Int))) 1000000000) (K (.p9 a0 a1 ((List.length a0) : Int) (List.replicate (Int.toNat (IntKind.wrap .i64 (((List.length a0) : Int) + (1 : Int)))) (default : List (Bool))))) (none)
  | .p9 y1 y2 y3 y4 => cond (decide ((0 : Int) ≤ y3)) (cond (inC (IntKind.wrap .i64 (((ByteArray.size y2) : Int) + (1 : Int))) (IntKind.wrap .i64 (((ByteArray.size y2) : Int) + (1 : Int))) 1000000000) (cond (inB y3 (List.length y4)) (K (.p23 y1 y2 y3 ((ByteArray.size y2) : Int) (List.set y4 (0 + (Int.toNat y3)) (List.replicate (Int.toNat (IntKind.wrap .i64 (((ByteArray.size y2) : Int) + (1 : Int)))) (default : Bool))))) (none)) (none)) (cond (inB (0 : Int) (List.length y4)) (cond (inB (0 : Int) (List.length (List.getD y4 (0 + (Int.toNat (0 : Int))) default))) (cond (!(List.getD (List.getD y4 (0 + (Int.toNat (0 : Int))) default) (0 + (Int.toNat (0 : Int))) default)) (some (([] : List (ByteArray)), false)) (K (.p60 y2 (0 : Int) y1 ((List.length y1) : Int) (0 : Int) y4 ([] : List (ByteArray))))) (none)) (none))
  | .p23 y1 y2 y3 y4 y5 => cond (decide ((0 : Int) ≤ y4)) (cond (decide (y3 = ((List.length y1) : Int))) (cond (inB y3 (List.length y5)) (cond (inB y4 (List.length (List.getD y5 (0 + (Int.toNat y3)) default))) (K (.p23 y1 y2 y3 (IntKind.wrap .i64 (y4 - (1 : Int))) (List.set y5 (0 + (Int.toNat y3)) (List.set (List.getD y5 (0 + (Int.toNat y3)) default) (0 + (Int.toNat y4)) (decide (y4 = ((ByteArray.size y2) : Int))))))) (none)) (none)) (cond (inB y3 (List.length y1)) (cond (List.getD y1 (Int.toNat y3) default).2.2.1 (cond (inB y3 (List.length y5)) (cond (inB (IntKind.wrap .i64 (y3 + (1 : Int))) (List.length y5)) (cond (inB y4 (List.length (List.getD y5 (0 + (Int.toNat (IntKind.wrap .i64 (y3 + (1 : Int))))) default))) (cond (List.getD (List.getD y5 (0 + (Int.toNat (IntKind.wrap .i64 (y3 + (1 : Int))))) default) (0 + (Int.toNat y4)) default) (cond (inB y4 (List.length (List.getD y5 (0 + (Int.toNat y3)) default))) (K (.p23 y1 y2 y3 (IntKind.wrap .i64 (y4 - (1 : Int))) (List.set y5 (0 + (Int.toNat y3)) (List.set (List.getD y5 (0 + (Int.toNat y3)) default) (0 + (Int.toNat y4)) true)))) (none)) (cond (decide (y4 < ((ByteArray.size y2) : Int))) (cond (inB y3 (List.length y5)) (cond (inB (IntKind.wrap .i64 (y4 + (1 : Int))) (List.length (List.getD y5 (0 + (Int.toNat y3)) default))) (cond (inB y4 (List.length (List.getD y5 (0 + (Int.toNat y3)) default))) (K (.p23 y1 y2 y3 (IntKind.wrap .i64 (y4 - (1 : Int))) (List.set y5 (0 + (Int.toNat y3)) (List.set (List.getD y5 (0 + (Int.toNat y3)) default) (0 + (Int.toNat y4)) (List.getD (List.getD y5 (0 + (Int.toNat y3)) default) (0 + (Int.toNat (IntKind.wrap .i64 (y4 + (1 : Int))))) default))))) (none)) (none)) (none)) (cond (inB y4 (List.length (List.getD y5 (0 + (Int.toNat y3)) default))) (K (.p23 y1 y2 y3 (IntKind.wrap .i64 (y4 - (1 : Int))) (List.set y5 (0 + (Int.toNat y3)) (List.set (List.getD y5 (0 + (Int.toNat y3)) default) (0 + (Int.toNat y4)) false)))) (none)))) (none)) (none)) (none)) (cond (inB y3 (List.length y5)) (cond (decide (y4 < ((ByteArray.size y2) : Int))) (cond (inB y3 (List.length y1)) (cond (List.getD y1 (Int.toNat y3) default).2.1 (cond (inB (IntKind.wrap .i64 (y3 + (1 : Int))) (List.length y5)) (cond (inB (IntKind.wrap .i64 (y4 + (1 : Int))) (List.length (List.getD y5 (0 + (Int.toNat (IntKind.wrap .i64 (y3 + (1 : Int))))) default))) (cond (inB y4 (List.length (List.getD y5 (0 + (Int.toNat y3)) default))) (K (.p23 y1 y2 y3 (IntKind.wrap .i64 (y4 - (1 : Int))) (List.set y5 (0 + (Int.toNat y3)) (List.set (List.getD y5 (0 + (Int.toNat y3)) default) (0 + (Int.toNat y4)) (List.getD (List.getD y5 (0 + (Int.toNat (IntKind.wrap .i64 (y3 + (1 : Int))))) default) (0 + (Int.toNat (IntKind.wrap .i64 (y4 + (1 : Int))))) default))))) (none)) (none)) (none)) (cond (inB y3 (List.length y1)) (cond (inB y4 (ByteArray.size y2)) (cond (decide ((List.getD y1 (Int.toNat y3) default).1 = (bt y2 y4))) (cond (inB (IntKind.wrap .i64 (y3 + (1 : Int))) (List.length y5)) (cond (inB (IntKind.wrap .i64 (y4 + (1 : Int))) (List.length (List.getD y5 (0 + (Int.toNat (IntKind.wrap .i64 (y3 + (1 : Int))))) default))) (cond (inB y4 (List.length (List.getD y5 (0 + (Int.toNat y3)) default))) (K (.p23 y1 y2 y3 (IntKind.wrap .i64 (y4 - (1 : Int))) (List.set y5 (0 + (Int.toNat y3)) (List.set (List.getD y5 (0 + (Int.toNat y3)) default) (0 + (Int.toNat y4)) (List.getD (List.getD y5 (0 + (Int.toNat (IntKind.wrap .i64 (y3 + (1 : Int))))) default) (0 + (Int.toNat (IntKind.wrap .i64 (y4 + (1 : Int))))) default))))) (none)) (none)) (none)) (cond (inB y4 (List.length (List.getD y5 (0 + (Int.toNat y3)) default))) (K (.p23 y1 y2 y3 (IntKind.wrap .i64 (y4 - (1 : Int))) (List.set y5 (0 + (Int.toNat y3)) (List.set (List.getD y5 (0 + (Int.toNat y3)) default) (0 + (Int.toNat y4)) false)))) (none))) (none)) (none))) (none)) (cond (inB y4 (List.length (List.getD y5 (0 + (Int.toNat y3)) default))) (K (.p23 y1 y2 y3 (IntKind.wrap .i64 (y4 - (1 : Int))) (List.set y5 (0 + (Int.toNat y3)) (List.set (List.getD y5 (0 + (Int.toNat y3)) default) (0 + (Int.toNat y4)) false)))) (none))) (none))) (none))) (K (.p9 y1 y2 (IntKind.wrap .i64 (y3 - (1 : Int))) y5))
  | .p60 y1 y2 y3 y4 y5 y6 y7 => cond (decide (y5 < y4)) (cond (inB y5 (List.length y3)) (cond (!(List.getD y3 (Int.toNat y5) default).2.2.1) (K (.p60 y1 (IntKind.wrap .i64 (y2 + (1 : Int))) y3 y4 (IntKind.wrap .i64 (y5 + (1 : Int))) y6 y7)) (K (.p83 y1 y2 y5 y2 y3 y4 y5 y6 y7))) (none)) (some (y7, true))
  | .p83 y1 y2 y3 y4 y5 y6 y7 y8 y9 => cond (inB (IntKind.wrap .i64 (y3 + (1 : Int))) (List.length y8)) (cond (inB y4 (List.length (List.getD y8 (0 + (Int.toNat (IntKind.wrap .i64 (y3 + (1 : Int))))) default))) (cond (!(List.getD (List.getD y8 (0 + (Int.toNat (IntKind.wrap .i64 (y3 + (1 : Int))))) default) (0 + (Int.toNat y4)) default)) (K (.p83 y1 y2 y3 (IntKind.wrap .i64 (y4 + (1 : Int))) y5 y6 y7 y8 y9)) (cond (inC y2 y4 (ByteArray.size y1)) (cond (room ((List.length y9) + (List.length [(ByteArray.extract y1 (Int.toNat y2) (Int.toNat y4))]))) (K (.p60 y1 y4 y5 y6 (IntKind.wrap .i64 (y7 + (1 : Int))) y8 (y9 ++ [(ByteArray.extract y1 (Int.toNat y2) (Int.toNat y4))]))) (none)) (none))) (none)) (none)
def impl_parts (n : Nat) (a0 : List ((Int) × ((Bool) × ((Bool) × (Unit))))) (a1 : ByteArray) : Option (Tup [(.sl false .str), .bool]) := goRec impl_parts.step n (.p0 a0 a1)
def impl_parts.spec : Ctr := ⟨208, [.v (.sl false (.pair (.int .u8) (.pair .bool (.pair .bool .unit)))), .v .str], [(.sl false .str), .bool], [], fun n x => impl_parts n x.1 x.2.1⟩
theorem impl_parts.seg_eq (n : Nat) (goto : Nat → St → Option (Tup [(.sl false .str), .bool])) (y : impl_parts.Pt) : seg ⟨ty, gl, impl_parts.md, calOf impl_parts.T n⟩ impl_parts.F.np impl_parts.F.ks goto (impl_parts.F.fin ⟨ty, gl, impl_parts.md, calOf impl_parts.T 0⟩ [(.sl false .str), .bool]) impl_parts.F.c (impl_parts.lb y) (impl_parts.st y) = impl_parts.step n (fun z => goto (impl_parts.lb z) (impl_parts.st z)) y := by
  cases y <;> kernel_rfl
theorem impl_parts.text : Text Go.Proofs.Tryz.prog impl_parts.F impl_parts.spec := ⟨⟨Go.Proofs.Tryz.f208, by kernel_rfl, by kernel_rfl, by decide +kernel, by kernel_rfl, by kernel_rfl, of_decide_eq_true (by kernel_rfl)⟩, fun _ => rfl, fun _ => rfl, rfl⟩
theorem impl_parts.ok : CtrOK Go.Proofs.Tryz.prog gl impl_parts.spec :=
  ctr_ok (T := impl_parts.T) (F := impl_parts.F) (lb := impl_parts.lb) (st := impl_parts.st) (step := impl_parts.step) (md := impl_parts.md) tabs impl_parts.text impl_parts.seg_eq (fun n x => ⟨.p0 x.1 x.2.1, rfl, rfl, rfl⟩) (nilC)

/-! loop.example/g00039/impl.PatternParts -/
def impl_PatternParts.T : List Ctr := [impl_alternatives.spec, impl_parts.spec]
def impl_PatternParts.md : List (Nat × List Md) := []
noncomputable def impl_PatternParts.F : Fun := ⟨(Go.Proofs.Tryz.f204.body).getD .skip, [.v .str, .v .str], [(.tmp 4, (.sl false .str)), (.tmp 5, .bool)], [], 0, [(6, ⟨[1, 6, 23], [(6, (.sl false (.pair (.int .u8) (.pair .bool (.pair .bool .unit)))))], [], false⟩), (17, ⟨[1, 24, 25, 26], [(24, (.sl false (.pair (.int .u8) (.pair .bool (.pair .bool .unit)))))], [], false⟩)]⟩
inductive impl_PatternParts.Pt where
  | p0 (a0 : ByteArray) (a1 : ByteArray)
  | p6 (y1 : ByteArray) (y2 : Bool) (y3 : List (List ((Int) × ((Bool) × ((Bool) × (Unit))))))
  | p17 (y1 : ByteArray) (y2 : Int) (y3 : Int) (y4 : List (List ((Int) × ((Bool) × ((Bool) × (Unit))))))
def impl_PatternParts.lb : impl_PatternParts.Pt → Nat
  | .p0 _ _ => 0
  | .p6 _ _ _ => 6
  | .p17 _ _ _ _ => 17
def impl_PatternParts.st : impl_PatternParts.Pt → St
  | .p0 a0 a1 => enter [.v .str a0, .v .str a1] 0
  | .p6 y1 y2 y3 => ⟨[(1, .im .str y1), (6, .hs 0 [] none 0), (23, .im .bool y2)], [(0, .arr false (.sl false (.pair (.int .u8) (.pair .bool (.pair .bool .unit)))) y3 0)], 1⟩
  | .p17 y1 y2 y3 y4 => ⟨[(1, .im .str y1), (24, .hs 0 [] none 0), (25, .im (.int .i64) y2), (26, .im (.int .i64) y3)], [(0, .arr false (.sl false (.pair (.int .u8) (.pair .bool (.pair .bool .unit)))) y4 0)], 1⟩
def impl_PatternParts.step (n : Nat) (K : impl_PatternParts.Pt → Option (Tup [(.sl false .str), .bool])) : impl_PatternParts.Pt → Option (Tup [(.sl false .str), .bool])
  | .p0 a0 a1 => (impl_alternatives n a0).bind fun r5 => cond (!r5.2) (K (.p6 a1 true r5.1)) (K (.p6 a1 (decide ((100 : Int) < ((ByteArray.size a1) : Int))) r5.1))
  | .p6 y1 y2 y3 => cond y2 (some (([] : List (ByteArray)), false)) (K (.p17 y1 ((List.length y3) : Int) (0 : Int) y3))
  | .p17 y1 y2 y3 y4 => cond (decide (y3 < y2)) (cond (inB y3 (List.length y4)) ((impl_parts n (List.getD y4 (0 + (Int.toNat y3)) default) y1).bind fun r7 => cond r7.2 (some (r7.1, true)) (K (.p17 y1 y2 (IntKind.wrap .i64 (y3 + (1 : Int))) y4))) (none)) (some (([] : List (ByteArray)), false))
def impl_PatternParts (n : Nat) (a0 : ByteArray) (a1 : ByteArray) : Option (Tup [(.sl false .str), .bool]) := goRec impl_PatternParts.step n (.p0 a0 a1)
def impl_PatternParts.spec : Ctr := ⟨204, [.v .str, .v .str], [(.sl false .str), .bool], [], fun n x => impl_PatternParts n x.1 x.2.1⟩
theorem impl_PatternParts.seg_eq (n : Nat) (goto : Nat → St → Option (Tup [(.sl false .str), .bool])) (y : impl_PatternParts.Pt) : seg ⟨ty, gl, impl_PatternParts.md, calOf impl_PatternParts.T n⟩ impl_PatternParts.F.np impl_PatternParts.F.ks goto (impl_PatternParts.F.fin ⟨ty, gl, impl_PatternParts.md, calOf impl_PatternParts.T 0⟩ [(.sl false .str), .bool]) impl_PatternParts.F.c (impl_PatternParts.lb y) (impl_PatternParts.st y) = impl_PatternParts.step n (fun z => goto (impl_PatternParts.lb z) (impl_PatternParts.st z)) y := by
  cases y <;> kernel_rfl
theorem impl_PatternParts.text : Text Go.Proofs.Tryz.prog impl_PatternParts.F impl_PatternParts.spec := ⟨⟨Go.Proofs.Tryz.f204, by kernel_rfl, by kernel_rfl, by decide +kernel, by kernel_rfl, by kernel_rfl, of_decide_eq_true (by kernel_rfl)⟩, fun _ => rfl, fun _ => rfl, rfl⟩
theorem impl_PatternParts.ok : CtrOK Go.Proofs.Tryz.prog gl impl_PatternParts.spec :=
  ctr_ok (T := impl_PatternParts.T) (F := impl_PatternParts.F) (lb := impl_PatternParts.lb) (st := impl_PatternParts.st) (step := impl_PatternParts.step) (md := impl_PatternParts.md) tabs impl_PatternParts.text impl_PatternParts.seg_eq (fun n x => ⟨.p0 x.1 x.2.1, rfl, rfl, rfl⟩) (consC impl_alternatives.ok (consC impl_parts.ok (nilC)))

/-! loop.example/g00039/impl.PatternFits -/
def impl_PatternFits.T : List Ctr := [impl_PatternParts.spec]
def impl_PatternFits.md : List (Nat × List Md) := []
noncomputable def impl_PatternFits.F : Fun := ⟨(Go.Proofs.Tryz.f193.body).getD .skip, [.v .str, .v .str], [(.tmp 4, .bool)], [], 0, []⟩
inductive impl_PatternFits.Pt where
  | p0 (a0 : ByteArray) (a1 : ByteArray)
def impl_PatternFits.lb : impl_PatternFits.Pt → Nat
  | .p0 _ _ => 0
def impl_PatternFits.st : impl_PatternFits.Pt → St
  | .p0 a0 a1 => enter [.v .str a0, .v .str a1] 0
def impl_PatternFits.step (n : Nat) (K : impl_PatternFits.Pt → Option (Tup [.bool])) : impl_PatternFits.Pt → Option (Tup [.bool])
  | .p0 a0 a1 => (impl_PatternParts n a0 a1).bind fun r5 => some r5.2
def impl_PatternFits (n : Nat) (a0 : ByteArray) (a1 : ByteArray) : Option (Tup [.bool]) := goRec impl_PatternFits.step n (.p0 a0 a1)
def impl_PatternFits.spec : Ctr := ⟨193, [.v .str, .v .str], [.bool], [], fun n x => impl_PatternFits n x.1 x.2.1⟩
theorem impl_PatternFits.seg_eq (n : Nat) (goto : Nat → St → Option (Tup [.bool])) (y : impl_PatternFits.Pt) : seg ⟨ty, gl, impl_PatternFits.md, calOf impl_PatternFits.T n⟩ impl_PatternFits.F.np impl_PatternFits.F.ks goto (impl_PatternFits.F.fin ⟨ty, gl, impl_PatternFits.md, calOf impl_PatternFits.T 0⟩ [.bool]) impl_PatternFits.F.c (impl_PatternFits.lb y) (impl_PatternFits.st y) = impl_PatternFits.step n (fun z => goto (impl_PatternFits.lb z) (impl_PatternFits.st z)) y := by
  cases y <;> kernel_rfl
theorem impl_PatternFits.text : Text Go.Proofs.Tryz.prog impl_PatternFits.F impl_PatternFits.spec := ⟨⟨Go.Proofs.Tryz.f193, by kernel_rfl, by kernel_rfl, by decide +kernel, by kernel_rfl, by kernel_rfl, of_decide_eq_true (by kernel_rfl)⟩, fun _ => rfl, fun _ => rfl, rfl⟩
theorem impl_PatternFits.ok : CtrOK Go.Proofs.Tryz.prog gl impl_PatternFits.spec :=
  ctr_ok (T := impl_PatternFits.T) (F := impl_PatternFits.F) (lb := impl_PatternFits.lb) (st := impl_PatternFits.st) (step := impl_PatternFits.step) (md := impl_PatternFits.md) tabs impl_PatternFits.text impl_PatternFits.seg_eq (fun n x => ⟨.p0 x.1 x.2.1, rfl, rfl, rfl⟩) (consC impl_PatternParts.ok (nilC))

/-! loop.example/g00039/impl.fitsOne -/
def impl_fitsOne.T : List Ctr := [impl_valueOf.spec, impl_PatternFits.spec]
def impl_fitsOne.md : List (Nat × List Md) := []
noncomputable def impl_fitsOne.F : Fun := ⟨(Go.Proofs.Tryz.f165.body).getD .skip, [.v (.pair .str (.pair (.int .i64) (.pair .str .unit))), .v (.sl false (.pair .str (.pair .str .unit)))], [(.tmp 4, .bool)], [], 0, []⟩
inductive impl_fitsOne.Pt where
  | p0 (a0 : (ByteArray) × ((Int) × ((ByteArray) × (Unit)))) (a1 : List ((ByteArray) × ((ByteArray) × (Unit))))
def impl_fitsOne.lb : impl_fitsOne.Pt → Nat
  | .p0 _ _ => 0
def impl_fitsOne.st : impl_fitsOne.Pt → St
  | .p0 a0 a1 => enter [.v (.pair .str (.pair (.int .i64) (.pair .str .unit))) a0, .v (.sl false (.pair .str (.pair .str .unit))) a1] 0
def impl_fitsOne.step (n : Nat) (K : impl_fitsOne.Pt → Option (Tup [.bool])) : impl_fitsOne.Pt → Option (Tup [.bool])
  | .p0 a0 a1 => (impl_valueOf n a1 a0.1).bind fun r5 => cond (decide (a0.2.1 = (1 : Int))) (some (seq r5 a0.2.2.1)) (cond (decide (a0.2.1 = (2 : Int))) (some (!(seq r5 a0.2.2.1))) (cond (decide (a0.2.1 = (3 : Int))) ((impl_PatternFits n a0.2.2.1 r5).bind fun r6 => some r6) ((impl_PatternFits n a0.2.2.1 r5).bind fun r6 => some (!r6))))
def impl_fitsOne (n : Nat) (a0 : (ByteArray) × ((Int) × ((ByteArray) × (Unit)))) (a1 : List ((ByteArray) × ((ByteArray) × (Unit)))) : Option (Tup [.bool]) := goRec impl_fitsOne.step n (.p0 a0 a1)
def impl_fitsOne.spec : Ctr := ⟨165, [.v (.pair .str (.pair (.int .i64) (.pair .str .unit))), .v (.sl false (.pair .str (.pair .str .unit)))], [.bool], [], fun n x => impl_fitsOne n x.1 x.2.1⟩
theorem impl_fitsOne.seg_eq (n : Nat) (goto : Nat → St → Option (Tup [.bool])) (y : impl_fitsOne.Pt) : seg ⟨ty, gl, impl_fitsOne.md, calOf impl_fitsOne.T n⟩ impl_fitsOne.F.np impl_fitsOne.F.ks goto (impl_fitsOne.F.fin ⟨ty, gl, impl_fitsOne.md, calOf impl_fitsOne.T 0⟩ [.bool]) impl_fitsOne.F.c (impl_fitsOne.lb y) (impl_fitsOne.st y) = impl_fitsOne.step n (fun z => goto (impl_fitsOne.lb z) (impl_fitsOne.st z)) y := by
  cases y <;> kernel_rfl
theorem impl_fitsOne.text : Text Go.Proofs.Tryz.prog impl_fitsOne.F impl_fitsOne.spec := ⟨⟨Go.Proofs.Tryz.f165, by kernel_rfl, by kernel_rfl, by decide +kernel, by kernel_rfl, by kernel_rfl, of_decide_eq_true (by kernel_rfl)⟩, fun _ => rfl, fun _ => rfl, rfl⟩
theorem impl_fitsOne.ok : CtrOK Go.Proofs.Tryz.prog gl impl_fitsOne.spec :=
  ctr_ok (T := impl_fitsOne.T) (F := impl_fitsOne.F) (lb := impl_fitsOne.lb) (st := impl_fitsOne.st) (step := impl_fitsOne.step) (md := impl_fitsOne.md) tabs impl_fitsOne.text impl_fitsOne.seg_eq (fun n x => ⟨.p0 x.1 x.2.1, rfl, rfl, rfl⟩) (consC impl_valueOf.ok (consC impl_PatternFits.ok (nilC)))

/-! loop.example/g00039/impl.fits -/
def impl_fits.T : List Ctr := [impl_fitsOne.spec]
def impl_fits.md : List (Nat × List Md) := []
noncomputable def impl_fits.F : Fun := ⟨(Go.Proofs.Tryz.f122.body).getD .skip, [.v (.sl false (.pair .str (.pair (.int .i64) (.pair .str .unit)))), .v (.sl false (.pair .str (.pair .str .unit)))], [(.tmp 4, .bool)], [], 0, [(7, ⟨[1, 7, 8, 9], [(7, (.pair .str (.pair (.int .i64) (.pair .str .unit))))], [], false⟩)]⟩
inductive impl_fits.Pt where
  | p0 (a0 : List ((ByteArray) × ((Int) × ((ByteArray) × (Unit))))) (a1 : List ((ByteArray) × ((ByteArray) × (Unit))))
  | p7 (y1 : List ((ByteArray) × ((ByteArray) × (Unit)))) (y2 : List ((ByteArray) × ((Int) × ((ByteArray) × (Unit))))) (y3 : Int) (y4 : Int)
def impl_fits.lb : impl_fits.Pt → Nat
  | .p0 _ _ => 0
  | .p7 _ _ _ _ => 7
def impl_fits.st : impl_fits.Pt → St
  | .p0 a0 a1 => enter [.v (.sl false (.pair .str (.pair (.int .i64) (.pair .str .unit)))) a0, .v (.sl false (.pair .str (.pair .str .unit))) a1] 0
  | .p7 y1 y2 y3 y4 => ⟨[(1, .im (.sl false (.pair .str (.pair .str .unit))) y1), (7, .im (.sl false (.pair .str (.pair (.int .i64) (.pair .str .unit)))) y2), (8, .im (.int .i64) y3), (9, .im (.int .i64) y4)], [], 0⟩
def impl_fits.step (n : Nat) (K : impl_fits.Pt → Option (Tup [.bool])) : impl_fits.Pt → Option (Tup [.bool])
  | .p0 a0 a1 => K (.p7 a1 a0 ((List.length a0) : Int) (0 : Int))
  | .p7 y1 y2 y3 y4 => cond (decide (y4 < y3)) (cond (inB y4 (List.length y2)) ((impl_fitsOne n (List.getD y2 (Int.toNat y4) default) y1).bind fun r7 => cond (!r7) (some false) (K (.p7 y1 y2 y3 (IntKind.wrap .i64 (y4 + (1 : Int)))))) (none)) (some true)
def impl_fits (n : Nat) (a0 : List ((ByteArray) × ((Int) × ((ByteArray) × (Unit))))) (a1 : List ((ByteArray) × ((ByteArray) × (Unit)))) : Option (Tup [.bool]) := goRec impl_fits.step n (.p0 a0 a1)
def impl_fits.spec : Ctr := ⟨122, [.v (.sl false (.pair .str (.pair (.int .i64) (.pair .str .unit)))), .v (.sl false (.pair .str (.pair .str .unit)))], [.bool], [], fun n x => impl_fits n x.1 x.2.1⟩
theorem impl_fits.seg_eq (n : Nat) (goto : Nat → St → Option (Tup [.bool])) (y : impl_fits.Pt) : seg ⟨ty, gl, impl_fits.md, calOf impl_fits.T n⟩ impl_fits.F.np impl_fits.F.ks goto (impl_fits.F.fin ⟨ty, gl, impl_fits.md, calOf impl_fits.T 0⟩ [.bool]) impl_fits.F.c (impl_fits.lb y) (impl_fits.st y) = impl_fits.step n (fun z => goto (impl_fits.lb z) (impl_fits.st z)) y := by
  cases y <;> kernel_rfl
theorem impl_fits.text : Text Go.Proofs.Tryz.prog impl_fits.F impl_fits.spec := ⟨⟨Go.Proofs.Tryz.f122, by kernel_rfl, by kernel_rfl, by decide +kernel, by kernel_rfl, by kernel_rfl, of_decide_eq_true (by kernel_rfl)⟩, fun _ => rfl, fun _ => rfl, rfl⟩
theorem impl_fits.ok : CtrOK Go.Proofs.Tryz.prog gl impl_fits.spec :=
  ctr_ok (T := impl_fits.T) (F := impl_fits.F) (lb := impl_fits.lb) (st := impl_fits.st) (step := impl_fits.step) (md := impl_fits.md) tabs impl_fits.text impl_fits.seg_eq (fun n x => ⟨.p0 x.1 x.2.1, rfl, rfl, rfl⟩) (consC impl_fitsOne.ok (nilC))

/-! loop.example/g00039/impl.behindRoute -/
def impl_behindRoute.T : List Ctr := []
def impl_behindRoute.md : List (Nat × List Md) := []
noncomputable def impl_behindRoute.F : Fun := ⟨(Go.Proofs.Tryz.f123.body).getD .skip, [.v (.sl false (.pair .str (.pair (.sl false (.pair .str (.pair (.int .i64) (.pair .str .unit)))) (.pair (.sl false .str) (.pair (.int .i64) (.pair (.int .i64) (.pair (.int .i64) (.pair (.sl false (.int .i64)) (.pair .bool (.pair (.int .i64) .unit)))))))))), .v (.int .i64)], [(.tmp 4, (.int .i64))], [], 0, [(7, ⟨[0, 1, 5], [], [], false⟩)]⟩
inductive impl_behindRoute.Pt where
  | p0 (a0 : List ((ByteArray) × ((List ((ByteArray) × ((Int) × ((ByteArray) × (Unit))))) × ((List (ByteArray)) × ((Int) × ((Int) × ((Int) × ((List (Int)) × ((Bool) × ((Int) × (Unit))))))))))) (a1 : Int)
  | p7 (y1 : List ((ByteArray) × ((List ((ByteArray) × ((Int) × ((ByteArray) × (Unit))))) × ((List (ByteArray)) × ((Int) × ((Int) × ((Int) × ((List (Int)) × ((Bool) × ((Int) × (Unit))))))))))) (y2 : Int) (y3 : Int)
def impl_behindRoute.lb : impl_behindRoute.Pt → Nat
  | .p0 _ _ => 0
  | .p7 _ _ _ => 7
def impl_behindRoute.st : impl_behindRoute.Pt → St
  | .p0 a0 a1 => enter [.v (.sl false (.pair .str (.pair (.sl false (.pair .str (.pair (.int .i64) (.pair .str .unit)))) (.pair (.sl false .str) (.pair (.int .i64) (.pair (.int .i64) (.pair (.int .i64) (.pair (.sl false (.int .i64)) (.pair .bool (.pair (.int .i64) .unit)))))))))) a0, .v (.int .i64) a1] 0
  | .p7 y1 y2 y3 => ⟨[(0, .im (.sl false (.pair .str (.pair (.sl false (.pair .str (.pair (.int .i64) (.pair .str .unit)))) (.pair (.sl false .str) (.pair (.int .i64) (.pair (.int .i64) (.pair (.int .i64) (.pair (.sl false (.int .i64)) (.pair .bool (.pair (.int .i64) .unit)))))))))) y1), (1, .im (.int .i64) y2), (5, .im (.int .i64) y3)], [], 0⟩
def impl_behindRoute.step (n : Nat) (K : impl_behindRoute.Pt → Option (Tup [(.int .i64)])) : impl_behindRoute.Pt → Option (Tup [(.int .i64)])
  | .p0 a0 a1 => K (.p7 a0 a1 (1 : Int))
  | .p7 y1 y2 y3 => cond (decide ((0 : Int) < y3)) (cond (inB y2 (List.length y1)) (K (.p7 y1 (IntKind.wrap .i64 (y2 + (1 : Int))) (IntKind.wrap .i64 (y3 + (IntKind.wrap .i64 ((List.getD y1 (Int.toNat y2) default).2.2.2.2.2.2.2.2.1 - (1 : Int))))))) (none)) (some y2)
def impl_behindRoute (n : Nat) (a0 : List ((ByteArray) × ((List ((ByteArray) × ((Int) × ((ByteArray) × (Unit))))) × ((List (ByteArray)) × ((Int) × ((Int) × ((Int) × ((List (Int)) × ((Bool) × ((Int) × (Unit))))))))))) (a1 : Int) : Option (Tup [(.int .i64)]) := goRec impl_behindRoute.step n (.p0 a0 a1)
def impl_behindRoute.spec : Ctr := ⟨123, [.v (.sl false (.pair .str (.pair (.sl false (.pair .str (.pair (.int .i64) (.pair .str .unit)))) (.pair (.sl false .str) (.pair (.int .i64) (.pair (.int .i64) (.pair (.int .i64) (.pair (.sl false (.int .i64)) (.pair .bool (.pair (.int .i64) .unit)))))))))), .v (.int .i64)], [(.int .i64)], [], fun n x => impl_behindRoute n x.1 x.2.1⟩
theorem impl_behindRoute.seg_eq (n : Nat) (goto : Nat → St → Option (Tup [(.int .i64)])) (y : impl_behindRoute.Pt) : seg ⟨ty, gl, impl_behindRoute.md, calOf impl_behindRoute.T n⟩ impl_behindRoute.F.np impl_behindRoute.F.ks goto (impl_behindRoute.F.fin ⟨ty, gl, impl_behindRoute.md, calOf impl_behindRoute.T 0⟩ [(.int .i64)]) impl_behindRoute.F.c (impl_behindRoute.lb y) (impl_behindRoute.st y) = impl_behindRoute.step n (fun z => goto (impl_behindRoute.lb z) (impl_behindRoute.st z)) y := by
  cases y <;> kernel_rfl
theorem impl_behindRoute.text : Text Go.Proofs.Tryz.prog impl_behindRoute.F impl_behindRoute.spec := ⟨⟨Go.Proofs.Tryz.f123, by kernel_rfl, by kernel_rfl, by decide +kernel, by kernel_rfl, by kernel_rfl, of_decide_eq_true (by kernel_rfl)⟩, fun _ => rfl, fun _ => rfl, rfl⟩
theorem impl_behindRoute.ok : CtrOK Go.Proofs.Tryz.prog gl impl_behindRoute.spec :=
  ctr_ok (T := impl_behindRoute.T) (F := impl_behindRoute.F) (lb := impl_behindRoute.lb) (st := impl_behindRoute.st) (step := impl_behindRoute.step) (md := impl_behindRoute.md) tabs impl_behindRoute.text impl_behindRoute.seg_eq (fun n x => ⟨.p0 x.1 x.2.1, rfl, rfl, rfl⟩) (nilC)

/-! loop.example/g00039/impl.takers$1 -/
def impl_takers_1.T : List Ctr := [impl_fits.spec, impl_behindRoute.spec]
def impl_takers_1.md : List (Nat × List Md) := [(121, [.v, .q (.sl false (.pair .str (.pair (.sl false (.pair .str (.pair (.int .i64) (.pair .str .unit)))) (.pair (.sl false .str) (.pair (.int .i64) (.pair (.int .i64) (.pair (.int .i64) (.pair (.sl false (.int .i64)) (.pair .bool (.pair (.int .i64) .unit)))))))))), .q (.sl false (.pair .str (.pair .str .unit))), .me 121 1, .p (.sl false (.int .i64))]), (1000121, [.q (.sl false (.pair .str (.pair (.sl false (.pair .str (.pair (.int .i64) (.pair .str .unit)))) (.pair (.sl false .str) (.pair (.int .i64) (.pair (.int .i64) (.pair (.int .i64) (.pair (.sl false (.int .i64)) (.pair .bool (.pair (.int .i64) .unit)))))))))), .q (.sl false (.pair .str (.pair .str .unit))), .me 121 1, .p (.sl false (.int .i64))])]
noncomputable def impl_takers_1.F : Fun := ⟨(Go.Proofs.Tryz.f121.body).getD .skip, [.v (.int .i64), .q (.sl false (.pair .str (.pair (.sl false (.pair .str (.pair (.int .i64) (.pair .str .unit)))) (.pair (.sl false .str) (.pair (.int .i64) (.pair (.int .i64) (.pair (.int .i64) (.pair (.sl false (.int .i64)) (.pair .bool (.pair (.int .i64) .unit)))))))))), .q (.sl false (.pair .str (.pair .str .unit))), .me 121 1, .p (.sl false (.int .i64))], [], [some (.sl false (.int .i64))], 1, [(11, ⟨[0, 1, 2, 3, 4, 6, 7, 8, 15, 16], [], [], false⟩), (21, ⟨[0, 1, 2, 3, 4, 6, 7, 8, 15, 16, 28], [], [], false⟩)]⟩
inductive impl_takers_1.Pt where
  | p0 (a0 : Int) (a1 : List ((ByteArray) × ((List ((ByteArray) × ((Int) × ((ByteArray) × (Unit))))) × ((List (ByteArray)) × ((Int) × ((Int) × ((Int) × ((List (Int)) × ((Bool) × ((Int) × (Unit))))))))))) (a2 : List ((ByteArray) × ((ByteArray) × (Unit)))) (a3 : Unit) (a4 : List (Int))
  | p11 (y1 : Int) (y2 : Bool) (y3 : Int) (y4 : Bool) (y5 : Int) (y6 : Int) (y7 : List ((ByteArray) × ((List ((ByteArray) × ((Int) × ((ByteArray) × (Unit))))) × ((List (ByteArray)) × ((Int) × ((Int) × ((Int) × ((List (Int)) × ((Bool) × ((Int) × (Unit))))))))))) (y8 : List ((ByteArray) × ((ByteArray) × (Unit)))) (y9 : List (Int))
  | p21 (y1 : Int) (y2 : Bool) (y3 : Int) (y4 : Bool) (y5 : Int) (y6 : Int) (y7 : Bool) (y8 : List ((ByteArray) × ((List ((ByteArray) × ((Int) × ((ByteArray) × (Unit))))) × ((List (ByteArray)) × ((Int) × ((Int) × ((Int) × ((List (Int)) × ((Bool) × ((Int) × (Unit))))))))))) (y9 : List ((ByteArray) × ((ByteArray) × (Unit)))) (y10 : List (Int))
def impl_takers_1.lb : impl_takers_1.Pt → Nat
  | .p0 _ _ _ _ _ => 0
  | .p11 _ _ _ _ _ _ _ _ _ => 11
  | .p21 _ _ _ _ _ _ _ _ _ _ => 21
def impl_takers_1.st : impl_takers_1.Pt → St
  | .p0 a0 a1 a2 a3 a4 => enter [.v (.int .i64) a0, .q (.sl false (.pair .str (.pair (.sl false (.pair .str (.pair (.int .i64) (.pair .str .unit)))) (.pair (.sl false .str) (.pair (.int .i64) (.pair (.int .i64) (.pair (.int .i64) (.pair (.sl false (.int .i64)) (.pair .bool (.pair (.int .i64) .unit)))))))))) a1, .q (.sl false (.pair .str (.pair .str .unit))) a2, .me 121 1, .p (.sl false (.int .i64)) a4] 1
  | .p11 y1 y2 y3 y4 y5 y6 y7 y8 y9 => ⟨[(0, .im (.int .i64) y1), (1, .po 1 0), (2, .po 2 0), (3, .px 121 [.po 1 0, .po 2 0, .po 0 0] 2), (4, .po 0 0), (6, .im .bool y2), (7, .im (.int .i64) y3), (8, .im .bool y4), (15, .im (.int .i64) y5), (16, .im (.int .i64) y6)], [(0, .obj [.hs 3 [] none 0]), (1, .imm (.sl false (.pair .str (.pair (.sl false (.pair .str (.pair (.int .i64) (.pair .str .unit)))) (.pair (.sl false .str) (.pair (.int .i64) (.pair (.int .i64) (.pair (.int .i64) (.pair (.sl false (.int .i64)) (.pair .bool (.pair (.int .i64) .unit)))))))))) y7), (2, .imm (.sl false (.pair .str (.pair .str .unit))) y8), (3, .arr false (.int .i64) y9 0)], 4⟩
  | .p21 y1 y2 y3 y4 y5 y6 y7 y8 y9 y10 => ⟨[(0, .im (.int .i64) y1), (1, .po 1 0), (2, .po 2 0), (3, .px 121 [.po 1 0, .po 2 0, .po 0 0] 2), (4, .po 0 0), (6, .im .bool y2), (7, .im (.int .i64) y3), (8, .im .bool y4), (15, .im (.int .i64) y5), (16, .im (.int .i64) y6), (28, .im .bool y7)], [(0, .obj [.hs 3 [] none 0]), (1, .imm (.sl false (.pair .str (.pair (.sl false (.pair .str (.pair (.int .i64) (.pair .str .unit)))) (.pair (.sl false .str) (.pair (.int .i64) (.pair (.int .i64) (.pair (.int .i64) (.pair (.sl false (.int .i64)) (.pair .bool (.pair (.int .i64) .unit)))))))))) y8), (2, .imm (.sl false (.pair .str (.pair .str .unit))) y9), (3, .arr false (.int .i64) y10 0)], 4⟩
def impl_takers_1.step (n : Nat) (self : Ty.Els [.v (.int .i64), .q (.sl false (.pair .str (.pair (.sl false (.pair .str (.pair (.int .i64) (.pair .str .unit)))) (.pair (.sl false .str) (.pair (.int .i64) (.pair (.int .i64) (.pair (.int .i64) (.pair (.sl false (.int .i64)) (.pair .bool (.pair (.int .i64) .unit)))))))))), .q (.sl false (.pair .str (.pair .str .unit))), .me 121 1, .p (.sl false (.int .i64))] → Option (Tup [(.sl false (.int .i64))])) (K : impl_takers_1.Pt → Option (Tup [(.sl false (.int .i64))])) : impl_takers_1.Pt → Option (Tup [(.sl false (.int .i64))])
  | .p0 a0 a1 a2 a3 a4 => cond (inB a0 (List.length a1)) (K (.p11 a0 true (IntKind.wrap .i64 (a0 + (1 : Int))) false (List.getD a1 (Int.toNat a0) default).2.2.2.2.2.2.2.2.1 (0 : Int) a1 a2 a4)) (none)
  | .p11 y1 y2 y3 y4 y5 y6 y7 y8 y9 => cond (decide (y6 < y5)) (cond (!y4) (cond (inB y3 (List.length y7)) ((impl_fits n (List.getD y7 (Int.toNat y3) default).2.1 y8).bind fun r12 => K (.p21 y1 y2 y3 y4 y5 y6 r12 y7 y8 y9)) (none)) (K (.p21 y1 y2 y3 y4 y5 y6 false y7 y8 y9))) (cond y2 (cond (room ((List.length y9) + (List.length [y1]))) (some (y9 ++ [y1])) (none)) (some y9))
  | .p21 y1 y2 y3 y4 y5 y6 y7 y8 y9 y10 => cond y7 ((self (y3, (List.getD [y8] 0 default), (List.getD [y9] 0 default), (), y10, ())).bind fun r13 => cond (inB y3 (List.length y8)) ((impl_behindRoute n y8 y3).bind fun (r14 : Int) => K (.p11 y1 false r14 (!(List.getD y8 (Int.toNat y3) default).2.2.2.2.2.2.2.1) y5 (IntKind.wrap .i64 (y6 + (1 : Int))) y8 y9 r13)) (none)) ((impl_behindRoute n y8 y3).bind fun (r13 : Int) => K (.p11 y1 y2 r13 y4 y5 (IntKind.wrap .i64 (y6 + (1 : Int))) y8 y9 y10))
def impl_takers_1 (n : Nat) (a0 : Int) (a1 : List ((ByteArray) × ((List ((ByteArray) × ((Int) × ((ByteArray) × (Unit))))) × ((List (ByteArray)) × ((Int) × ((Int) × ((Int) × ((List (Int)) × ((Bool) × ((Int) × (Unit))))))))))) (a2 : List ((ByteArray) × ((ByteArray) × (Unit)))) (a3 : Unit) (a4 : List (Int)) : Option (Tup [(.sl false (.int .i64))]) := goRec (fun n K => impl_takers_1.step n (fun x => K (.p0 x.1 x.2.1 x.2.2.1 x.2.2.2.1 x.2.2.2.2.1)) K) n (.p0 a0 a1 a2 a3 a4)
def impl_takers_1.spec : Ctr := ⟨121, [.v (.int .i64), .q (.sl false (.pair .str (.pair (.sl false (.pair .str (.pair (.int .i64) (.pair .str .unit)))) (.pair (.sl false .str) (.pair (.int .i64) (.pair (.int .i64) (.pair (.int .i64) (.pair (.sl false (.int .i64)) (.pair .bool (.pair (.int .i64) .unit)))))))))), .q (.sl false (.pair .str (.pair .str .unit))), .me 121 1, .p (.sl false (.int .i64))], [], [(.sl false (.int .i64))], fun n x => impl_takers_1 n x.1 x.2.1 x.2.2.1 x.2.2.2.1 x.2.2.2.2.1⟩
theorem impl_takers_1.seg_eq (n : Nat) (φ : Ty.Els [.v (.int .i64), .q (.sl false (.pair .str (.pair (.sl false (.pair .str (.pair (.int .i64) (.pair .str .unit)))) (.pair (.sl false .str) (.pair (.int .i64) (.pair (.int .i64) (.pair (.int .i64) (.pair (.sl false (.int .i64)) (.pair .bool (.pair (.int .i64) .unit)))))))))), .q (.sl false (.pair .str (.pair .str .unit))), .me 121 1, .p (.sl false (.int .i64))] → Option (Tup [(.sl false (.int .i64))])) (goto : Nat → St → Option (Tup [(.sl false (.int .i64))])) (y : impl_takers_1.Pt) : seg ⟨ty, gl, impl_takers_1.md, calOf (impl_takers_1.spec.at φ :: impl_takers_1.T) n⟩ impl_takers_1.F.np impl_takers_1.F.ks goto (impl_takers_1.F.fin ⟨ty, gl, impl_takers_1.md, calOf impl_takers_1.T 0⟩ [(.sl false (.int .i64))]) impl_takers_1.F.c (impl_takers_1.lb y) (impl_takers_1.st y) = impl_takers_1.step n φ (fun z => goto (impl_takers_1.lb z) (impl_takers_1.st z)) y := by
  cases y <;> kernel_rfl
theorem impl_takers_1.text : Text Go.Proofs.Tryz.prog impl_takers_1.F impl_takers_1.spec := ⟨⟨Go.Proofs.Tryz.f121, by kernel_rfl, by kernel_rfl, by decide +kernel, by kernel_rfl, by kernel_rfl, of_decide_eq_true (by kernel_rfl)⟩, fun _ => rfl, fun _ => rfl, rfl⟩
theorem impl_takers_1.ok : CtrOK Go.Proofs.Tryz.prog gl impl_takers_1.spec :=
  ctr_rec (T := impl_takers_1.T) (F := impl_takers_1.F) (lb := impl_takers_1.lb) (st := impl_takers_1.st) (ent := fun x => .p0 x.1 x.2.1 x.2.2.1 x.2.2.2.1 x.2.2.2.2.1) (stp := impl_takers_1.step) (md := impl_takers_1.md) tabs impl_takers_1.text impl_takers_1.seg_eq (fun _ => ⟨rfl, rfl⟩) (fun _ _ => rfl) (consC impl_fits.ok (consC impl_behindRoute.ok (nilC)))

/-! loop.example/g00039/impl.takers -/
def impl_takers.T : List Ctr := [impl_takers_1.spec]
def impl_takers.md : List (Nat × List Md) := [(121, [.v, .q (.sl false (.pair .str (.pair (.sl false (.pair .str (.pair (.int .i64) (.pair .str .unit)))) (.pair (.sl false .str) (.pair (.int .i64) (.pair (.int .i64) (.pair (.int .i64) (.pair (.sl false (.int .i64)) (.pair .bool (.pair (.int .i64) .unit)))))))))), .q (.sl false (.pair .str (.pair .str .unit))), .me 121 1, .p (.sl false (.int .i64))]), (1000121, [.q (.sl false (.pair .str (.pair (.sl false (.pair .str (.pair (.int .i64) (.pair .str .unit)))) (.pair (.sl false .str) (.pair (.int .i64) (.pair (.int .i64) (.pair (.int .i64) (.pair (.sl false (.int .i64)) (.pair .bool (.pair (.int .i64) .unit)))))))))), .q (.sl false (.pair .str (.pair .str .unit))), .me 121 1, .p (.sl false (.int .i64))])]
noncomputable def impl_takers.F : Fun := ⟨(Go.Proofs.Tryz.f69.body).getD .skip, [.v (.sl false (.pair .str (.pair (.sl false (.pair .str (.pair (.int .i64) (.pair .str .unit)))) (.pair (.sl false .str) (.pair (.int .i64) (.pair (.int .i64) (.pair (.int .i64) (.pair (.sl false (.int .i64)) (.pair .bool (.pair (.int .i64) .unit)))))))))), .v (.sl false (.pair .str (.pair .str .unit)))], [(.tmp 4, (.sl false (.int .i64)))], [], 0, []⟩
inductive impl_takers.Pt where
  | p0 (a0 : List ((ByteArray) × ((List ((ByteArray) × ((Int) × ((ByteArray) × (Unit))))) × ((List (ByteArray)) × ((Int) × ((Int) × ((Int) × ((List (Int)) × ((Bool) × ((Int) × (Unit))))))))))) (a1 : List ((ByteArray) × ((ByteArray) × (Unit))))
def impl_takers.lb : impl_takers.Pt → Nat
  | .p0 _ _ => 0
def impl_takers.st : impl_takers.Pt → St
  | .p0 a0 a1 => enter [.v (.sl false (.pair .str (.pair (.sl false (.pair .str (.pair (.int .i64) (.pair .str .unit)))) (.pair (.sl false .str) (.pair (.int .i64) (.pair (.int .i64) (.pair (.int .i64) (.pair (.sl false (.int .i64)) (.pair .bool (.pair (.int .i64) .unit)))))))))) a0, .v (.sl false (.pair .str (.pair .str .unit))) a1] 0
def impl_takers.step (n : Nat) (K : impl_takers.Pt → Option (Tup [(.sl false (.int .i64))])) : impl_takers.Pt → Option (Tup [(.sl false (.int .i64))])
  | .p0 a0 a1 => (impl_takers_1 n (0 : Int) a0 a1 () ([] : List (Int))).bind fun r5 => some r5
def impl_takers (n : Nat) (a0 : List ((ByteArray) × ((List ((ByteArray) × ((Int) × ((ByteArray) × (Unit))))) × ((List (ByteArray)) × ((Int) × ((Int) × ((Int) × ((List (Int)) × ((Bool) × ((Int) × (Unit))))))))))) (a1 : List ((ByteArray) × ((ByteArray) × (Unit)))) : Option (Tup [(.sl false (.int .i64))]) := goRec impl_takers.step n (.p0 a0 a1)
def impl_takers.spec : Ctr := ⟨69, [.v (.sl false (.pair .str (.pair (.sl false (.pair .str (.pair (.int .i64) (.pair .str .unit)))) (.pair (.sl false .str) (.pair (.int .i64) (.pair (.int .i64) (.pair (.int .i64) (.pair (.sl false (.int .i64)) (.pair .bool (.pair (.int .i64) .unit)))))))))), .v (.sl false (.pair .str (.pair .str .unit)))], [(.sl false (.int .i64))], [], fun n x => impl_takers n x.1 x.2.1⟩
theorem impl_takers.seg_eq (n : Nat) (goto : Nat → St → Option (Tup [(.sl false (.int .i64))])) (y : impl_takers.Pt) : seg ⟨ty, gl, impl_takers.md, calOf impl_takers.T n⟩ impl_takers.F.np impl_takers.F.ks goto (impl_takers.F.fin ⟨ty, gl, impl_takers.md, calOf impl_takers.T 0⟩ [(.sl false (.int .i64))]) impl_takers.F.c (impl_takers.lb y) (impl_takers.st y) = impl_takers.step n (fun z => goto (impl_takers.lb z) (impl_takers.st z)) y := by
  cases y <;> kernel_rfl
theorem impl_takers.text : Text Go.Proofs.Tryz.prog impl_takers.F impl_takers.spec := ⟨⟨Go.Proofs.Tryz.f69, by kernel_rfl, by kernel_rfl, by decide +kernel, by kernel_rfl, by kernel_rfl, of_decide_eq_true (by kernel_rfl)⟩, fun _ => rfl, fun _ => rfl, rfl⟩
theorem impl_takers.ok : CtrOK Go.Proofs.Tryz.prog gl impl_takers.spec :=
  ctr_ok (T := impl_takers.T) (F := impl_takers.F) (lb := impl_takers.lb) (st := impl_takers.st) (step := impl_takers.step) (md := impl_takers.md) tabs impl_takers.text impl_takers.seg_eq (fun n x => ⟨.p0 x.1 x.2.1, rfl, rfl, rfl⟩) (consC impl_takers_1.ok (nilC))

/-! slices.Sort[[]int,int] -/
def slices_Sort_int (n : Nat) (a0 : List Int) : Option (List Int) := hold n (cond (decide (a0.length < 4611686018427387904)) (some (a0.mergeSort fun x y => decide (x ≤ y))) none)
def slices_Sort_int.spec : Ctr := ⟨70, [.s false (.int .i64)], [], [.sl false (.int .i64)], fun n x => slices_Sort_int n x.1⟩
section
open Go.Proofs
def laySort_ren : Go.Shelf.Ren := ⟨fun | 189 => 70 | 125 => 125 | 257 => 124 | 128 => 175 | 129 => 176 | 294 => 166 | 295 => 167 | 296 => 168 | 297 => 169 | 298 => 170 | 299 => 171 | 216 => 172 | 300 => 173 | 301 => 174 | 328 => 194 | 329 => 195 | 330 => 196 | 331 => 197 | 332 => 198 | 215 => 199 | 343 => 205 | n => n, fun | 28 => 55 | 3 => 3 | 46 => 164 | 0 => 0 | 51 => 207 | 53 => 209 | 4 => 4 | 183 => 199 | 182 => 198 | 131 => 204 | 5 => 5 | 9 => 9 | 218 => 222 | 222 => 226 | 228 => 236 | 229 => 237 | n => n, fun | n => n⟩
theorem laySort : Go.Proofs.Lays.n189 Tryz.prog laySort_ren where
  mixed := by kernel_rfl
  f125 := Tryz.func125.trans (congrArg some (by kernel_rfl))
  f128 := Tryz.func175.trans (congrArg some (by kernel_rfl))
  f129 := Tryz.func176.trans (congrArg some (by kernel_rfl))
  f189 := Tryz.func70.trans (congrArg some (by kernel_rfl))
  f215 := Tryz.func199.trans (congrArg some (by kernel_rfl))
  f216 := Tryz.func172.trans (congrArg some (by kernel_rfl))
  f257 := Tryz.func124.trans (congrArg some (by kernel_rfl))
  f294 := Tryz.func166.trans (congrArg some (by kernel_rfl))
  f295 := Tryz.func167.trans (congrArg some (by kernel_rfl))
  f296 := Tryz.func168.trans (congrArg some (by kernel_rfl))
  f297 := Tryz.func169.trans (congrArg some (by kernel_rfl))
  f298 := Tryz.func170.trans (congrArg some (by kernel_rfl))
  f299 := Tryz.func171.trans (congrArg some (by kernel_rfl))
  f300 := Tryz.func173.trans (congrArg some (by kernel_rfl))
  f301 := Tryz.func174.trans (congrArg some (by kernel_rfl))
  f328 := Tryz.func194.trans (congrArg some (by kernel_rfl))
  f329 := Tryz.func195.trans (congrArg some (by kernel_rfl))
  f330 := Tryz.func196.trans (congrArg some (by kernel_rfl))
  f331 := Tryz.func197.trans (congrArg some (by kernel_rfl))
  f332 := Tryz.func198.trans (congrArg some (by kernel_rfl))
  f343 := Tryz.func205.trans (congrArg some (by kernel_rfl))
  t0 := Tryz.underlying0
  a0 := Tryz.isAgg0
  z0 := Tryz.sizeOf0
  v0 := Tryz.zeroValue0
  t3 := Tryz.underlying3
  a3 := Tryz.isAgg3
  z3 := Tryz.sizeOf3
  v3 := Tryz.zeroValue3
  t4 := Tryz.underlying4
  a4 := Tryz.isAgg4
  z4 := Tryz.sizeOf4
  v4 := Tryz.zeroValue4
  t5 := Tryz.underlying5
  a5 := Tryz.isAgg5
  z5 := Tryz.sizeOf5
  v5 := Tryz.zeroValue5
  t9 := Tryz.underlying9
  a9 := Tryz.isAgg9
  z9 := Tryz.sizeOf9
  v9 := Tryz.zeroValue9
  t28 := Tryz.underlying55
  a28 := Tryz.isAgg55
  z28 := Tryz.sizeOf55
  v28 := Tryz.zeroValue55
  t46 := Tryz.underlying164
  a46 := Tryz.isAgg164
  z46 := Tryz.sizeOf164
  v46 := Tryz.zeroValue164
  t51 := Tryz.underlying207
  a51 := Tryz.isAgg207
  z51 := Tryz.sizeOf207
  v51 := Tryz.zeroValue207
  t53 := Tryz.underlying209
  a53 := Tryz.isAgg209
  z53 := Tryz.sizeOf209
  v53 := Tryz.zeroValue209
  t131 := Tryz.underlying204
  a131 := Tryz.isAgg204
  z131 := Tryz.sizeOf204
  v131 := Tryz.zeroValue204
  t182 := Tryz.underlying198
  a182 := Tryz.isAgg198
  z182 := Tryz.sizeOf198
  v182 := Tryz.zeroValue198
  t183 := Tryz.underlying199
  a183 := Tryz.isAgg199
  z183 := Tryz.sizeOf199
  v183 := Tryz.zeroValue199
  t218 := Tryz.underlying222
  a218 := Tryz.isAgg222
  z218 := Tryz.sizeOf222
  v218 := Tryz.zeroValue222
  t222 := Tryz.underlying226
  a222 := Tryz.isAgg226
  z222 := Tryz.sizeOf226
  v222 := Tryz.zeroValue226
  t228 := Tryz.underlying236
  a228 := Tryz.isAgg236
  z228 := Tryz.sizeOf236
  v228 := Tryz.zeroValue236
  t229 := Tryz.underlying237
  a229 := Tryz.isAgg237
  z229 := Tryz.sizeOf237
  v229 := Tryz.zeroValue237

end
theorem ints_rep {w : World} {o : Bool} : ∀ {l : List Int} {m : List Value} {G : List Nat}, RepL (Rep w o (.int .i64)) l m G → m = l.map (Value.int .i64) ∧ G = []
  | [], m, G, h => ⟨h.1, h.2⟩
  | x :: l, m, G, h => by
    obtain ⟨c, d, H, I, rfl, rfl, h1, h2⟩ := h
    obtain ⟨rfl, rfl⟩ := h1
    obtain ⟨rfl, rfl⟩ := ints_rep h2
    exact ⟨rfl, rfl⟩
theorem rep_ints {w : World} {o : Bool} : ∀ (l : List Int), RepL (Rep w o (.int .i64)) l (l.map (Value.int .i64)) []
  | [] => ⟨rfl, rfl⟩
  | x :: l => ⟨[_], _, [], [], rfl, rfl, ⟨rfl, rfl⟩, rep_ints l⟩
theorem slices_Sort_int.ok : CtrOK Go.Proofs.Tryz.prog gl slices_Sort_int.spec := by
  refine fun n => ⟨⟨Go.Proofs.Tryz.f70, by kernel_rfl, by kernel_rfl, by decide +kernel⟩, ?_⟩
  rintro ⟨a0, ⟨⟩⟩ y hy
  have hy := hold_some hy
  by_cases hlen : a0.length < 4611686018427387904
  · rw [decide_eq_true hlen] at hy
    obtain rfl := Option.some.inj hy
    intro w vs S L harg _ hL hSL hG
    change ArgsRep w [Arg.s false (.int .i64) a0] vs S L at harg
    unfold ArgsRep at harg
    obtain ⟨v0, vr, S1, S2, L1, L2, rfl, rfl, rfl, h1, harg⟩ := harg
    unfold ArgsRep at harg
    obtain ⟨rfl, rfl, rfl⟩ := harg
    unfold ArgRep at h1
    obtain ⟨_, rfl, h1⟩ := h1
    have hml : (a0.mergeSort fun x y => decide (x ≤ y)).length = a0.length := List.length_mergeSort _
    rcases h1 with ⟨rfl, rfl, rfl⟩ | ⟨a, cap, c, t, fz, p, m, q, G, rfl, hs, he, hl, hh, hc, hp, hr, rfl, how⟩
    · refine (Go.Proofs.Any.slices_Sort_int_none laySort none 0 w).mono ?_
      rintro e w' ⟨rfl, rfl⟩
      refine ⟨[], [], [], rfl, ⟨rfl, rfl⟩, ?_, by simp, by simp, rfl, rfl, rfl, Nat.le_refl _, fun _ _ _ => rfl⟩
      change OutsRep w' [Arg.s false (.int .i64) ([] : List Int)] _ [⟨.sl false (.int .i64), List.mergeSort [] _⟩] _
      simp only [OutsRep, OutRep]
      exact ⟨_, _, [_], [], [], [], rfl, rfl, rfl, ⟨_, rfl, by simp, .inl ⟨rfl, by simp, rfl⟩⟩, rfl, rfl⟩
    · obtain ⟨rfl, rfl⟩ := ints_rep hr
      obtain ⟨hoff, hfz, hsz, hcm⟩ := how rfl
      obtain ⟨ab, ao, asp⟩ := a
      dsimp only at hs hh hp hoff
      subst hs hoff
      obtain rfl : p = [] := List.length_eq_zero_iff.1 hp
      have hsz' : c.size = cap := by rw [hsz]; exact Nat.mul_one _
      have hgt : ab < w.heap.size := (Array.getElem?_eq_some_iff.1 hh).1
      have hH : Go.Sort.Holds (Value.int .i64) w ab 0 a0.toArray := by
        intro j hj
        have hj' : j < a0.length := by simpa using hj
        have h1 : c.toList[j]? = some (Value.int .i64 a0[j]) := by
          rw [hc, List.nil_append, List.getElem?_append_left (by simpa using hj')]
          simp [hj']
        refine ⟨?_, ?_⟩
        · simp only [World.cell?, hh, Nat.zero_add, Option.isSome_none, Bool.false_eq_true, if_false]
          rw [← Array.getElem?_toList, h1]
          simp [hj']
        · have := hfz j (by omega)
          simp [World.frozen?, hh]
          intro h3
          by_cases h4 : fz.1 ≤ j
          · have := this ∘ And.intro h4; omega
          · omega
      refine (Go.Proofs.Any.slices_Sort_int laySort ab 0 cap a0 w hH hgt hlen).mono ?_
      rintro e w' ⟨rfl, n, os, rfl⟩
      have hg := grownBy_sortedI (w := w) (g := ab) (n := n) (os := os) (a0.mergeSort fun x y => decide (x ≤ y)).toArray
      have hb := heap_sortedI (n := n) (os := os) (a0.mergeSort fun x y => decide (x ≤ y)).toArray hh
      refine ⟨[], [], [ab], rfl, ⟨rfl, rfl⟩, ?_, by simp, fun b hb' => ?_, hg.os, hg.tape, hg.output, hg.size, fun b h1 h2 => hg.block b h1 (fun e => h2 (by simp only [Option.some.injEq] at e; simp [e]))⟩
      · change OutsRep _ [Arg.s false (.int .i64) a0] _ [⟨.sl false (.int .i64), a0.mergeSort fun x y => decide (x ≤ y)⟩] _
        simp only [OutsRep, OutRep]
        refine ⟨_, _, [_], [], [ab], [], rfl, rfl, rfl, ⟨_, rfl, hml, .inr ⟨⟨ab, 0, none⟩, cap, _, t, fz, [], (a0.mergeSort fun x y => decide (x ≤ y)).map (Value.int .i64), (Go.Sort.putCells (Value.int .i64) 0 (a0.mergeSort fun x y => decide (x ≤ y)).toArray c).toList.drop a0.length, [], by rw [hml], rfl, by simp, by rw [hml]; exact hl, hb, ?_, rfl, rep_ints _, rfl, fun _ => ⟨rfl, ?_, ?_, hcm⟩⟩⟩, rfl, rfl⟩
        · rw [List.nil_append]
          have := take_putCellsI c (a0.mergeSort fun x y => decide (x ≤ y)) (by omega)
          rw [← this, hml]
          exact (List.take_append_drop _ _).symm
        · intro j hj
          exact hfz j (by simpa [Go.Sort.putCells] using hj)
        · simpa [Go.Sort.putCells] using hsz
      · simp only [List.nil_append, List.mem_singleton] at hb'
        subst hb'
        exact ⟨Nat.lt_of_lt_of_le hgt hg.size, fun _ => by simp⟩
  · rw [decide_eq_false hlen] at hy; cases hy

/-! loop.example/g00039/impl.RoutesFor -/
def impl_RoutesFor.T : List Ctr := [impl_GoodRoutes.spec, impl_GoodLabels.spec, impl_takers.spec, slices_Sort_int.spec]
def impl_RoutesFor.md : List (Nat × List Md) := [(70, [.s])]
noncomputable def impl_RoutesFor.F : Fun := ⟨(Go.Proofs.Tryz.f24.body).getD .skip, [.v (.sl false (.pair .str (.pair (.sl false (.pair .str (.pair (.int .i64) (.pair .str .unit)))) (.pair (.sl false .str) (.pair (.int .i64) (.pair (.int .i64) (.pair (.int .i64) (.pair (.sl false (.int .i64)) (.pair .bool (.pair (.int .i64) .unit)))))))))), .v (.sl false (.pair .str (.pair .str .unit)))], [(.tmp 4, (.sl false (.int .i64)))], [], 0, [(4, ⟨[0, 1, 13], [], [], false⟩)]⟩
inductive impl_RoutesFor.Pt where
  | p0 (a0 : List ((ByteArray) × ((List ((ByteArray) × ((Int) × ((ByteArray) × (Unit))))) × ((List (ByteArray)) × ((Int) × ((Int) × ((Int) × ((List (Int)) × ((Bool) × ((Int) × (Unit))))))))))) (a1 : List ((ByteArray) × ((ByteArray) × (Unit))))
  | p4 (y1 : List ((ByteArray) × ((List ((ByteArray) × ((Int) × ((ByteArray) × (Unit))))) × ((List (ByteArray)) × ((Int) × ((Int) × ((Int) × ((List (Int)) × ((Bool) × ((Int) × (Unit))))))))))) (y2 : List ((ByteArray) × ((ByteArray) × (Unit)))) (y3 : Bool)
def impl_RoutesFor.lb : impl_RoutesFor.Pt → Nat
  | .p0 _ _ => 0
  | .p4 _ _ _ => 4
def impl_RoutesFor.st : impl_RoutesFor.Pt → St
  | .p0 a0 a1 => enter [.v (.sl false (.pair .str (.pair (.sl false (.pair .str (.pair (.int .i64) (.pair .str .unit)))) (.pair (.sl false .str) (.pair (.int .i64) (.pair (.int .i64) (.pair (.int .i64) (.pair (.sl false (.int .i64)) (.pair .bool (.pair (.int .i64) .unit)))))))))) a0, .v (.sl false (.pair .str (.pair .str .unit))) a1] 0
  | .p4 y1 y2 y3 => ⟨[(0, .im (.sl false (.pair .str (.pair (.sl false (.pair .str (.pair (.int .i64) (.pair .str .unit)))) (.pair (.sl false .str) (.pair (.int .i64) (.pair (.int .i64) (.pair (.int .i64) (.pair (.sl false (.int .i64)) (.pair .bool (.pair (.int .i64) .unit)))))))))) y1), (1, .im (.sl false (.pair .str (.pair .str .unit))) y2), (13, .im .bool y3)], [], 0⟩
def impl_RoutesFor.step (n : Nat) (K : impl_RoutesFor.Pt → Option (Tup [(.sl false (.int .i64))])) : impl_RoutesFor.Pt → Option (Tup [(.sl false (.int .i64))])
  | .p0 a0 a1 => (impl_GoodRoutes n a0).bind fun r5 => cond (!r5) (K (.p4 a0 a1 true)) ((impl_GoodLabels n a1).bind fun r6 => K (.p4 a0 a1 (!r6)))
  | .p4 y1 y2 y3 => cond y3 (some ([] : List (Int))) ((impl_takers n y1 y2).bind fun r6 => (slices_Sort_int n r6).bind fun r7 => some r7)
def impl_RoutesFor (n : Nat) (a0 : List ((ByteArray) × ((List ((ByteArray) × ((Int) × ((ByteArray) × (Unit))))) × ((List (ByteArray)) × ((Int) × ((Int) × ((Int) × ((List (Int)) × ((Bool) × ((Int) × (Unit))))))))))) (a1 : List ((ByteArray) × ((ByteArray) × (Unit)))) : Option (Tup [(.sl false (.int .i64))]) := goRec impl_RoutesFor.step n (.p0 a0 a1)
def impl_RoutesFor.spec : Ctr := ⟨24, [.v (.sl false (.pair .str (.pair (.sl false (.pair .str (.pair (.int .i64) (.pair .str .unit)))) (.pair (.sl false .str) (.pair (.int .i64) (.pair (.int .i64) (.pair (.int .i64) (.pair (.sl false (.int .i64)) (.pair .bool (.pair (.int .i64) .unit)))))))))), .v (.sl false (.pair .str (.pair .str .unit)))], [(.sl false (.int .i64))], [], fun n x => impl_RoutesFor n x.1 x.2.1⟩
theorem impl_RoutesFor.seg_eq (n : Nat) (goto : Nat → St → Option (Tup [(.sl false (.int .i64))])) (y : impl_RoutesFor.Pt) : seg ⟨ty, gl, impl_RoutesFor.md, calOf impl_RoutesFor.T n⟩ impl_RoutesFor.F.np impl_RoutesFor.F.ks goto (impl_RoutesFor.F.fin ⟨ty, gl, impl_RoutesFor.md, calOf impl_RoutesFor.T 0⟩ [(.sl false (.int .i64))]) impl_RoutesFor.F.c (impl_RoutesFor.lb y) (impl_RoutesFor.st y) = impl_RoutesFor.step n (fun z => goto (impl_RoutesFor.lb z) (impl_RoutesFor.st z)) y := by
  cases y <;> kernel_rfl
theorem impl_RoutesFor.text : Text Go.Proofs.Tryz.prog impl_RoutesFor.F impl_RoutesFor.spec := ⟨⟨Go.Proofs.Tryz.f24, by kernel_rfl, by kernel_rfl, by decide +kernel, by kernel_rfl, by kernel_rfl, of_decide_eq_true (by kernel_rfl)⟩, fun _ => rfl, fun _ => rfl, rfl⟩
theorem impl_RoutesFor.ok : CtrOK Go.Proofs.Tryz.prog gl impl_RoutesFor.spec :=
  ctr_ok (T := impl_RoutesFor.T) (F := impl_RoutesFor.F) (lb := impl_RoutesFor.lb) (st := impl_RoutesFor.st) (step := impl_RoutesFor.step) (md := impl_RoutesFor.md) tabs impl_RoutesFor.text impl_RoutesFor.seg_eq (fun n x => ⟨.p0 x.1 x.2.1, rfl, rfl, rfl⟩) (consC impl_GoodRoutes.ok (consC impl_GoodLabels.ok (consC impl_takers.ok (consC slices_Sort_int.ok (nilC)))))

/-! loop.example/g00039/laws.eqIntS -/
def laws_eqIntS.T : List Ctr := []
def laws_eqIntS.md : List (Nat × List Md) := []
noncomputable def laws_eqIntS.F : Fun := ⟨(Go.Proofs.Tryz.f25.body).getD .skip, [.v (.sl false (.int .i64)), .v (.sl false (.int .i64))], [(.tmp 4, .bool)], [], 0, [(15, ⟨[0, 1, 5], [], [], false⟩)]⟩
inductive laws_eqIntS.Pt where
  | p0 (a0 : List (Int)) (a1 : List (Int))
  | p15 (y1 : List (Int)) (y2 : List (Int)) (y3 : Int)
def laws_eqIntS.lb : laws_eqIntS.Pt → Nat
  | .p0 _ _ => 0
  | .p15 _ _ _ => 15
def laws_eqIntS.st : laws_eqIntS.Pt → St
  | .p0 a0 a1 => enter [.v (.sl false (.int .i64)) a0, .v (.sl false (.int .i64)) a1] 0
  | .p15 y1 y2 y3 => ⟨[(0, .im (.sl false (.int .i64)) y1), (1, .im (.sl false (.int .i64)) y2), (5, .im (.int .i64) y3)], [], 0⟩
def laws_eqIntS.step (n : Nat) (K : laws_eqIntS.Pt → Option (Tup [.bool])) : laws_eqIntS.Pt → Option (Tup [.bool])
  | .p0 a0 a1 => cond (!(decide (((List.length a0) : Int) = ((List.length a1) : Int)))) (some false) (K (.p15 a0 a1 (0 : Int)))
  | .p15 y1 y2 y3 => cond (decide (y3 < ((List.length y1) : Int))) (cond (inB y3 (List.length y1)) (cond (inB y3 (List.length y2)) (cond (!(decide ((List.getD y1 (Int.toNat y3) default) = (List.getD y2 (Int.toNat y3) default)))) (some false) (K (.p15 y1 y2 (IntKind.wrap .i64 (y3 + (1 : Int)))))) (none)) (none)) (some true)
def laws_eqIntS (n : Nat) (a0 : List (Int)) (a1 : List (Int)) : Option (Tup [.bool]) := goRec laws_eqIntS.step n (.p0 a0 a1)
def laws_eqIntS.spec : Ctr := ⟨25, [.v (.sl false (.int .i64)), .v (.sl false (.int .i64))], [.bool], [], fun n x => laws_eqIntS n x.1 x.2.1⟩
theorem laws_eqIntS.seg_eq (n : Nat) (goto : Nat → St → Option (Tup [.bool])) (y : laws_eqIntS.Pt) : seg ⟨ty, gl, laws_eqIntS.md, calOf laws_eqIntS.T n⟩ laws_eqIntS.F.np laws_eqIntS.F.ks goto (laws_eqIntS.F.fin ⟨ty, gl, laws_eqIntS.md, calOf laws_eqIntS.T 0⟩ [.bool]) laws_eqIntS.F.c (laws_eqIntS.lb y) (laws_eqIntS.st y) = laws_eqIntS.step n (fun z => goto (laws_eqIntS.lb z) (laws_eqIntS.st z)) y := by
  cases y <;> kernel_rfl
theorem laws_eqIntS.text : Text Go.Proofs.Tryz.prog laws_eqIntS.F laws_eqIntS.spec := ⟨⟨Go.Proofs.Tryz.f25, by kernel_rfl, by kernel_rfl, by decide +kernel, by kernel_rfl, by kernel_rfl, of_decide_eq_true (by kernel_rfl)⟩, fun _ => rfl, fun _ => rfl, rfl⟩
theorem laws_eqIntS.ok : CtrOK Go.Proofs.Tryz.prog gl laws_eqIntS.spec :=
  ctr_ok (T := laws_eqIntS.T) (F := laws_eqIntS.F) (lb := laws_eqIntS.lb) (st := laws_eqIntS.st) (step := laws_eqIntS.step) (md := laws_eqIntS.md) tabs laws_eqIntS.text laws_eqIntS.seg_eq (fun n x => ⟨.p0 x.1 x.2.1, rfl, rfl, rfl⟩) (nilC)

/-! loop.example/g00039/laws.eqMatcher -/
def laws_eqMatcher.T : List Ctr := []
def laws_eqMatcher.md : List (Nat × List Md) := []
noncomputable def laws_eqMatcher.F : Fun := ⟨(Go.Proofs.Tryz.f177.body).getD .skip, [.v (.pair .str (.pair (.int .i64) (.pair .str .unit))), .v (.pair .str (.pair (.int .i64) (.pair .str .unit)))], [(.tmp 4, .bool)], [], 0, []⟩
inductive laws_eqMatcher.Pt where
  | p0 (a0 : (ByteArray) × ((Int) × ((ByteArray) × (Unit)))) (a1 : (ByteArray) × ((Int) × ((ByteArray) × (Unit))))
def laws_eqMatcher.lb : laws_eqMatcher.Pt → Nat
  | .p0 _ _ => 0
def laws_eqMatcher.st : laws_eqMatcher.Pt → St
  | .p0 a0 a1 => enter [.v (.pair .str (.pair (.int .i64) (.pair .str .unit))) a0, .v (.pair .str (.pair (.int .i64) (.pair .str .unit))) a1] 0
def laws_eqMatcher.step (n : Nat) (K : laws_eqMatcher.Pt → Option (Tup [.bool])) : laws_eqMatcher.Pt → Option (Tup [.bool])
  | .p0 a0 a1 => cond (!(seq a0.1 a1.1)) (some false) (cond (!(decide (a0.2.1 = a1.2.1))) (some false) (cond (!(seq a0.2.2.1 a1.2.2.1)) (some false) (some true)))
def laws_eqMatcher (n : Nat) (a0 : (ByteArray) × ((Int) × ((ByteArray) × (Unit)))) (a1 : (ByteArray) × ((Int) × ((ByteArray) × (Unit)))) : Option (Tup [.bool]) := goRec laws_eqMatcher.step n (.p0 a0 a1)
def laws_eqMatcher.spec : Ctr := ⟨177, [.v (.pair .str (.pair (.int .i64) (.pair .str .unit))), .v (.pair .str (.pair (.int .i64) (.pair .str .unit)))], [.bool], [], fun n x => laws_eqMatcher n x.1 x.2.1⟩
theorem laws_eqMatcher.seg_eq (n : Nat) (goto : Nat → St → Option (Tup [.bool])) (y : laws_eqMatcher.Pt) : seg ⟨ty, gl, laws_eqMatcher.md, calOf laws_eqMatcher.T n⟩ laws_eqMatcher.F.np laws_eqMatcher.F.ks goto (laws_eqMatcher.F.fin ⟨ty, gl, laws_eqMatcher.md, calOf laws_eqMatcher.T 0⟩ [.bool]) laws_eqMatcher.F.c (laws_eqMatcher.lb y) (laws_eqMatcher.st y) = laws_eqMatcher.step n (fun z => goto (laws_eqMatcher.lb z) (laws_eqMatcher.st z)) y := by
  cases y <;> kernel_rfl
theorem laws_eqMatcher.text : Text Go.Proofs.Tryz.prog laws_eqMatcher.F laws_eqMatcher.spec := ⟨⟨Go.Proofs.Tryz.f177, by kernel_rfl, by kernel_rfl, by decide +kernel, by kernel_rfl, by kernel_rfl, of_decide_eq_true (by kernel_rfl)⟩, fun _ => rfl, fun _ => rfl, rfl⟩
theorem laws_eqMatcher.ok : CtrOK Go.Proofs.Tryz.prog gl laws_eqMatcher.spec :=
  ctr_ok (T := laws_eqMatcher.T) (F := laws_eqMatcher.F) (lb := laws_eqMatcher.lb) (st := laws_eqMatcher.st) (step := laws_eqMatcher.step) (md := laws_eqMatcher.md) tabs laws_eqMatcher.text laws_eqMatcher.seg_eq (fun n x => ⟨.p0 x.1 x.2.1, rfl, rfl, rfl⟩) (nilC)

/-! loop.example/g00039/laws.eqMatcherS -/
def laws_eqMatcherS.T : List Ctr := [laws_eqMatcher.spec]
def laws_eqMatcherS.md : List (Nat × List Md) := []
noncomputable def laws_eqMatcherS.F : Fun := ⟨(Go.Proofs.Tryz.f126.body).getD .skip, [.v (.sl false (.pair .str (.pair (.int .i64) (.pair .str .unit)))), .v (.sl false (.pair .str (.pair (.int .i64) (.pair .str .unit))))], [(.tmp 4, .bool)], [], 0, [(15, ⟨[0, 1, 5], [], [], false⟩)]⟩
inductive laws_eqMatcherS.Pt where
  | p0 (a0 : List ((ByteArray) × ((Int) × ((ByteArray) × (Unit))))) (a1 : List ((ByteArray) × ((Int) × ((ByteArray) × (Unit)))))
  | p15 (y1 : List ((ByteArray) × ((Int) × ((ByteArray) × (Unit))))) (y2 : List ((ByteArray) × ((Int) × ((ByteArray) × (Unit))))) (y3 : Int)
def laws_eqMatcherS.lb : laws_eqMatcherS.Pt → Nat
  | .p0 _ _ => 0
  | .p15 _ _ _ => 15
def laws_eqMatcherS.st : laws_eqMatcherS.Pt → St
  | .p0 a0 a1 => enter [.v (.sl false (.pair .str (.pair (.int .i64) (.pair .str .unit)))) a0, .v (.sl false (.pair .str (.pair (.int .i64) (.pair .str .unit)))) a1] 0
  | .p15 y1 y2 y3 => ⟨[(0, .im (.sl false (.pair .str (.pair (.int .i64) (.pair .str .unit)))) y1), (1, .im (.sl false (.pair .str (.pair (.int .i64) (.pair .str .unit)))) y2), (5, .im (.int .i64) y3)], [], 0⟩
def laws_eqMatcherS.step (n : Nat) (K : laws_eqMatcherS.Pt → Option (Tup [.bool])) : laws_eqMatcherS.Pt → Option (Tup [.bool])
  | .p0 a0 a1 => cond (!(decide (((List.length a0) : Int) = ((List.length a1) : Int)))) (some false) (K (.p15 a0 a1 (0 : Int)))
  | .p15 y1 y2 y3 => cond (decide (y3 < ((List.length y1) : Int))) (cond (inB y3 (List.length y1)) (cond (inB y3 (List.length y2)) ((laws_eqMatcher n (List.getD y1 (Int.toNat y3) default) (List.getD y2 (Int.toNat y3) default)).bind fun r6 => cond (!r6) (some false) (K (.p15 y1 y2 (IntKind.wrap .i64 (y3 + (1 : Int)))))) (none)) (none)) (some true)
def laws_eqMatcherS (n : Nat) (a0 : List ((ByteArray) × ((Int) × ((ByteArray) × (Unit))))) (a1 : List ((ByteArray) × ((Int) × ((ByteArray) × (Unit))))) : Option (Tup [.bool]) := goRec laws_eqMatcherS.step n (.p0 a0 a1)
def laws_eqMatcherS.spec : Ctr := ⟨126, [.v (.sl false (.pair .str (.pair (.int .i64) (.pair .str .unit)))), .v (.sl false (.pair .str (.pair (.int .i64) (.pair .str .unit))))], [.bool], [], fun n x => laws_eqMatcherS n x.1 x.2.1⟩
theorem laws_eqMatcherS.seg_eq (n : Nat) (goto : Nat → St → Option (Tup [.bool])) (y : laws_eqMatcherS.Pt) : seg ⟨ty, gl, laws_eqMatcherS.md, calOf laws_eqMatcherS.T n⟩ laws_eqMatcherS.F.np laws_eqMatcherS.F.ks goto (laws_eqMatcherS.F.fin ⟨ty, gl, laws_eqMatcherS.md, calOf laws_eqMatcherS.T 0⟩ [.bool]) laws_eqMatcherS.F.c (laws_eqMatcherS.lb y) (laws_eqMatcherS.st y) = laws_eqMatcherS.step n (fun z => goto (laws_eqMatcherS.lb z) (laws_eqMatcherS.st z)) y := by
  cases y <;> kernel_rfl
theorem laws_eqMatcherS.text : Text Go.Proofs.Tryz.prog laws_eqMatcherS.F laws_eqMatcherS.spec := ⟨⟨Go.Proofs.Tryz.f126, by kernel_rfl, by kernel_rfl, by decide +kernel, by kernel_rfl, by kernel_rfl, of_decide_eq_true (by kernel_rfl)⟩, fun _ => rfl, fun _ => rfl, rfl⟩
theorem laws_eqMatcherS.ok : CtrOK Go.Proofs.Tryz.prog gl laws_eqMatcherS.spec :=
  ctr_ok (T := laws_eqMatcherS.T) (F := laws_eqMatcherS.F) (lb := laws_eqMatcherS.lb) (st := laws_eqMatcherS.st) (step := laws_eqMatcherS.step) (md := laws_eqMatcherS.md) tabs laws_eqMatcherS.text laws_eqMatcherS.seg_eq (fun n x => ⟨.p0 x.1 x.2.1, rfl, rfl, rfl⟩) (consC laws_eqMatcher.ok (nilC))

/-! loop.example/g00039/laws.eqStringS -/
def laws_eqStringS.T : List Ctr := []
def laws_eqStringS.md : List (Nat × List Md) := []
noncomputable def laws_eqStringS.F : Fun := ⟨(Go.Proofs.Tryz.f127.body).getD .skip, [.v (.sl false .str), .v (.sl false .str)], [(.tmp 4, .bool)], [], 0, [(15, ⟨[0, 1, 5], [], [], false⟩)]⟩
inductive laws_eqStringS.Pt where
  | p0 (a0 : List (ByteArray)) (a1 : List (ByteArray))
  | p15 (y1 : List (ByteArray)) (y2 : List (ByteArray)) (y3 : Int)
def laws_eqStringS.lb : laws_eqStringS.Pt → Nat
  | .p0 _ _ => 0
  | .p15 _ _ _ => 15
def laws_eqStringS.st : laws_eqStringS.Pt → St
  | .p0 a0 a1 => enter [.v (.sl false .str) a0, .v (.sl false .str) a1] 0
  | .p15 y1 y2 y3 => ⟨[(0, .im (.sl false .str) y1), (1, .im (.sl false .str) y2), (5, .im (.int .i64) y3)], [], 0⟩
def laws_eqStringS.step (n : Nat) (K : laws_eqStringS.Pt → Option (Tup [.bool])) : laws_eqStringS.Pt → Option (Tup [.bool])
  | .p0 a0 a1 => cond (!(decide (((List.length a0) : Int) = ((List.length a1) : Int)))) (some false) (K (.p15 a0 a1 (0 : Int)))
  | .p15 y1 y2 y3 => cond (decide (y3 < ((List.length y1) : Int))) (cond (inB y3 (List.length y1)) (cond (inB y3 (List.length y2)) (cond (!(seq (List.getD y1 (Int.toNat y3) default) (List.getD y2 (Int.toNat y3) default))) (some false) (K (.p15 y1 y2 (IntKind.wrap .i64 (y3 + (1 : Int)))))) (none)) (none)) (some true)
def laws_eqStringS (n : Nat) (a0 : List (ByteArray)) (a1 : List (ByteArray)) : Option (Tup [.bool]) := goRec laws_eqStringS.step n (.p0 a0 a1)
def laws_eqStringS.spec : Ctr := ⟨127, [.v (.sl false .str), .v (.sl false .str)], [.bool], [], fun n x => laws_eqStringS n x.1 x.2.1⟩
theorem laws_eqStringS.seg_eq (n : Nat) (goto : Nat → St → Option (Tup [.bool])) (y : laws_eqStringS.Pt) : seg ⟨ty, gl, laws_eqStringS.md, calOf laws_eqStringS.T n⟩ laws_eqStringS.F.np laws_eqStringS.F.ks goto (laws_eqStringS.F.fin ⟨ty, gl, laws_eqStringS.md, calOf laws_eqStringS.T 0⟩ [.bool]) laws_eqStringS.F.c (laws_eqStringS.lb y) (laws_eqStringS.st y) = laws_eqStringS.step n (fun z => goto (laws_eqStringS.lb z) (laws_eqStringS.st z)) y := by
  cases y <;> kernel_rfl
theorem laws_eqStringS.text : Text Go.Proofs.Tryz.prog laws_eqStringS.F laws_eqStringS.spec := ⟨⟨Go.Proofs.Tryz.f127, by kernel_rfl, by kernel_rfl, by decide +kernel, by kernel_rfl, by kernel_rfl, of_decide_eq_true (by kernel_rfl)⟩, fun _ => rfl, fun _ => rfl, rfl⟩
theorem laws_eqStringS.ok : CtrOK Go.Proofs.Tryz.prog gl laws_eqStringS.spec :=
  ctr_ok (T := laws_eqStringS.T) (F := laws_eqStringS.F) (lb := laws_eqStringS.lb) (st := laws_eqStringS.st) (step := laws_eqStringS.step) (md := laws_eqStringS.md) tabs laws_eqStringS.text laws_eqStringS.seg_eq (fun n x => ⟨.p0 x.1 x.2.1, rfl, rfl, rfl⟩) (nilC)

/-! loop.example/g00039/laws.eqRoute -/
def laws_eqRoute.T : List Ctr := [laws_eqIntS.spec, laws_eqMatcherS.spec, laws_eqStringS.spec]
def laws_eqRoute.md : List (Nat × List Md) := []
noncomputable def laws_eqRoute.F : Fun := ⟨(Go.Proofs.Tryz.f71.body).getD .skip, [.v (.pair .str (.pair (.sl false (.pair .str (.pair (.int .i64) (.pair .str .unit)))) (.pair (.sl false .str) (.pair (.int .i64) (.pair (.int .i64) (.pair (.int .i64) (.pair (.sl false (.int .i64)) (.pair .bool (.pair (.int .i64) .unit))))))))), .v (.pair .str (.pair (.sl false (.pair .str (.pair (.int .i64) (.pair .str .unit)))) (.pair (.sl false .str) (.pair (.int .i64) (.pair (.int .i64) (.pair (.int .i64) (.pair (.sl false (.int .i64)) (.pair .bool (.pair (.int .i64) .unit)))))))))], [(.tmp 4, .bool)], [], 0, []⟩
inductive laws_eqRoute.Pt where
  | p0 (a0 : (ByteArray) × ((List ((ByteArray) × ((Int) × ((ByteArray) × (Unit))))) × ((List (ByteArray)) × ((Int) × ((Int) × ((Int) × ((List (Int)) × ((Bool) × ((Int) × (Unit)))))))))) (a1 : (ByteArray) × ((List ((ByteArray) × ((Int) × ((ByteArray) × (Unit))))) × ((List (ByteArray)) × ((Int) × ((Int) × ((Int) × ((List (Int)) × ((Bool) × ((Int) × (Unit))))))))))
def laws_eqRoute.lb : laws_eqRoute.Pt → Nat
  | .p0 _ _ => 0
def laws_eqRoute.st : laws_eqRoute.Pt → St
  | .p0 a0 a1 => enter [.v (.pair .str (.pair (.sl false (.pair .str (.pair (.int .i64) (.pair .str .unit)))) (.pair (.sl false .str) (.pair (.int .i64) (.pair (.int .i64) (.pair (.int .i64) (.pair (.sl false (.int .i64)) (.pair .bool (.pair (.int .i64) .unit))))))))) a0, .v (.pair .str (.pair (.sl false (.pair .str (.pair (.int .i64) (.pair .str .unit)))) (.pair (.sl false .str) (.pair (.int .i64) (.pair (.int .i64) (.pair (.int .i64) (.pair (.sl false (.int .i64)) (.pair .bool (.pair (.int .i64) .unit))))))))) a1] 0
def laws_eqRoute.step (n : Nat) (K : laws_eqRoute.Pt → Option (Tup [.bool])) : laws_eqRoute.Pt → Option (Tup [.bool])
  | .p0 a0 a1 => cond (!(seq a0.1 a1.1)) (some false) ((laws_eqMatcherS n a0.2.1 a1.2.1).bind fun r5 => cond (!r5) (some false) ((laws_eqStringS n a0.2.2.1 a1.2.2.1).bind fun r6 => cond (!r6) (some false) (cond (!(decide (a0.2.2.2.1 = a1.2.2.2.1))) (some false) (cond (!(decide (a0.2.2.2.2.1 = a1.2.2.2.2.1))) (some false) (cond (!(decide (a0.2.2.2.2.2.1 = a1.2.2.2.2.2.1))) (some false) ((laws_eqIntS n a0.2.2.2.2.2.2.1 a1.2.2.2.2.2.2.1).bind fun r7 => cond (!r7) (some false) (cond (a0.2.2.2.2.2.2.2.1 != a1.2.2.2.2.2.2.2.1) (some false) (cond (!(decide (a0.2.2.2.2.2.2.2.2.1 = a1.2.2.2.2.2.2.2.2.1))) (some false) (some true)))))))))
def laws_eqRoute (n : Nat) (a0 : (ByteArray) × ((List ((ByteArray) × ((Int) × ((ByteArray) × (Unit))))) × ((List (ByteArray)) × ((Int) × ((Int) × ((Int) × ((List (Int)) × ((Bool) × ((Int) × (Unit)))))))))) (a1 : (ByteArray) × ((List ((ByteArray) × ((Int) × ((ByteArray) × (Unit))))) × ((List (ByteArray)) × ((Int) × ((Int) × ((Int) × ((List (Int)) × ((Bool) × ((Int) × (Unit)))))))))) : Option (Tup [.bool]) := goRec laws_eqRoute.step n (.p0 a0 a1)
def laws_eqRoute.spec : Ctr := ⟨71, [.v (.pair .str (.pair (.sl false (.pair .str (.pair (.int .i64) (.pair .str .unit)))) (.pair (.sl false .str) (.pair (.int .i64) (.pair (.int .i64) (.pair (.int .i64) (.pair (.sl false (.int .i64)) (.pair .bool (.pair (.int .i64) .unit))))))))), .v (.pair .str (.pair (.sl false (.pair .str (.pair (.int .i64) (.pair .str .unit)))) (.pair (.sl false .str) (.pair (.int .i64) (.pair (.int .i64) (.pair (.int .i64) (.pair (.sl false (.int .i64)) (.pair .bool (.pair (.int .i64) .unit)))))))))], [.bool], [], fun n x => laws_eqRoute n x.1 x.2.1⟩
theorem laws_eqRoute.seg_eq (n : Nat) (goto : Nat → St → Option (Tup [.bool])) (y : laws_eqRoute.Pt) : seg ⟨ty, gl, laws_eqRoute.md, calOf laws_eqRoute.T n⟩ laws_eqRoute.F.np laws_eqRoute.F.ks goto (laws_eqRoute.F.fin ⟨ty, gl, laws_eqRoute.md, calOf laws_eqRoute.T 0⟩ [.bool]) laws_eqRoute.F.c (laws_eqRoute.lb y) (laws_eqRoute.st y) = laws_eqRoute.step n (fun z => goto (laws_eqRoute.lb z) (laws_eqRoute.st z)) y := by
  cases y <;> kernel_rfl
theorem laws_eqRoute.text : Text Go.Proofs.Tryz.prog laws_eqRoute.F laws_eqRoute.spec := ⟨⟨Go.Proofs.Tryz.f71, by kernel_rfl, by kernel_rfl, by decide +kernel, by kernel_rfl, by kernel_rfl, of_decide_eq_true (by kernel_rfl)⟩, fun _ => rfl, fun _ => rfl, rfl⟩
theorem laws_eqRoute.ok : CtrOK Go.Proofs.Tryz.prog gl laws_eqRoute.spec :=
  ctr_ok (T := laws_eqRoute.T) (F := laws_eqRoute.F) (lb := laws_eqRoute.lb) (st := laws_eqRoute.st) (step := laws_eqRoute.step) (md := laws_eqRoute.md) tabs laws_eqRoute.text laws_eqRoute.seg_eq (fun n x => ⟨.p0 x.1 x.2.1, rfl, rfl, rfl⟩) (consC laws_eqIntS.ok (consC laws_eqMatcherS.ok (consC laws_eqStringS.ok (nilC))))

/-! loop.example/g00039/laws.eqRouteS -/
def laws_eqRouteS.T : List Ctr := [laws_eqRoute.spec]
def laws_eqRouteS.md : List (Nat × List Md) := []
noncomputable def laws_eqRouteS.F : Fun := ⟨(Go.Proofs.Tryz.f26.body).getD .skip, [.v (.sl false (.pair .str (.pair (.sl false (.pair .str (.pair (.int .i64) (.pair .str .unit)))) (.pair (.sl false .str) (.pair (.int .i64) (.pair (.int .i64) (.pair (.int .i64) (.pair (.sl false (.int .i64)) (.pair .bool (.pair (.int .i64) .unit)))))))))), .v (.sl false (.pair .str (.pair (.sl false (.pair .str (.pair (.int .i64) (.pair .str .unit)))) (.pair (.sl false .str) (.pair (.int .i64) (.pair (.int .i64) (.pair (.int .i64) (.pair (.sl false (.int .i64)) (.pair .bool (.pair (.int .i64) .unit))))))))))], [(.tmp 4, .bool)], [], 0, [(15, ⟨[0, 1, 5], [], [], false⟩)]⟩
inductive laws_eqRouteS.Pt where
  | p0 (a0 : List ((ByteArray) × ((List ((ByteArray) × ((Int) × ((ByteArray) × (Unit))))) × ((List (ByteArray)) × ((Int) × ((Int) × ((Int) × ((List (Int)) × ((Bool) × ((Int) × (Unit))))))))))) (a1 : List ((ByteArray) × ((List ((ByteArray) × ((Int) × ((ByteArray) × (Unit))))) × ((List (ByteArray)) × ((Int) × ((Int) × ((Int) × ((List (Int)) × ((Bool) × ((Int) × (Unit)))))))))))
  | p15 (y1 : List ((ByteArray) × ((List ((ByteArray) × ((Int) × ((ByteArray) × (Unit))))) × ((List (ByteArray)) × ((Int) × ((Int) × ((Int) × ((List (Int)) × ((Bool) × ((Int) × (Unit))))))))))) (y2 : List ((ByteArray) × ((List ((ByteArray) × ((Int) × ((ByteArray) × (Unit))))) × ((List (ByteArray)) × ((Int) × ((Int) × ((Int) × ((List (Int)) × ((Bool) × ((Int) × (Unit))))))))))) (y3 : Int)
def laws_eqRouteS.lb : laws_eqRouteS.Pt → Nat
  | .p0 _ _ => 0
  | .p15 _ _ _ => 15
def laws_eqRouteS.st : laws_eqRouteS.Pt → St
  | .p0 a0 a1 => enter [.v (.sl false (.pair .str (.pair (.sl false (.pair .str (.pair (.int .i64) (.pair .str .unit)))) (.pair (.sl false .str) (.pair (.int .i64) (.pair (.int .i64) (.pair (.int .i64) (.pair (.sl false (.int .i64)) (.pair .bool (.pair (.int .i64) .unit)))))))))) a0, .v (.sl false (.pair .str (.pair (.sl false (.pair .str (.pair (.int .i64) (.pair .str .unit)))) (.pair (.sl false .str) (.pair (.int .i64) (.pair (.int .i64) (.pair (.int .i64) (.pair (.sl false (.int .i64)) (.pair .bool (.pair (.int .i64) .unit)))))))))) a1] 0
  | .p15 y1 y2 y3 => ⟨[(0, .im (.sl false (.pair .str (.pair (.sl false (.pair .str (.pair (.int .i64) (.pair .str .unit)))) (.pair (.sl false .str) (.pair (.int .i64) (.pair (.int .i64) (.pair (.int .i64) (.pair (.sl false (.int .i64)) (.pair .bool (.pair (.int .i64) .unit)))))))))) y1), (1, .im (.sl false (.pair .str (.pair (.sl false (.pair .str (.pair (.int .i64) (.pair .str .unit)))) (.pair (.sl false .str) (.pair (.int .i64) (.pair (.int .i64) (.pair (.int .i64) (.pair (.sl false (.int .i64)) (.pair .bool (.pair (.int .i64) .unit)))))))))) y2), (5, .im (.int .i64) y3)], [], 0⟩
def laws_eqRouteS.step (n : Nat) (K : laws_eqRouteS.Pt → Option (Tup [.bool])) : laws_eqRouteS.Pt → Option (Tup [.bool])
  | .p0 a0 a1 => cond (!(decide (((List.length a0) : Int) = ((List.length a1) : Int)))) (some false) (K (.p15 a0 a1 (0 : Int)))
  | .p15 y1 y2 y3 => cond (decide (y3 < ((List.length y1) : Int))) (cond (inB y3 (List.length y1)) (cond (inB y3 (List.length y2)) ((laws_eqRoute n (List.getD y1 (Int.toNat y3) default) (List.getD y2 (Int.toNat y3) default)).bind fun r6 => cond (!r6) (some false) (K (.p15 y1 y2 (IntKind.wrap .i64 (y3 + (1 : Int)))))) (none)) (none)) (some true)
def laws_eqRouteS (n : Nat) (a0 : List ((ByteArray) × ((List ((ByteArray) × ((Int) × ((ByteArray) × (Unit))))) × ((List (ByteArray)) × ((Int) × ((Int) × ((Int) × ((List (Int)) × ((Bool) × ((Int) × (Unit))))))))))) (a1 : List ((ByteArray) × ((List ((ByteArray) × ((Int) × ((ByteArray) × (Unit))))) × ((List (ByteArray)) × ((Int) × ((Int) × ((Int) × ((List (Int)) × ((Bool) × ((Int) × (Unit))))))))))) : Option (Tup [.bool]) := goRec laws_eqRouteS.step n (.p0 a0 a1)
def laws_eqRouteS.spec : Ctr := ⟨26, [.v (.sl false (.pair .str (.pair (.sl false (.pair .str (.pair (.int .i64) (.pair .str .unit)))) (.pair (.sl false .str) (.pair (.int .i64) (.pair (.int .i64) (.pair (.int .i64) (.pair (.sl false (.int .i64)) (.pair .bool (.pair (.int .i64) .unit)))))))))), .v (.sl false (.pair .str (.pair (.sl false (.pair .str (.pair (.int .i64) (.pair .str .unit)))) (.pair (.sl false .str) (.pair (.int .i64) (.pair (.int .i64) (.pair (.int .i64) (.pair (.sl false (.int .i64)) (.pair .bool (.pair (.int .i64) .unit))))))))))], [.bool], [], fun n x => laws_eqRouteS n x.1 x.2.1⟩
theorem laws_eqRouteS.seg_eq (n : Nat) (goto : Nat → St → Option (Tup [.bool])) (y : laws_eqRouteS.Pt) : seg ⟨ty, gl, laws_eqRouteS.md, calOf laws_eqRouteS.T n⟩ laws_eqRouteS.F.np laws_eqRouteS.F.ks goto (laws_eqRouteS.F.fin ⟨ty, gl, laws_eqRouteS.md, calOf laws_eqRouteS.T 0⟩ [.bool]) laws_eqRouteS.F.c (laws_eqRouteS.lb y) (laws_eqRouteS.st y) = laws_eqRouteS.step n (fun z => goto (laws_eqRouteS.lb z) (laws_eqRouteS.st z)) y := by
  cases y <;> kernel_rfl
theorem laws_eqRouteS.text : Text Go.Proofs.Tryz.prog laws_eqRouteS.F laws_eqRouteS.spec := ⟨⟨Go.Proofs.Tryz.f26, by kernel_rfl, by kernel_rfl, by decide +kernel, by kernel_rfl, by kernel_rfl, of_decide_eq_true (by kernel_rfl)⟩, fun _ => rfl, fun _ => rfl, rfl⟩
theorem laws_eqRouteS.ok : CtrOK Go.Proofs.Tryz.prog gl laws_eqRouteS.spec :=
  ctr_ok (T := laws_eqRouteS.T) (F := laws_eqRouteS.F) (lb := laws_eqRouteS.lb) (st := laws_eqRouteS.st) (step := laws_eqRouteS.step) (md := laws_eqRouteS.md) tabs laws_eqRouteS.text laws_eqRouteS.seg_eq (fun n x => ⟨.p0 x.1 x.2.1, rfl, rfl, rfl⟩) (consC laws_eqRoute.ok (nilC))

/-! loop.example/g00039/laws.eqLabel -/
def laws_eqLabel.T : List Ctr := []
def laws_eqLabel.md : List (Nat × List Md) := []
noncomputable def laws_eqLabel.F : Fun := ⟨(Go.Proofs.Tryz.f72.body).getD .skip, [.v (.pair .str (.pair .str .unit)), .v (.pair .str (.pair .str .unit))], [(.tmp 4, .bool)], [], 0, []⟩
inductive laws_eqLabel.Pt where
  | p0 (a0 : (ByteArray) × ((ByteArray) × (Unit))) (a1 : (ByteArray) × ((ByteArray) × (Unit)))
def laws_eqLabel.lb : laws_eqLabel.Pt → Nat
  | .p0 _ _ => 0
def laws_eqLabel.st : laws_eqLabel.Pt → St
  | .p0 a0 a1 => enter [.v (.pair .str (.pair .str .unit)) a0, .v (.pair .str (.pair .str .unit)) a1] 0
def laws_eqLabel.step (n : Nat) (K : laws_eqLabel.Pt → Option (Tup [.bool])) : laws_eqLabel.Pt → Option (Tup [.bool])
  | .p0 a0 a1 => cond (!(seq a0.1 a1.1)) (some false) (cond (!(seq a0.2.1 a1.2.1)) (some false) (some true))
def laws_eqLabel (n : Nat) (a0 : (ByteArray) × ((ByteArray) × (Unit))) (a1 : (ByteArray) × ((ByteArray) × (Unit))) : Option (Tup [.bool]) := goRec laws_eqLabel.step n (.p0 a0 a1)
def laws_eqLabel.spec : Ctr := ⟨72, [.v (.pair .str (.pair .str .unit)), .v (.pair .str (.pair .str .unit))], [.bool], [], fun n x => laws_eqLabel n x.1 x.2.1⟩
theorem laws_eqLabel.seg_eq (n : Nat) (goto : Nat → St → Option (Tup [.bool])) (y : laws_eqLabel.Pt) : seg ⟨ty, gl, laws_eqLabel.md, calOf laws_eqLabel.T n⟩ laws_eqLabel.F.np laws_eqLabel.F.ks goto (laws_eqLabel.F.fin ⟨ty, gl, laws_eqLabel.md, calOf laws_eqLabel.T 0⟩ [.bool]) laws_eqLabel.F.c (laws_eqLabel.lb y) (laws_eqLabel.st y) = laws_eqLabel.step n (fun z => goto (laws_eqLabel.lb z) (laws_eqLabel.st z)) y := by
  cases y <;> kernel_rfl
theorem laws_eqLabel.text : Text Go.Proofs.Tryz.prog laws_eqLabel.F laws_eqLabel.spec := ⟨⟨Go.Proofs.Tryz.f72, by kernel_rfl, by kernel_rfl, by decide +kernel, by kernel_rfl, by kernel_rfl, of_decide_eq_true (by kernel_rfl)⟩, fun _ => rfl, fun _ => rfl, rfl⟩
theorem laws_eqLabel.ok : CtrOK Go.Proofs.Tryz.prog gl laws_eqLabel.spec :=
  ctr_ok (T := laws_eqLabel.T) (F := laws_eqLabel.F) (lb := laws_eqLabel.lb) (st := laws_eqLabel.st) (step := laws_eqLabel.step) (md := laws_eqLabel.md) tabs laws_eqLabel.text laws_eqLabel.seg_eq (fun n x => ⟨.p0 x.1 x.2.1, rfl, rfl, rfl⟩) (nilC)

/-! loop.example/g00039/laws.eqLabelS -/
def laws_eqLabelS.T : List Ctr := [laws_eqLabel.spec]
def laws_eqLabelS.md : List (Nat × List Md) := []
noncomputable def laws_eqLabelS.F : Fun := ⟨(Go.Proofs.Tryz.f27.body).getD .skip, [.v (.sl false (.pair .str (.pair .str .unit))), .v (.sl false (.pair .str (.pair .str .unit)))], [(.tmp 4, .bool)], [], 0, [(15, ⟨[0, 1, 5], [], [], false⟩)]⟩
inductive laws_eqLabelS.Pt where
  | p0 (a0 : List ((ByteArray) × ((ByteArray) × (Unit)))) (a1 : List ((ByteArray) × ((ByteArray) × (Unit))))
  | p15 (y1 : List ((ByteArray) × ((ByteArray) × (Unit)))) (y2 : List ((ByteArray) × ((ByteArray) × (Unit)))) (y3 : Int)
def laws_eqLabelS.lb : laws_eqLabelS.Pt → Nat
  | .p0 _ _ => 0
  | .p15 _ _ _ => 15
def laws_eqLabelS.st : laws_eqLabelS.Pt → St
  | .p0 a0 a1 => enter [.v (.sl false (.pair .str (.pair .str .unit))) a0, .v (.sl false (.pair .str (.pair .str .unit))) a1] 0
  | .p15 y1 y2 y3 => ⟨[(0, .im (.sl false (.pair .str (.pair .str .unit))) y1), (1, .im (.sl false (.pair .str (.pair .str .unit))) y2), (5, .im (.int .i64) y3)], [], 0⟩
def laws_eqLabelS.step (n : Nat) (K : laws_eqLabelS.Pt → Option (Tup [.bool])) : laws_eqLabelS.Pt → Option (Tup [.bool])
  | .p0 a0 a1 => cond (!(decide (((List.length a0) : Int) = ((List.length a1) : Int)))) (some false) (K (.p15 a0 a1 (0 : Int)))
  | .p15 y1 y2 y3 => cond (decide (y3 < ((List.length y1) : Int))) (cond (inB y3 (List.length y1)) (cond (inB y3 (List.length y2)) ((laws_eqLabel n (List.getD y1 (Int.toNat y3) default) (List.getD y2 (Int.toNat y3) default)).bind fun r6 => cond (!r6) (some false) (K (.p15 y1 y2 (IntKind.wrap .i64 (y3 + (1 : Int)))))) (none)) (none)) (some true)
def laws_eqLabelS (n : Nat) (a0 : List ((ByteArray) × ((ByteArray) × (Unit)))) (a1 : List ((ByteArray) × ((ByteArray) × (Unit)))) : Option (Tup [.bool]) := goRec laws_eqLabelS.step n (.p0 a0 a1)
def laws_eqLabelS.spec : Ctr := ⟨27, [.v (.sl false (.pair .str (.pair .str .unit))), .v (.sl false (.pair .str (.pair .str .unit)))], [.bool], [], fun n x => laws_eqLabelS n x.1 x.2.1⟩
theorem laws_eqLabelS.seg_eq (n : Nat) (goto : Nat → St → Option (Tup [.bool])) (y : laws_eqLabelS.Pt) : seg ⟨ty, gl, laws_eqLabelS.md, calOf laws_eqLabelS.T n⟩ laws_eqLabelS.F.np laws_eqLabelS.F.ks goto (laws_eqLabelS.F.fin ⟨ty, gl, laws_eqLabelS.md, calOf laws_eqLabelS.T 0⟩ [.bool]) laws_eqLabelS.F.c (laws_eqLabelS.lb y) (laws_eqLabelS.st y) = laws_eqLabelS.step n (fun z => goto (laws_eqLabelS.lb z) (laws_eqLabelS.st z)) y := by
  cases y <;> kernel_rfl
theorem laws_eqLabelS.text : Text Go.Proofs.Tryz.prog laws_eqLabelS.F laws_eqLabelS.spec := ⟨⟨Go.Proofs.Tryz.f27, by kernel_rfl, by kernel_rfl, by decide +kernel, by kernel_rfl, by kernel_rfl, of_decide_eq_true (by kernel_rfl)⟩, fun _ => rfl, fun _ => rfl, rfl⟩
theorem laws_eqLabelS.ok : CtrOK Go.Proofs.Tryz.prog gl laws_eqLabelS.spec :=
  ctr_ok (T := laws_eqLabelS.T) (F := laws_eqLabelS.F) (lb := laws_eqLabelS.lb) (st := laws_eqLabelS.st) (step := laws_eqLabelS.step) (md := laws_eqLabelS.md) tabs laws_eqLabelS.text laws_eqLabelS.seg_eq (fun n x => ⟨.p0 x.1 x.2.1, rfl, rfl, rfl⟩) (consC laws_eqLabel.ok (nilC))

/-! loop.example/g00039/laws.markText -/
def laws_markText.T : List Ctr := []
def laws_markText.md : List (Nat × List Md) := []
noncomputable def laws_markText.F : Fun := ⟨(Go.Proofs.Tryz.f73.body).getD .skip, [.v (.int .i64)], [(.tmp 2, .str)], [], 0, [(15, ⟨[0, 3], [], [], false⟩)]⟩
inductive laws_markText.Pt where
  | p0 (a0 : Int)
  | p15 (y1 : Int) (y2 : ByteArray)
def laws_markText.lb : laws_markText.Pt → Nat
  | .p0 _ => 0
  | .p15 _ _ => 15
def laws_markText.st : laws_markText.Pt → St
  | .p0 a0 => enter [.v (.int .i64) a0] 0
  | .p15 y1 y2 => ⟨[(0, .im (.int .i64) y1), (3, .im .str y2)], [], 0⟩
def laws_markText.step (n : Nat) (K : laws_markText.Pt → Option (Tup [.str])) : laws_markText.Pt → Option (Tup [.str])
  | .p0 a0 => cond (decide (a0 ≤ (0 : Int))) (some (⟨#[109, 48]⟩ : ByteArray)) (K (.p15 a0 (⟨#[]⟩ : ByteArray)))
  | .p15 y1 y2 => cond (decide ((0 : Int) < y1)) (cond (room ((ByteArray.size (ofOcts [(IntKind.wrap .u8 (IntKind.wrap .i64 ((48 : Int) + (Int.tmod y1 (10 : Int)))))])) + (ByteArray.size y2))) (K (.p15 (IntKind.wrap .i64 (Int.tdiv y1 (10 : Int))) ((ofOcts [(IntKind.wrap .u8 (IntKind.wrap .i64 ((48 : Int) + (Int.tmod y1 (10 : Int)))))]) ++ y2))) (none)) (cond (room ((ByteArray.size (⟨#[109]⟩ : ByteArray)) + (ByteArray.size y2))) (some ((⟨#[109]⟩ : ByteArray) ++ y2)) (none))
def laws_markText (n : Nat) (a0 : Int) : Option (Tup [.str]) := goRec laws_markText.step n (.p0 a0)
def laws_markText.spec : Ctr := ⟨73, [.v (.int .i64)], [.str], [], fun n x => laws_markText n x.1⟩
theorem laws_markText.seg_eq (n : Nat) (goto : Nat → St → Option (Tup [.str])) (y : laws_markText.Pt) : seg ⟨ty, gl, laws_markText.md, calOf laws_markText.T n⟩ laws_markText.F.np laws_markText.F.ks goto (laws_markText.F.fin ⟨ty, gl, laws_markText.md, calOf laws_markText.T 0⟩ [.str]) laws_markText.F.c (laws_markText.lb y) (laws_markText.st y) = laws_markText.step n (fun z => goto (laws_markText.lb z) (laws_markText.st z)) y := by
  cases y <;> kernel_rfl
theorem laws_markText.text : Text Go.Proofs.Tryz.prog laws_markText.F laws_markText.spec := ⟨⟨Go.Proofs.Tryz.f73, by kernel_rfl, by kernel_rfl, by decide +kernel, by kernel_rfl, by kernel_rfl, of_decide_eq_true (by kernel_rfl)⟩, fun _ => rfl, fun _ => rfl, rfl⟩
theorem laws_markText.ok : CtrOK Go.Proofs.Tryz.prog gl laws_markText.spec :=
  ctr_ok (T := laws_markText.T) (F := laws_markText.F) (lb := laws_markText.lb) (st := laws_markText.st) (step := laws_markText.step) (md := laws_markText.md) tabs laws_markText.text laws_markText.seg_eq (fun n x => ⟨.p0 x.1, rfl, rfl, rfl⟩) (nilC)

/-! loop.example/g00039/laws.markMatcherS -/
def laws_markMatcherS.T : List Ctr := [laws_markText.spec]
def laws_markMatcherS.md : List (Nat × List Md) := []
noncomputable def laws_markMatcherS.F : Fun := ⟨(Go.Proofs.Tryz.f74.body).getD .skip, [.s false (.pair .str (.pair (.int .i64) (.pair .str .unit))), .v (.int .i64)], [(.tmp 4, (.int .i64))], [none], 1, [(7, ⟨[0, 1, 5], [], [], false⟩)]⟩
inductive laws_markMatcherS.Pt where
  | p0 (a0 : List ((ByteArray) × ((Int) × ((ByteArray) × (Unit))))) (a1 : Int)
  | p7 (y1 : Int) (y2 : Int) (y3 : List ((ByteArray) × ((Int) × ((ByteArray) × (Unit)))))
def laws_markMatcherS.lb : laws_markMatcherS.Pt → Nat
  | .p0 _ _ => 0
  | .p7 _ _ _ => 7
def laws_markMatcherS.st : laws_markMatcherS.Pt → St
  | .p0 a0 a1 => enter [.s false (.pair .str (.pair (.int .i64) (.pair .str .unit))) a0, .v (.int .i64) a1] 1
  | .p7 y1 y2 y3 => ⟨[(0, .hs 0 [] none 0), (1, .im (.int .i64) y1), (5, .im (.int .i64) y2)], [(0, .arr false (.pair .str (.pair (.int .i64) (.pair .str .unit))) y3 0)], 1⟩
def laws_markMatcherS.step (n : Nat) (K : laws_markMatcherS.Pt → Option (Tup [(.int .i64), (.sl false (.pair .str (.pair (.int .i64) (.pair .str .unit))))])) : laws_markMatcherS.Pt → Option (Tup [(.int .i64), (.sl false (.pair .str (.pair (.int .i64) (.pair .str .unit))))])
  | .p0 a0 a1 => K (.p7 a1 (0 : Int) a0)
  | .p7 y1 y2 y3 => cond (decide (y2 < ((List.length y3) : Int))) ((laws_markText n y1).bind fun r6 => cond (inB y2 (List.length y3)) (cond (inB y2 (List.length (List.set y3 (0 + (Int.toNat y2)) (r6, (List.getD y3 (0 + (Int.toNat y2)) default).2)))) ((laws_markText n (IntKind.wrap .i64 ((IntKind.wrap .i64 (y1 + (1 : Int))) + (1 : Int)))).bind fun r7 => let mm0 := (List.set (List.set y3 (0 + (Int.toNat y2)) (r6, (List.getD y3 (0 + (Int.toNat y2)) default).2)) (0 + (Int.toNat y2)) ((List.getD (List.set y3 (0 + (Int.toNat y2)) (r6, (List.getD y3 (0 + (Int.toNat y2)) default).2)) (0 + (Int.toNat y2)) default).1, ((IntKind.wrap .i64 (y1 + (1 : Int))), (List.getD (List.set y3 (0 + (Int.toNat y2)) (r6, (List.getD y3 (0 + (Int.toNat y2)) default).2)) (0 + (Int.toNat y2)) default).2.2))); cond (inB y2 (List.length mm0)) (K (.p7 (IntKind.wrap .i64 ((IntKind.wrap .i64 ((IntKind.wrap .i64 (y1 + (1 : Int))) + (1 : Int))) + (1 : Int))) (IntKind.wrap .i64 (y2 + (1 : Int))) (List.set mm0 (0 + (Int.toNat y2)) ((List.getD mm0 (0 + (Int.toNat y2)) default).1, ((List.getD mm0 (0 + (Int.toNat y2)) default).2.1, (r7, (List.getD mm0 (0 + (Int.toNat y2)) default).2.2.2)))))) (none)) (none)) (none)) (some (y1, y3))
def laws_markMatcherS (n : Nat) (a0 : List ((ByteArray) × ((Int) × ((ByteArray) × (Unit))))) (a1 : Int) : Option (Tup [(.int .i64), (.sl false (.pair .str (.pair (.int .i64) (.pair .str .unit))))]) := goRec laws_markMatcherS.step n (.p0 a0 a1)
def laws_markMatcherS.spec : Ctr := ⟨74, [.s false (.pair .str (.pair (.int .i64) (.pair .str .unit))), .v (.int .i64)], [(.int .i64)], [(.sl false (.pair .str (.pair (.int .i64) (.pair .str .unit))))], fun n x => laws_markMatcherS n x.1 x.2.1⟩
theorem laws_markMatcherS.seg_eq (n : Nat) (goto : Nat → St → Option (Tup [(.int .i64), (.sl false (.pair .str (.pair (.int .i64) (.pair .str .unit))))])) (y : laws_markMatcherS.Pt) : seg ⟨ty, gl, laws_markMatcherS.md, calOf laws_markMatcherS.T n⟩ laws_markMatcherS.F.np laws_markMatcherS.F.ks goto (laws_markMatcherS.F.fin ⟨ty, gl, laws_markMatcherS.md, calOf laws_markMatcherS.T 0⟩ [(.int .i64), (.sl false (.pair .str (.pair (.int .i64) (.pair .str .unit))))]) laws_markMatcherS.F.c (laws_markMatcherS.lb y) (laws_markMatcherS.st y) = laws_markMatcherS.step n (fun z => goto (laws_markMatcherS.lb z) (laws_markMatcherS.st z)) y := by
  cases y <;> kernel_rfl
theorem laws_markMatcherS.text : Text Go.Proofs.Tryz.prog laws_markMatcherS.F laws_markMatcherS.spec := ⟨⟨Go.Proofs.Tryz.f74, by kernel_rfl, by kernel_rfl, by decide +kernel, by kernel_rfl, by kernel_rfl, of_decide_eq_true (by kernel_rfl)⟩, fun _ => rfl, fun _ => rfl, rfl⟩
theorem laws_markMatcherS.ok : CtrOK Go.Proofs.Tryz.prog gl laws_markMatcherS.spec :=
  ctr_ok (T := laws_markMatcherS.T) (F := laws_markMatcherS.F) (lb := laws_markMatcherS.lb) (st := laws_markMatcherS.st) (step := laws_markMatcherS.step) (md := laws_markMatcherS.md) tabs laws_markMatcherS.text laws_markMatcherS.seg_eq (fun n x => ⟨.p0 x.1 x.2.1, rfl, rfl, rfl⟩) (consC laws_markText.ok (nilC))

/-! loop.example/g00039/laws.markStringS -/
def laws_markStringS.T : List Ctr := [laws_markText.spec]
def laws_markStringS.md : List (Nat × List Md) := []
noncomputable def laws_markStringS.F : Fun := ⟨(Go.Proofs.Tryz.f75.body).getD .skip, [.s false .str, .v (.int .i64)], [(.tmp 4, (.int .i64))], [none], 1, [(7, ⟨[0, 1, 5], [], [], false⟩)]⟩
inductive laws_markStringS.Pt where
  | p0 (a0 : List (ByteArray)) (a1 : Int)
  | p7 (y1 : Int) (y2 : Int) (y3 : List (ByteArray))
def laws_markStringS.lb : laws_markStringS.Pt → Nat
  | .p0 _ _ => 0
  | .p7 _ _ _ => 7
def laws_markStringS.st : laws_markStringS.Pt → St
  | .p0 a0 a1 => enter [.s false .str a0, .v (.int .i64) a1] 1
  | .p7 y1 y2 y3 => ⟨[(0, .hs 0 [] none 0), (1, .im (.int .i64) y1), (5, .im (.int .i64) y2)], [(0, .arr false .str y3 0)], 1⟩
def laws_markStringS.step (n : Nat) (K : laws_markStringS.Pt → Option (Tup [(.int .i64), (.sl false .str)])) : laws_markStringS.Pt → Option (Tup [(.int .i64), (.sl false .str)])
  | .p0 a0 a1 => K (.p7 a1 (0 : Int) a0)
  | .p7 y1 y2 y3 => cond (decide (y2 < ((List.length y3) : Int))) ((laws_markText n y1).bind fun r6 => cond (inB y2 (List.length y3)) (K (.p7 (IntKind.wrap .i64 (y1 + (1 : Int))) (IntKind.wrap .i64 (y2 + (1 : Int))) (List.set y3 (0 + (Int.toNat y2)) r6))) (none)) (some (y1, y3))
def laws_markStringS (n : Nat) (a0 : List (ByteArray)) (a1 : Int) : Option (Tup [(.int .i64), (.sl false .str)]) := goRec laws_markStringS.step n (.p0 a0 a1)
def laws_markStringS.spec : Ctr := ⟨75, [.s false .str, .v (.int .i64)], [(.int .i64)], [(.sl false .str)], fun n x => laws_markStringS n x.1 x.2.1⟩
theorem laws_markStringS.seg_eq (n : Nat) (goto : Nat → St → Option (Tup [(.int .i64), (.sl false .str)])) (y : laws_markStringS.Pt) : seg ⟨ty, gl, laws_markStringS.md, calOf laws_markStringS.T n⟩ laws_markStringS.F.np laws_markStringS.F.ks goto (laws_markStringS.F.fin ⟨ty, gl, laws_markStringS.md, calOf laws_markStringS.T 0⟩ [(.int .i64), (.sl false .str)]) laws_markStringS.F.c (laws_markStringS.lb y) (laws_markStringS.st y) = laws_markStringS.step n (fun z => goto (laws_markStringS.lb z) (laws_markStringS.st z)) y := by
  cases y <;> kernel_rfl
theorem laws_markStringS.text : Text Go.Proofs.Tryz.prog laws_markStringS.F laws_markStringS.spec := ⟨⟨Go.Proofs.Tryz.f75, by kernel_rfl, by kernel_rfl, by decide +kernel, by kernel_rfl, by kernel_rfl, of_decide_eq_true (by kernel_rfl)⟩, fun _ => rfl, fun _ => rfl, rfl⟩
theorem laws_markStringS.ok : CtrOK Go.Proofs.Tryz.prog gl laws_markStringS.spec :=
  ctr_ok (T := laws_markStringS.T) (F := laws_markStringS.F) (lb := laws_markStringS.lb) (st := laws_markStringS.st) (step := laws_markStringS.step) (md := laws_markStringS.md) tabs laws_markStringS.text laws_markStringS.seg_eq (fun n x => ⟨.p0 x.1 x.2.1, rfl, rfl, rfl⟩) (consC laws_markText.ok (nilC))

/-! loop.example/g00039/laws.markIntS -/
def laws_markIntS.T : List Ctr := []
def laws_markIntS.md : List (Nat × List Md) := []
noncomputable def laws_markIntS.F : Fun := ⟨(Go.Proofs.Tryz.f30.body).getD .skip, [.s false (.int .i64), .v (.int .i64)], [(.tmp 4, (.int .i64))], [none], 1, [(7, ⟨[0, 1, 5], [], [], false⟩)]⟩
inductive laws_markIntS.Pt where
  | p0 (a0 : List (Int)) (a1 : Int)
  | p7 (y1 : Int) (y2 : Int) (y3 : List (Int))
def laws_markIntS.lb : laws_markIntS.Pt → Nat
  | .p0 _ _ => 0
  | .p7 _ _ _ => 7
def laws_markIntS.st : laws_markIntS.Pt → St
  | .p0 a0 a1 => enter [.s false (.int .i64) a0, .v (.int .i64) a1] 1
  | .p7 y1 y2 y3 => ⟨[(0, .hs 0 [] none 0), (1, .im (.int .i64) y1), (5, .im (.int .i64) y2)], [(0, .arr false (.int .i64) y3 0)], 1⟩
def laws_markIntS.step (n : Nat) (K : laws_markIntS.Pt → Option (Tup [(.int .i64), (.sl false (.int .i64))])) : laws_markIntS.Pt → Option (Tup [(.int .i64), (.sl false (.int .i64))])
  | .p0 a0 a1 => K (.p7 a1 (0 : Int) a0)
  | .p7 y1 y2 y3 => cond (decide (y2 < ((List.length y3) : Int))) (cond (inB y2 (List.length y3)) (K (.p7 (IntKind.wrap .i64 (y1 + (1 : Int))) (IntKind.wrap .i64 (y2 + (1 : Int))) (List.set y3 (0 + (Int.toNat y2)) y1))) (none)) (some (y1, y3))
def laws_markIntS (n : Nat) (a0 : List (Int)) (a1 : Int) : Option (Tup [(.int .i64), (.sl false (.int .i64))]) := goRec laws_markIntS.step n (.p0 a0 a1)
def laws_markIntS.spec : Ctr := ⟨30, [.s false (.int .i64), .v (.int .i64)], [(.int .i64)], [(.sl false (.int .i64))], fun n x => laws_markIntS n x.1 x.2.1⟩
theorem laws_markIntS.seg_eq (n : Nat) (goto : Nat → St → Option (Tup [(.int .i64), (.sl false (.int .i64))])) (y : laws_markIntS.Pt) : seg ⟨ty, gl, laws_markIntS.md, calOf laws_markIntS.T n⟩ laws_markIntS.F.np laws_markIntS.F.ks goto (laws_markIntS.F.fin ⟨ty, gl, laws_markIntS.md, calOf laws_markIntS.T 0⟩ [(.int .i64), (.sl false (.int .i64))]) laws_markIntS.F.c (laws_markIntS.lb y) (laws_markIntS.st y) = laws_markIntS.step n (fun z => goto (laws_markIntS.lb z) (laws_markIntS.st z)) y := by
  cases y <;> kernel_rfl
theorem laws_markIntS.text : Text Go.Proofs.Tryz.prog laws_markIntS.F laws_markIntS.spec := ⟨⟨Go.Proofs.Tryz.f30, by kernel_rfl, by kernel_rfl, by decide +kernel, by kernel_rfl, by kernel_rfl, of_decide_eq_true (by kernel_rfl)⟩, fun _ => rfl, fun _ => rfl, rfl⟩
theorem laws_markIntS.ok : CtrOK Go.Proofs.Tryz.prog gl laws_markIntS.spec :=
  ctr_ok (T := laws_markIntS.T) (F := laws_markIntS.F) (lb := laws_markIntS.lb) (st := laws_markIntS.st) (step := laws_markIntS.step) (md := laws_markIntS.md) tabs laws_markIntS.text laws_markIntS.seg_eq (fun n x => ⟨.p0 x.1 x.2.1, rfl, rfl, rfl⟩) (nilC)

/-! loop.example/g00039/laws.markRouteS -/
def laws_markRouteS.T : List Ctr := [laws_markText.spec, laws_markMatcherS.spec, laws_markStringS.spec, laws_markIntS.spec]
def laws_markRouteS.md : List (Nat × List Md) := [(74, [.s, .v]), (75, [.s, .v]), (30, [.s, .v])]
noncomputable def laws_markRouteS.F : Fun := ⟨(Go.Proofs.Tryz.f28.body).getD .skip, [.s false (.pair .str (.pair (.sl false (.pair .str (.pair (.int .i64) (.pair .str .unit)))) (.pair (.sl false .str) (.pair (.int .i64) (.pair (.int .i64) (.pair (.int .i64) (.pair (.sl false (.int .i64)) (.pair .bool (.pair (.int .i64) .unit))))))))), .v (.int .i64)], [(.tmp 4, (.int .i64))], [none], 1, [(7, ⟨[0, 1, 5], [], [], false⟩)]⟩
inductive laws_markRouteS.Pt where
  | p0 (a0 : List ((ByteArray) × ((List ((ByteArray) × ((Int) × ((ByteArray) × (Unit))))) × ((List (ByteArray)) × ((Int) × ((Int) × ((Int) × ((List (Int)) × ((Bool) × ((Int) × (Unit))))))))))) (a1 : Int)
  | p7 (y1 : Int) (y2 : Int) (y3 : List ((ByteArray) × ((List ((ByteArray) × ((Int) × ((ByteArray) × (Unit))))) × ((List (ByteArray)) × ((Int) × ((Int) × ((Int) × ((List (Int)) × ((Bool) × ((Int) × (Unit)))))))))))
def laws_markRouteS.lb : laws_markRouteS.Pt → Nat
  | .p0 _ _ => 0
  | .p7 _ _ _ => 7
def laws_markRouteS.st : laws_markRouteS.Pt → St
  | .p0 a0 a1 => enter [.s false (.pair .str (.pair (.sl false (.pair .str (.pair (.int .i64) (.pair .str .unit)))) (.pair (.sl false .str) (.pair (.int .i64) (.pair (.int .i64) (.pair (.int .i64) (.pair (.sl false (.int .i64)) (.pair .bool (.pair (.int .i64) .unit))))))))) a0, .v (.int .i64) a1] 1
  | .p7 y1 y2 y3 => ⟨[(0, .hs 0 [] none 0), (1, .im (.int .i64) y1), (5, .im (.int .i64) y2)], [(0, .arr false (.pair .str (.pair (.sl false (.pair .str (.pair (.int .i64) (.pair .str .unit)))) (.pair (.sl false .str) (.pair (.int .i64) (.pair (.int .i64) (.pair (.int .i64) (.pair (.sl false (.int .i64)) (.pair .bool (.pair (.int .i64) .unit))))))))) y3 0)], 1⟩
def laws_markRouteS.step (n : Nat) (K : laws_markRouteS.Pt → Option (Tup [(.int .i64), (.sl false (.pair .str (.pair (.sl false (.pair .str (.pair (.int .i64) (.pair .str .unit)))) (.pair (.sl false .str) (.pair (.int .i64) (.pair (.int .i64) (.pair (.int .i64) (.pair (.sl false (.int .i64)) (.pair .bool (.pair (.int .i64) .unit))))))))))])) : laws_markRouteS.Pt → Option (Tup [(.int .i64), (.sl false (.pair .str (.pair (.sl false (.pair .str (.pair (.int .i64) (.pair .str .unit)))) (.pair (.sl false .str) (.pair (.int .i64) (.pair (.int .i64) (.pair (.int .i64) (.pair (.sl false (.int .i64)) (.pair .bool (.pair (.int .i64) .unit))))))))))])
  | .p0 a0 a1 => K (.p7 a1 (0 : Int) a0)
  | .p7 y1 y2 y3 => cond (decide (y2 < ((List.length y3) : Int))) ((laws_markText n y1).bind fun r6 => cond (inB y2 (List.length y3)) (cond (inB y2 (List.length (List.set y3 (0 + (Int.toNat y2)) (r6, (List.getD y3 (0 + (Int.toNat y2)) default).2)))) ((laws_markMatcherS n (List.getD (List.set y3 (0 + (Int.toNat y2)) (r6, (List.getD y3 (0 + (Int.toNat y2)) default).2)) (0 + (Int.toNat y2)) default).2.1 (IntKind.wrap .i64 (y1 + (1 : Int)))).bind fun r7 => cond (inB y2 (List.length (List.set (List.set y3 (0 + (Int.toNat y2)) (r6, (List.getD y3 (0 + (Int.toNat y2)) default).2)) (0 + (Int.toNat y2)) ((List.getD (List.set y3 (0 + (Int.toNat y2)) (r6, (List.getD y3 (0 + (Int.toNat y2)) default).2)) (0 + (Int.toNat y2)) default).1, (r7.2, (List.getD (List.set y3 (0 + (Int.toNat y2)) (r6, (List.getD y3 (0 + (Int.toNat y2)) default).2)) (0 + (Int.toNat y2)) default).2.2))))) ((laws_markStringS n (List.getD (List.set (List.set y3 (0 + (Int.toNat y2)) (r6, (List.getD y3 (0 + (Int.toNat y2)) default).2)) (0 + (Int.toNat y2)) ((List.getD (List.set y3 (0 + (Int.toNat y2)) (r6, (List.getD y3 (0 + (Int.toNat y2)) default).2)) (0 + (Int.toNat y2)) default).1, (r7.2, (List.getD (List.set y3 (0 + (Int.toNat y2)) (r6, (List.getD y3 (0 + (Int.toNat y2)) default).2)) (0 + (Int.toNat y2)) default).2.2))) (0 + (Int.toNat y2)) default).2.2.1 r7.1).bind fun r8 => let mm0 := (List.set (List.set (List.set y3 (0 + (Int.toNat y2)) (r6, (List.getD y3 (0 + (Int.toNat y2)) default).2)) (0 + (Int.toNat y2)) ((List.getD (List.set y3 (0 + (Int.toNat y2)) (r6, (List.getD y3 (0 + (Int.toNat y2)) default).2)) (0 + (Int.toNat y2)) default).1, (r7.2, (List.getD (List.set y3 (0 + (Int.toNat y2)) (r6, (List.getD y3 (0 + (Int.toNat y2)) default).2)) (0 + (Int.toNat y2)) default).2.2))) (0 + (Int.toNat y2)) ((List.getD (List.set (List.set y3 (0 + (Int.toNat y2)) (r6, (List.getD y3 (0 + (Int.toNat y2)) default).2)) (0 + (Int.toNat y2)) ((List.getD (List.set y3 (0 + (Int.toNat y2)) (r6, (List.getD y3 (0 + (Int.toNat y2)) default).2)) (0 + (Int.toNat y2)) default).1, (r7.2, (List.getD (List.set y3 (0 + (Int.toNat y2)) (r6, (List.getD y3 (0 + (Int.toNat y2)) default).2)) (0 + (Int.toNat y2)) default).2.2))) (0 + (Int.toNat y2)) default).1, ((List.getD (List.set (List.set y3 (0 + (Int.toNat y2)) (r6, (List.getD y3 (0 + (Int.toNat y2)) default).2)) (0 + (Int.toNat y2)) ((List.getD (List.set y3 (0 + (Int.toNat y2)) (r6, (List.getD y3 (0 + (Int.toNat y2)) default).2)) (0 + (Int.toNat y2)) default).1, (r7.2, (List.getD (List.set y3 (0 + (Int.toNat y2)) (r6, (List.getD y3 (0 + (Int.toNat y2)) default).2)) (0 + (Int.toNat y2)) default).2.2))) (0 + (Int.toNat y2)) default).2.1, (r8.2, (List.getD (List.set (List.set y3 (0 + (Int.toNat y2)) (r6, (List.getD y3 (0 + (Int.toNat y2)) default).2)) (0 + (Int.toNat y2)) ((List.getD (List.set y3 (0 + (Int.toNat y2)) (r6, (List.getD y3 (0 + (Int.toNat y2)) default).2)) (0 + (Int.toNat y2)) default).1, (r7.2, (List.getD (List.set y3 (0 + (Int.toNat y2)) (r6, (List.getD y3 (0 + (Int.toNat y2)) default).2)) (0 + (Int.toNat y2)) default).2.2))) (0 + (Int.toNat y2)) default).2.2.2)))); cond (inB y2 (List.length mm0)) (cond (inB y2 (List.length (List.set mm0 (0 + (Int.toNat y2)) ((List.getD mm0 (0 + (Int.toNat y2)) default).1, ((List.getD mm0 (0 + (Int.toNat y2)) default).2.1, ((List.getD mm0 (0 + (Int.toNat y2)) default).2.2.1, (r8.1, (List.getD mm0 (0 + (Int.toNat y2)) default).2.2.2.2))))))) (let mm1 := (List.set (List.set mm0 (0 + (Int.toNat y2)) ((List.getD mm0 (0 + (Int.toNat y2)) default).1, ((List.getD mm0 (0 + (Int.toNat y2)) default).2.1, ((List.getD mm0 (0 + (Int.toNat y2)) default).2.2.1, (r8.1, (List.getD mm0 (0 + (Int.toNat y2)) default).2.2.2.2))))) (0 + (Int.toNat y2)) ((List.getD (List.set mm0 (0 + (Int.toNat y2)) ((List.getD mm0 (0 + (Int.toNat y2)) default).1, ((List.getD mm0 (0 + (Int.toNat y2)) default).2.1, ((List.getD mm0 (0 + (Int.toNat y2)) default).2.2.1, (r8.1, (List.getD mm0 (0 + (Int.toNat y2)) default).2.2.2.2))))) (0 + (Int.toNat y2)) default).1, ((List.getD (List.set mm0 (0 + (Int.toNat y2)) ((List.getD mm0 (0 + (Int.toNat y2)) default).1, ((List.getD mm0 (0 + (Int.toNat y2)) default).2.1, ((List.getD mm0 (0 + (Int.toNat y2)) default).2.2.1, (r8.1, (List.getD mm0 (0 + (Int.toNat y2)) default).2.2.2.2))))) (0 + (Int.toNat y2)) default).2.1, ((List.getD (List.set mm0 (0 + (Int.toNat y2)) ((List.getD mm0 (0 + (Int.toNat y2)) default).1, ((List.getD mm0 (0 + (Int.toNat y2)) default).2.1, ((List.getD mm0 (0 + (Int.toNat y2)) default).2.2.1, (r8.1, (List.getD mm0 (0 + (Int.toNat y2)) default).2.2.2.2))))) (0 + (Int.toNat y2)) default).2.2.1, ((List.getD (List.set mm0 (0 + (Int.toNat y2)) ((List.getD mm0 (0 + (Int.toNat y2)) default).1, ((List.getD mm0 (0 + (Int.toNat y2)) default).2.1, ((List.getD mm0 (0 + (Int.toNat y2)) default).2.2.1, (r8.1, (List.getD mm0 (0 + (Int.toNat y2)) default).2.2.2.2))))) (0 + (Int.toNat y2)) default).2.2.2.1, ((IntKind.wrap .i64 (r8.1 + (1 : Int))), (List.getD (List.set mm0 (0 + (Int.toNat y2)) ((List.getD mm0 (0 + (Int.toNat y2)) default).1, ((List.getD mm0 (0 + (Int.toNat y2)) default).2.1, ((List.getD mm0 (0 + (Int.toNat y2)) default).2.2.1, (r8.1, (List.getD mm0 (0 + (Int.toNat y2)) default).2.2.2.2))))) (0 + (Int.toNat y2)) default).2.2.2.2.2)))))); cond (inB y2 (List.length mm1)) (let mm2 := (List.set mm1 (0 + (Int.toNat y2)) ((List.getD mm1 (0 + (Int.toNat y2)) default).1, ((List.getD mm1 (0 + (Int.toNat y2)) default).2.1, ((List.getD mm1 (0 + (Int.toNat y2)) default).2.2.1, ((List.getD mm1 (0 + (Int.toNat y2)) default).2.2.2.1, ((List.getD mm1 (0 + (Int.toNat y2)) default).2.2.2.2.1, ((IntKind.wrap .i64 ((IntKind.wrap .i64 (r8.1 + (1 : Int))) + (1 : Int))), (List.getD mm1 (0 + (Int.toNat y2)) default).2.2.2.2.2.2))))))); cond (inB y2 (List.length mm2)) ((laws_markIntS n (List.getD mm2 (0 + (Int.toNat y2)) default).2.2.2.2.2.2.1 (IntKind.wrap .i64 ((IntKind.wrap .i64 ((IntKind.wrap .i64 (r8.1 + (1 : Int))) + (1 : Int))) + (1 : Int)))).bind fun r9 => let mm3 := (List.set mm2 (0 + (Int.toNat y2)) ((List.getD mm2 (0 + (Int.toNat y2)) default).1, ((List.getD mm2 (0 + (Int.toNat y2)) default).2.1, ((List.getD mm2 (0 + (Int.toNat y2)) default).2.2.1, ((List.getD mm2 (0 + (Int.toNat y2)) default).2.2.2.1, ((List.getD mm2 (0 + (Int.toNat y2)) default).2.2.2.2.1, ((List.getD mm2 (0 + (Int.toNat y2)) default).2.2.2.2.2.1, (r9.2, (List.getD mm2 (0 + (Int.toNat y2)) default).2.2.2.2.2.2.2)))))))); cond (inB y2 (List.length mm3)) (let mm4 := (List.set mm3 (0 + (Int.toNat y2)) ((List.getD mm3 (0 + (Int.toNat y2)) default).1, ((List.getD mm3 (0 + (Int.toNat y2)) default).2.1, ((List.getD mm3 (0 + (Int.toNat y2)) default).2.2.1, ((List.getD mm3 (0 + (Int.toNat y2)) default).2.2.2.1, ((List.getD mm3 (0 + (Int.toNat y2)) default).2.2.2.2.1, ((List.getD mm3 (0 + (Int.toNat y2)) default).2.2.2.2.2.1, ((List.getD mm3 (0 + (Int.toNat y2)) default).2.2.2.2.2.2.1, ((decide ((Int.tmod r9.1 (3 : Int)) = (0 : Int))), (List.getD mm3 (0 + (Int.toNat y2)) default).2.2.2.2.2.2.2.2))))))))); cond (inB y2 (List.length mm4)) (let mm5 := (List.set mm4 (0 + (Int.toNat y2)) ((List.getD mm4 (0 + (Int.toNat y2)) default).1, ((List.getD mm4 (0 + (Int.toNat y2)) default).2.1, ((List.getD mm4 (0 + (Int.toNat y2)) default).2.2.1, ((List.getD mm4 (0 + (Int.toNat y2)) default).2.2.2.1, ((List.getD mm4 (0 + (Int.toNat y2)) default).2.2.2.2.1, ((List.getD mm4 (0 + (Int.toNat y2)) default).2.2.2.2.2.1, ((List.getD mm4 (0 + (Int.toNat y2)) default).2.2.2.2.2.2.1, ((List.getD mm4 (0 + (Int.toNat y2)) default).2.2.2.2.2.2.2.1, ((IntKind.wrap .i64 (r9.1 + (1 : Int))), (List.getD mm4 (0 + (Int.toNat y2)) default).2.2.2.2.2.2.2.2.2)))))))))); K (.p7 (IntKind.wrap .i64 ((IntKind.wrap .i64 (r9.1 + (1 : Int))) + (1 : Int))) (IntKind.wrap .i64 (y2 + (1 : Int))) mm5)) (none)) (none)) (none)) (none)) (none)) (none)) (none)) (none)) (none)) (some (y1, y3))
def laws_markRouteS (n : Nat) (a0 : List ((ByteArray) × ((List ((ByteArray) × ((Int) × ((ByteArray) × (Unit))))) × ((List (ByteArray)) × ((Int) × ((Int) × ((Int) × ((List (Int)) × ((Bool) × ((Int) × (Unit))))))))))) (a1 : Int) : Option (Tup [(.int .i64), (.sl false (.pair .str (.pair (.sl false (.pair .str (.pair (.int .i64) (.pair .str .unit)))) (.pair (.sl false .str) (.pair (.int .i64) (.pair (.int .i64) (.pair (.int .i64) (.pair (.sl false (.int .i64)) (.pair .bool (.pair (.int .i64) .unit))))))))))]) := goRec laws_markRouteS.step n (.p0 a0 a1)
def laws_markRouteS.spec : Ctr := ⟨28, [.s false (.pair .str (.pair (.sl false (.pair .str (.pair (.int .i64) (.pair .str .unit)))) (.pair (.sl false .str) (.pair (.int .i64) (.pair (.int .i64) (.pair (.int .i64) (.pair (.sl false (.int .i64)) (.pair .bool (.pair (.int .i64) .unit))))))))), .v (.int .i64)], [(.int .i64)], [(.sl false (.pair .str (.pair (.sl false (.pair .str (.pair (.int .i64) (.pair .str .unit)))) (.pair (.sl false .str) (.pair (.int .i64) (.pair (.int .i64) (.pair (.int .i64) (.pair (.sl false (.int .i64)) (.pair .bool (.pair (.int .i64) .unit))))))))))], fun n x => laws_markRouteS n x.1 x.2.1⟩
theorem laws_markRouteS.seg_eq (n : Nat) (goto : Nat → St → Option (Tup [(.int .i64), (.sl false (.pair .str (.pair (.sl false (.pair .str (.pair (.int .i64) (.pair .str .unit)))) (.pair (.sl false .str) (.pair (.int .i64) (.pair (.int .i64) (.pair (.int .i64) (.pair (.sl false (.int .i64)) (.pair .bool (.pair (.int .i64) .unit))))))))))])) (y : laws_markRouteS.Pt) : seg ⟨ty, gl, laws_markRouteS.md, calOf laws_markRouteS.T n⟩ laws_markRouteS.F.np laws_markRouteS.F.ks goto (laws_markRouteS.F.fin ⟨ty, gl, laws_markRouteS.md, calOf laws_markRouteS.T 0⟩ [(.int .i64), (.sl false (.pair .str (.pair (.sl false (.pair .str (.pair (.int .i64) (.pair .str .unit)))) (.pair (.sl false .str) (.pair (.int .i64) (.pair (.int .i64) (.pair (.int .i64) (.pair (.sl false (.int .i64)) (.pair .bool (.pair (.int .i64) .unit))))))))))]) laws_markRouteS.F.c (laws_markRouteS.lb y) (laws_markRouteS.st y) = laws_markRouteS.step n (fun z => goto (laws_markRouteS.lb z) (laws_markRouteS.st z)) y := by
  cases y <;> kernel_rfl
theorem laws_markRouteS.text : Text Go.Proofs.Tryz.prog laws_markRouteS.F laws_markRouteS.spec := ⟨⟨Go.Proofs.Tryz.f28, by kernel_rfl, by kernel_rfl, by decide +kernel, by kernel_rfl, by kernel_rfl, of_decide_eq_true (by kernel_rfl)⟩, fun _ => rfl, fun _ => rfl, rfl⟩
theorem laws_markRouteS.ok : CtrOK Go.Proofs.Tryz.prog gl laws_markRouteS.spec :=
  ctr_ok (T := laws_markRouteS.T) (F := laws_markRouteS.F) (lb := laws_markRouteS.lb) (st := laws_markRouteS.st) (step := laws_markRouteS.step) (md := laws_markRouteS.md) tabs laws_markRouteS.text laws_markRouteS.seg_eq (fun n x => ⟨.p0 x.1 x.2.1, rfl, rfl, rfl⟩) (consC laws_markText.ok (consC laws_markMatcherS.ok (consC laws_markStringS.ok (consC laws_markIntS.ok (nilC)))))

/-! loop.example/g00039/laws.markLabelS -/
def laws_markLabelS.T : List Ctr := [laws_markText.spec]
def laws_markLabelS.md : List (Nat × List Md) := []
noncomputable def laws_markLabelS.F : Fun := ⟨(Go.Proofs.Tryz.f29.body).getD .skip, [.s false (.pair .str (.pair .str .unit)), .v (.int .i64)], [(.tmp 4, (.int .i64))], [none], 1, [(7, ⟨[0, 1, 5], [], [], false⟩)]⟩
inductive laws_markLabelS.Pt where
  | p0 (a0 : List ((ByteArray) × ((ByteArray) × (Unit)))) (a1 : Int)
  | p7 (y1 : Int) (y2 : Int) (y3 : List ((ByteArray) × ((ByteArray) × (Unit))))
def laws_markLabelS.lb : laws_markLabelS.Pt → Nat
  | .p0 _ _ => 0
  | .p7 _ _ _ => 7
def laws_markLabelS.st : laws_markLabelS.Pt → St
  | .p0 a0 a1 => enter [.s false (.pair .str (.pair .str .unit)) a0, .v (.int .i64) a1] 1
  | .p7 y1 y2 y3 => ⟨[(0, .hs 0 [] none 0), (1, .im (.int .i64) y1), (5, .im (.int .i64) y2)], [(0, .arr false (.pair .str (.pair .str .unit)) y3 0)], 1⟩
def laws_markLabelS.step (n : Nat) (K : laws_markLabelS.Pt → Option (Tup [(.int .i64), (.sl false (.pair .str (.pair .str .unit)))])) : laws_markLabelS.Pt → Option (Tup [(.int .i64), (.sl false (.pair .str (.pair .str .unit)))])
  | .p0 a0 a1 => K (.p7 a1 (0 : Int) a0)
  | .p7 y1 y2 y3 => cond (decide (y2 < ((List.length y3) : Int))) ((laws_markText n y1).bind fun r6 => cond (inB y2 (List.length y3)) ((laws_markText n (IntKind.wrap .i64 (y1 + (1 : Int)))).bind fun r7 => cond (inB y2 (List.length (List.set y3 (0 + (Int.toNat y2)) (r6, (List.getD y3 (0 + (Int.toNat y2)) default).2)))) (K (.p7 (IntKind.wrap .i64 ((IntKind.wrap .i64 (y1 + (1 : Int))) + (1 : Int))) (IntKind.wrap .i64 (y2 + (1 : Int))) (List.set (List.set y3 (0 + (Int.toNat y2)) (r6, (List.getD y3 (0 + (Int.toNat y2)) default).2)) (0 + (Int.toNat y2)) ((List.getD (List.set y3 (0 + (Int.toNat y2)) (r6, (List.getD y3 (0 + (Int.toNat y2)) default).2)) (0 + (Int.toNat y2)) default).1, (r7, (List.getD (List.set y3 (0 + (Int.toNat y2)) (r6, (List.getD y3 (0 + (Int.toNat y2)) default).2)) (0 + (Int.toNat y2)) default).2.2))))) (none)) (none)) (some (y1, y3))
def laws_markLabelS (n : Nat) (a0 : List ((ByteArray) × ((ByteArray) × (Unit)))) (a1 : Int) : Option (Tup [(.int .i64), (.sl false (.pair .str (.pair .str .unit)))]) := goRec laws_markLabelS.step n (.p0 a0 a1)
def laws_markLabelS.spec : Ctr := ⟨29, [.s false (.pair .str (.pair .str .unit)), .v (.int .i64)], [(.int .i64)], [(.sl false (.pair .str (.pair .str .unit)))], fun n x => laws_markLabelS n x.1 x.2.1⟩
theorem laws_markLabelS.seg_eq (n : Nat) (goto : Nat → St → Option (Tup [(.int .i64), (.sl false (.pair .str (.pair .str .unit)))])) (y : laws_markLabelS.Pt) : seg ⟨ty, gl, laws_markLabelS.md, calOf laws_markLabelS.T n⟩ laws_markLabelS.F.np laws_markLabelS.F.ks goto (laws_markLabelS.F.fin ⟨ty, gl, laws_markLabelS.md, calOf laws_markLabelS.T 0⟩ [(.int .i64), (.sl false (.pair .str (.pair .str .unit)))]) laws_markLabelS.F.c (laws_markLabelS.lb y) (laws_markLabelS.st y) = laws_markLabelS.step n (fun z => goto (laws_markLabelS.lb z) (laws_markLabelS.st z)) y := by
  cases y <;> kernel_rfl
theorem laws_markLabelS.text : Text Go.Proofs.Tryz.prog laws_markLabelS.F laws_markLabelS.spec := ⟨⟨Go.Proofs.Tryz.f29, by kernel_rfl, by kernel_rfl, by decide +kernel, by kernel_rfl, by kernel_rfl, of_decide_eq_true (by kernel_rfl)⟩, fun _ => rfl, fun _ => rfl, rfl⟩
theorem laws_markLabelS.ok : CtrOK Go.Proofs.Tryz.prog gl laws_markLabelS.spec :=
  ctr_ok (T := laws_markLabelS.T) (F := laws_markLabelS.F) (lb := laws_markLabelS.lb) (st := laws_markLabelS.st) (step := laws_markLabelS.step) (md := laws_markLabelS.md) tabs laws_markLabelS.text laws_markLabelS.seg_eq (fun n x => ⟨.p0 x.1 x.2.1, rfl, rfl, rfl⟩) (consC laws_markText.ok (nilC))

/-! loop.example/g00039/laws.heldIntS -/
def laws_heldIntS.T : List Ctr := []
def laws_heldIntS.md : List (Nat × List Md) := []
noncomputable def laws_heldIntS.F : Fun := ⟨(Go.Proofs.Tryz.f31.body).getD .skip, [.v (.sl false (.int .i64)), .v (.int .i64)], [(.tmp 4, (.int .i64))], [], 0, [(7, ⟨[0, 1, 5], [], [], false⟩)]⟩
inductive laws_heldIntS.Pt where
  | p0 (a0 : List (Int)) (a1 : Int)
  | p7 (y1 : List (Int)) (y2 : Int) (y3 : Int)
def laws_heldIntS.lb : laws_heldIntS.Pt → Nat
  | .p0 _ _ => 0
  | .p7 _ _ _ => 7
def laws_heldIntS.st : laws_heldIntS.Pt → St
  | .p0 a0 a1 => enter [.v (.sl false (.int .i64)) a0, .v (.int .i64) a1] 0
  | .p7 y1 y2 y3 => ⟨[(0, .im (.sl false (.int .i64)) y1), (1, .im (.int .i64) y2), (5, .im (.int .i64) y3)], [], 0⟩
def laws_heldIntS.step (n : Nat) (K : laws_heldIntS.Pt → Option (Tup [(.int .i64)])) : laws_heldIntS.Pt → Option (Tup [(.int .i64)])
  | .p0 a0 a1 => K (.p7 a0 a1 (0 : Int))
  | .p7 y1 y2 y3 => cond (decide (y3 < ((List.length y1) : Int))) (cond (inB y3 (List.length y1)) (cond (!(decide ((List.getD y1 (Int.toNat y3) default) = y2))) (some (-(1 : Int))) (K (.p7 y1 (IntKind.wrap .i64 (y2 + (1 : Int))) (IntKind.wrap .i64 (y3 + (1 : Int)))))) (none)) (some y2)
def laws_heldIntS (n : Nat) (a0 : List (Int)) (a1 : Int) : Option (Tup [(.int .i64)]) := goRec laws_heldIntS.step n (.p0 a0 a1)
def laws_heldIntS.spec : Ctr := ⟨31, [.v (.sl false (.int .i64)), .v (.int .i64)], [(.int .i64)], [], fun n x => laws_heldIntS n x.1 x.2.1⟩
theorem laws_heldIntS.seg_eq (n : Nat) (goto : Nat → St → Option (Tup [(.int .i64)])) (y : laws_heldIntS.Pt) : seg ⟨ty, gl, laws_heldIntS.md, calOf laws_heldIntS.T n⟩ laws_heldIntS.F.np laws_heldIntS.F.ks goto (laws_heldIntS.F.fin ⟨ty, gl, laws_heldIntS.md, calOf laws_heldIntS.T 0⟩ [(.int .i64)]) laws_heldIntS.F.c (laws_heldIntS.lb y) (laws_heldIntS.st y) = laws_heldIntS.step n (fun z => goto (laws_heldIntS.lb z) (laws_heldIntS.st z)) y := by
  cases y <;> kernel_rfl
theorem laws_heldIntS.text : Text Go.Proofs.Tryz.prog laws_heldIntS.F laws_heldIntS.spec := ⟨⟨Go.Proofs.Tryz.f31, by kernel_rfl, by kernel_rfl, by decide +kernel, by kernel_rfl, by kernel_rfl, of_decide_eq_true (by kernel_rfl)⟩, fun _ => rfl, fun _ => rfl, rfl⟩
theorem laws_heldIntS.ok : CtrOK Go.Proofs.Tryz.prog gl laws_heldIntS.spec :=
  ctr_ok (T := laws_heldIntS.T) (F := laws_heldIntS.F) (lb := laws_heldIntS.lb) (st := laws_heldIntS.st) (step := laws_heldIntS.step) (md := laws_heldIntS.md) tabs laws_heldIntS.text laws_heldIntS.seg_eq (fun n x => ⟨.p0 x.1 x.2.1, rfl, rfl, rfl⟩) (nilC)

/-! loop.example/g00039/laws.FnExactRoutesFor -/
def laws_FnExactRoutesFor.T : List Ctr := [laws_szRouteS.spec, laws_szLabelS.spec, laws_toRouteS.spec, laws_toLabelS.spec, spec_RoutesFor.spec, impl_RoutesFor.spec, laws_eqIntS.spec, laws_eqRouteS.spec, laws_eqLabelS.spec, laws_markIntS.spec, laws_markRouteS.spec, laws_markLabelS.spec, laws_heldIntS.spec]
def laws_FnExactRoutesFor.md : List (Nat × List Md) := [(28, [.s, .v]), (29, [.s, .v]), (30, [.s, .v])]
noncomputable def laws_FnExactRoutesFor.F : Fun := ⟨(Go.Proofs.Tryz.f6.body).getD .skip, [.v (.sl false (.pair .str (.pair (.sl false (.pair .str (.pair (.int .i64) (.pair .str .unit)))) (.pair (.sl false .str) (.pair (.int .i64) (.pair (.int .i64) (.pair (.int .i64) (.pair (.sl false (.int .i64)) (.pair .bool (.pair (.int .i64) .unit)))))))))), .v (.sl false (.pair .str (.pair .str .unit)))], [(.tmp 4, .bool)], [], 0, [(64, ⟨[0, 1, 6, 9, 63], [(6, (.int .i64)), (9, (.int .i64))], [], false⟩)]⟩
inductive laws_FnExactRoutesFor.Pt where
  | p0 (a0 : List ((ByteArray) × ((List ((ByteArray) × ((Int) × ((ByteArray) × (Unit))))) × ((List (ByteArray)) × ((Int) × ((Int) × ((Int) × ((List (Int)) × ((Bool) × ((Int) × (Unit))))))))))) (a1 : List ((ByteArray) × ((ByteArray) × (Unit))))
  | p64 (y1 : List ((ByteArray) × ((List ((ByteArray) × ((Int) × ((ByteArray) × (Unit))))) × ((List (ByteArray)) × ((Int) × ((Int) × ((Int) × ((List (Int)) × ((Bool) × ((Int) × (Unit))))))))))) (y2 : List ((ByteArray) × ((ByteArray) × (Unit)))) (y3 : Bool) (y4 : List (Int)) (y5 : List (Int))
def laws_FnExactRoutesFor.lb : laws_FnExactRoutesFor.Pt → Nat
  | .p0 _ _ => 0
  | .p64 _ _ _ _ _ => 64
def laws_FnExactRoutesFor.st : laws_FnExactRoutesFor.Pt → St
  | .p0 a0 a1 => enter [.v (.sl false (.pair .str (.pair (.sl false (.pair .str (.pair (.int .i64) (.pair .str .unit)))) (.pair (.sl false .str) (.pair (.int .i64) (.pair (.int .i64) (.pair (.int .i64) (.pair (.sl false (.int .i64)) (.pair .bool (.pair (.int .i64) .unit)))))))))) a0, .v (.sl false (.pair .str (.pair .str .unit))) a1] 0
  | .p64 y1 y2 y3 y4 y5 => ⟨[(0, .im (.sl false (.pair .str (.pair (.sl false (.pair .str (.pair (.int .i64) (.pair .str .unit)))) (.pair (.sl false .str) (.pair (.int .i64) (.pair (.int .i64) (.pair (.int .i64) (.pair (.sl false (.int .i64)) (.pair .bool (.pair (.int .i64) .unit)))))))))) y1), (1, .im (.sl false (.pair .str (.pair .str .unit))) y2), (6, .hs 0 [] none 0), (9, .hs 1 [] none 0), (63, .im .bool y3)], [(0, .arr false (.int .i64) y4 0), (1, .arr false (.int .i64) y5 0)], 2⟩
def laws_FnExactRoutesFor.step (n : Nat) (K : laws_FnExactRoutesFor.Pt → Option (Tup [.bool])) : laws_FnExactRoutesFor.Pt → Option (Tup [.bool])
  | .p0 a0 a1 => (laws_szRouteS n a0 (1048576 : Int)).bind fun (r5 : Int) => cond (decide (r5 < (0 : Int))) (some true) ((laws_szLabelS n a1 r5).bind fun (r6 : Int) => cond (decide (r6 < (0 : Int))) (some true) ((laws_toRouteS n a0).bind fun r7 => (laws_toLabelS n a1).bind fun r8 => (spec_RoutesFor n r7 r8).bind fun r9 => (laws_toRouteS n a0).bind fun r10 => (laws_toLabelS n a1).bind fun r11 => (impl_RoutesFor n r10 r11).bind fun r12 => (laws_eqIntS n r12 r9).bind fun r13 => cond (!r13) (some false) ((laws_toRouteS n a0).bind fun r14 => (laws_eqRouteS n r10 r14).bind fun r15 => cond (!r15) (some false) ((laws_toLabelS n a1).bind fun r16 => (laws_eqLabelS n r11 r16).bind fun r17 => cond (!r17) (some false) ((laws_markRouteS n r10 (1 : Int)).bind fun r18 => (laws_markLabelS n r11 r18.1).bind fun r19 => cond (decide (r19.1 < (0 : Int))) (K (.p64 a0 a1 true r9 r12)) ((laws_eqIntS n r12 r9).bind fun r20 => K (.p64 a0 a1 (!r20) r9 r12)))))))
  | .p64 y1 y2 y3 y4 y5 => cond y3 (some false) ((laws_markIntS n y5 (1 : Int)).bind fun r8 => (laws_heldIntS n r8.2 (1 : Int)).bind fun (r9 : Int) => cond (decide (r9 < (0 : Int))) (some false) (cond (!(decide (r9 = r8.1))) (some false) ((laws_toRouteS n y1).bind fun r10 => (laws_toLabelS n y2).bind fun r11 => (impl_RoutesFor n r10 r11).bind fun r12 => (laws_eqIntS n r12 y4).bind fun r13 => cond (!r13) (some false) ((laws_heldIntS n r8.2 (1 : Int)).bind fun (r14 : Int) => cond (decide (r14 < (0 : Int))) (some false) (cond (!(decide (r14 = r8.1))) (some false) (some true))))))
def laws_FnExactRoutesFor (n : Nat) (a0 : List ((ByteArray) × ((List ((ByteArray) × ((Int) × ((ByteArray) × (Unit))))) × ((List (ByteArray)) × ((Int) × ((Int) × ((Int) × ((List (Int)) × ((Bool) × ((Int) × (Unit))))))))))) (a1 : List ((ByteArray) × ((ByteArray) × (Unit)))) : Option (Tup [.bool]) := goRec laws_FnExactRoutesFor.step n (.p0 a0 a1)
def laws_FnExactRoutesFor.spec : Ctr := ⟨6, [.v (.sl false (.pair .str (.pair (.sl false (.pair .str (.pair (.int .i64) (.pair .str .unit)))) (.pair (.sl false .str) (.pair (.int .i64) (.pair (.int .i64) (.pair (.int .i64) (.pair (.sl false (.int .i64)) (.pair .bool (.pair (.int .i64) .unit)))))))))), .v (.sl false (.pair .str (.pair .str .unit)))], [.bool], [], fun n x => laws_FnExactRoutesFor n x.1 x.2.1⟩
theorem laws_FnExactRoutesFor.seg_eq (n : Nat) (goto : Nat → St → Option (Tup [.bool])) (y : laws_FnExactRoutesFor.Pt) : seg ⟨ty, gl, laws_FnExactRoutesFor.md, calOf laws_FnExactRoutesFor.T n⟩ laws_FnExactRoutesFor.F.np laws_FnExactRoutesFor.F.ks goto (laws_FnExactRoutesFor.F.fin ⟨ty, gl, laws_FnExactRoutesFor.md, calOf laws_FnExactRoutesFor.T 0⟩ [.bool]) laws_FnExactRoutesFor.F.c (laws_FnExactRoutesFor.lb y) (laws_FnExactRoutesFor.st y) = laws_FnExactRoutesFor.step n (fun z => goto (laws_FnExactRoutesFor.lb z) (laws_FnExactRoutesFor.st z)) y := by
  cases y <;> kernel_rfl
theorem laws_FnExactRoutesFor.text : Text Go.Proofs.Tryz.prog laws_FnExactRoutesFor.F laws_FnExactRoutesFor.spec := ⟨⟨Go.Proofs.Tryz.f6, by kernel_rfl, by kernel_rfl, by decide +kernel, by kernel_rfl, by kernel_rfl, of_decide_eq_true (by kernel_rfl)⟩, fun _ => rfl, fun _ => rfl, rfl⟩
theorem laws_FnExactRoutesFor.ok : CtrOK Go.Proofs.Tryz.prog gl laws_FnExactRoutesFor.spec :=
  ctr_ok (T := laws_FnExactRoutesFor.T) (F := laws_FnExactRoutesFor.F) (lb := laws_FnExactRoutesFor.lb) (st := laws_FnExactRoutesFor.st) (step := laws_FnExactRoutesFor.step) (md := laws_FnExactRoutesFor.md) tabs laws_FnExactRoutesFor.text laws_FnExactRoutesFor.seg_eq (fun n x => ⟨.p0 x.1 x.2.1, rfl, rfl, rfl⟩) (consC laws_szRouteS.ok (consC laws_szLabelS.ok (consC laws_toRouteS.ok (consC laws_toLabelS.ok (consC spec_RoutesFor.ok (consC impl_RoutesFor.ok (consC laws_eqIntS.ok (consC laws_eqRouteS.ok (consC laws_eqLabelS.ok (consC laws_markIntS.ok (consC laws_markRouteS.ok (consC laws_markLabelS.ok (consC laws_heldIntS.ok (nilC))))))))))))))
end Go.RF
