/- The functions that the law reaches, each as a Lean function and with its contract, part 2. -/
import Derived.Test.YtlmenmaccoljeaaGreatV1
import Derived.Test.YtlmenmaccoljeaaGreatV2
import Derived.Test.YtlmenmaccoljeaaGreatV3
import Derived.Test.YtlmenmaccoljeaaGreatV4
import Derived.Lib.Bytealg
import Derived.Shelf.Lays
import Derived.Shelf.Small.Strs
import Derived.Lib.Join
import Derived.Shelf.Strings.OnBuilder
import Derived.Lib.Repeat
import Derived.Shelf.Strings.Repeat
import Derived.Test.YtlmenmaccoljeaaGreatProg
import Derived.Test.YtlmenmaccoljeaaGreatFExactShardable1
open Go Go.VM
namespace Go.SH
set_option maxRecDepth 100000
set_option linter.unusedVariables false
set_option linter.unusedSimpArgs false
set_option linter.unusedSectionVars false
variable [Bor]
/-! loop.example/g00039/impl.treeOf -/
def impl_treeOf.T : List Ctr := [impl_treeOf_1.spec]
def impl_treeOf.md : List (Nat × List Md) := [(50, [.v, .p (.int .i64), .q (.sl false cU0), .me 50 1]), (1000050, [.p (.int .i64), .q (.sl false cU0), .me 50 1])]
noncomputable def impl_treeOf.F : Fun := ⟨(Go.Proofs.Tryz.f24.body).getD .skip, [.v (.sl false cU0)], [(.tmp 2, (.pt cU0))], [], 0, [(4, ⟨[1, 13], [], [(1, 0, cU0)], false⟩)]⟩
inductive impl_treeOf.Pt where
  | p0 (a0 : List (tU1))
  | p4 (y1 : Bool) (y2 : List (tU1))
def impl_treeOf.lb : impl_treeOf.Pt → Nat
  | .p0 _ => 0
  | .p4 _ _ => 4
def impl_treeOf.st : impl_treeOf.Pt → St
  | .p0 a0 => enter [.v (.sl false cU0) a0] 0
  | .p4 y1 y2 => ⟨[(1, .po 0 0), (13, .im .bool y1)], [(0, .obj [.im (.sl false cU0) y2])], 1⟩
def impl_treeOf.step (n : Nat) (K : impl_treeOf.Pt → Option (Tup [(.pt cU0)])) : impl_treeOf.Pt → Option (Tup [(.pt cU0)])
  | .p0 a0 => cond (decide (((List.length a0) : Int) = (0 : Int))) (K (.p4 true a0)) (K (.p4 (decide ((60 : Int) < ((List.length a0) : Int))) a0))
  | .p4 y1 y2 => cond y1 (some Tr.nil) ((impl_treeOf_1 n (1 : Int) (0 : Int) y2 ()).bind fun r5 => cond (!(decide (r5.2 = ((List.length y2) : Int)))) (some Tr.nil) (some r5.1))
def impl_treeOf (n : Nat) (a0 : List (tU1)) : Option (Tup [(.pt cU0)]) := goRec impl_treeOf.step n (.p0 a0)
def impl_treeOf.spec : Ctr := ⟨24, [.v (.sl false cU0)], [(.pt cU0)], [], none, fun n x => impl_treeOf n x.1⟩
theorem impl_treeOf.seg_eq : SegEq tyN gl impl_treeOf.F impl_treeOf.md impl_treeOf.T impl_treeOf.spec impl_treeOf.lb impl_treeOf.st impl_treeOf.step := by
  intro n goto y; cases y <;> kernel_rfl
theorem impl_treeOf.text : Text Go.Proofs.Tryz.prog impl_treeOf.F impl_treeOf.spec := textOf Go.Proofs.Tryz.f24
theorem impl_treeOf.ok : CtrOK Go.Proofs.Tryz.prog gl impl_treeOf.spec :=
  ctr_okS tabsN impl_treeOf.text impl_treeOf.seg_eq (fun n x => ⟨.p0 x.1, rfl, rfl, rfl⟩) (consC impl_treeOf_1.ok (nilC))

/-! loop.example/g00039/impl.bySeries$1 -/
def impl_bySeries_1.T : List Ctr := []
def impl_bySeries_1.md : List (Nat × List Md) := []
noncomputable def impl_bySeries_1.F : Fun := ⟨(Go.Proofs.Tryz.f94.body).getD .skip, [.v (.pt cU0)], [(.tmp 2, .bool)], [], 0, []⟩
inductive impl_bySeries_1.Pt where
  | p0 (a0 : Tr (tU1))
def impl_bySeries_1.lb : impl_bySeries_1.Pt → Nat
  | .p0 _ => 0
def impl_bySeries_1.st : impl_bySeries_1.Pt → St
  | .p0 a0 => enter [.v (.pt cU0) a0] 0
def impl_bySeries_1.step (n : Nat) (K : impl_bySeries_1.Pt → Option (Tup [.bool])) : impl_bySeries_1.Pt → Option (Tup [.bool])
  | .p0 a0 => cond (Tr.is a0) (cond (decide ((Tr.val default a0).1 = (3 : Int))) (cond (Tr.is a0) (some (!(seq (Tr.val default a0).2.2.2.1 (⟨#[]⟩ : ByteArray)))) (none)) (some false)) (none)
def impl_bySeries_1 (n : Nat) (a0 : Tr (tU1)) : Option (Tup [.bool]) := goRec impl_bySeries_1.step n (.p0 a0)
def impl_bySeries_1.spec : Ctr := ⟨94, [.v (.pt cU0)], [.bool], [], none, fun n x => impl_bySeries_1 n x.1⟩
theorem impl_bySeries_1.seg_eq : SegEq tyN gl impl_bySeries_1.F impl_bySeries_1.md impl_bySeries_1.T impl_bySeries_1.spec impl_bySeries_1.lb impl_bySeries_1.st impl_bySeries_1.step := by
  intro n goto y; cases y <;> kernel_rfl
theorem impl_bySeries_1.text : Text Go.Proofs.Tryz.prog impl_bySeries_1.F impl_bySeries_1.spec := textOf Go.Proofs.Tryz.f94
theorem impl_bySeries_1.ok : CtrOK Go.Proofs.Tryz.prog gl impl_bySeries_1.spec :=
  ctr_okS tabsN impl_bySeries_1.text impl_bySeries_1.seg_eq (fun n x => ⟨.p0 x.1, rfl, rfl, rfl⟩) (nilC)

/-! loop.example/g00039/impl.constant -/
def impl_constant.T : List Ctr := []
def impl_constant.md : List (Nat × List Md) := []
noncomputable def impl_constant.F : Fun := ⟨(Go.Proofs.Tryz.f76.body).getD .skip, [.v (.pt cU0)], [(.tmp 2, (.int .i64)), (.tmp 3, .bool)], [], 0, [(12, ⟨[0, 46], [], [], false⟩)]⟩
inductive impl_constant.Pt where
  | p0 (a0 : Tr (tU1))
  | p12 (y1 : Tr (tU1)) (y2 : Bool)
def impl_constant.lb : impl_constant.Pt → Nat
  | .p0 _ => 0
  | .p12 _ _ => 12
def impl_constant.st : impl_constant.Pt → St
  | .p0 a0 => enter [.v (.pt cU0) a0] 0
  | .p12 y1 y2 => ⟨[(0, .im (.pt cU0) y1), (46, .im .bool y2)], [], 0⟩
def impl_constant.step (n : Nat) (K : impl_constant.Pt → Option (Tup [(.int .i64), .bool])) : impl_constant.Pt → Option (Tup [(.int .i64), .bool])
  | .p0 a0 => cond (Tr.is a0) (cond (decide ((Tr.val default a0).1 = (1 : Int))) (cond (Tr.is a0) (some ((Tr.val default a0).2.1, true)) (none)) (cond (Tr.is a0) (cond (decide ((Tr.val default a0).1 = (6 : Int))) (cond (Tr.is a0) (cond (inB (0 : Int) (List.length (Tr.kids a0))) (cond (Tr.is (List.getD (Tr.kids a0) (Int.toNat (0 : Int)) default)) (cond (decide ((Tr.val default (List.getD (Tr.kids a0) (Int.toNat (0 : Int)) default)).1 = (1 : Int))) (cond (Tr.is a0) (cond (inB (0 : Int) (List.length (Tr.kids a0))) (cond (Tr.is (List.getD (Tr.kids a0) (Int.toNat (0 : Int)) default)) (K (.p12 a0 (decide ((0 : Int) < (Tr.val default (List.getD (Tr.kids a0) (Int.toNat (0 : Int)) default)).2.1)))) (none)) (none)) (none)) (K (.p12 a0 false))) (none)) (none)) (none)) (K (.p12 a0 false))) (none))) (none)
  | .p12 y1 y2 => cond y2 (cond (Tr.is y1) (cond (inB (0 : Int) (List.length (Tr.kids y1))) (cond (Tr.is (List.getD (Tr.kids y1) (Int.toNat (0 : Int)) default)) (some ((IntKind.wrap .i64 ((0 : Int) - (Tr.val default (List.getD (Tr.kids y1) (Int.toNat (0 : Int)) default)).2.1)), true)) (none)) (none)) (none)) (some ((0 : Int), false))
def impl_constant (n : Nat) (a0 : Tr (tU1)) : Option (Tup [(.int .i64), .bool]) := goRec impl_constant.step n (.p0 a0)
def impl_constant.spec : Ctr := ⟨76, [.v (.pt cU0)], [(.int .i64), .bool], [], none, fun n x => impl_constant n x.1⟩
theorem impl_constant.seg_eq : SegEq tyN gl impl_constant.F impl_constant.md impl_constant.T impl_constant.spec impl_constant.lb impl_constant.st impl_constant.step := by
  intro n goto y; cases y <;> kernel_rfl
theorem impl_constant.text : Text Go.Proofs.Tryz.prog impl_constant.F impl_constant.spec := textOf Go.Proofs.Tryz.f76
theorem impl_constant.ok : CtrOK Go.Proofs.Tryz.prog gl impl_constant.spec :=
  ctr_okS tabsN impl_constant.text impl_constant.seg_eq (fun n x => ⟨.p0 x.1, rfl, rfl, rfl⟩) (nilC)

/-! loop.example/g00039/impl.bySeries -/
def impl_bySeries.T : List Ctr := [impl_bySeries_1.spec, impl_constant.spec]
def impl_bySeries.md : List (Nat × List Md) := []
noncomputable def impl_bySeries.F : Fun := ⟨(Go.Proofs.Tryz.f52.body).getD .skip, [.v (.pt cU0)], [(.tmp 2, .bool)], [], 0, []⟩
inductive impl_bySeries.Pt where
  | p0 (a0 : Tr (tU1))
def impl_bySeries.lb : impl_bySeries.Pt → Nat
  | .p0 _ => 0
def impl_bySeries.st : impl_bySeries.Pt → St
  | .p0 a0 => enter [.v (.pt cU0) a0] 0
def impl_bySeries.step (n : Nat) (self : Ty.Els [.v (.pt cU0)] → Option (Tup [.bool])) (K : impl_bySeries.Pt → Option (Tup [.bool])) : impl_bySeries.Pt → Option (Tup [.bool])
  | .p0 a0 => cond (Tr.is a0) (cond (decide ((Tr.val default a0).1 = (3 : Int))) (cond (Tr.is a0) (some (!(seq (Tr.val default a0).2.2.2.1 (⟨#[]⟩ : ByteArray)))) (none)) (cond (decide ((Tr.val default a0).1 = (6 : Int))) (cond (Tr.is a0) (cond (inB (0 : Int) (List.length (Tr.kids a0))) ((self ((List.getD (Tr.kids a0) (Int.toNat (0 : Int)) default), ())).bind fun r4 => some r4) (none)) (none)) (cond (decide ((Tr.val default a0).1 = (7 : Int))) (cond (Tr.is a0) (cond (inB (0 : Int) (List.length (Tr.kids a0))) ((impl_constant n (List.getD (Tr.kids a0) (Int.toNat (0 : Int)) default)).bind fun r4 => cond (Tr.is a0) (cond (inB (1 : Int) (List.length (Tr.kids a0))) ((impl_constant n (List.getD (Tr.kids a0) (Int.toNat (1 : Int)) default)).bind fun r5 => cond (Tr.is a0) (cond (decide ((Tr.val default a0).2.2.2.2.1 ≤ (11 : Int))) (cond (Tr.is a0) (cond (decide ((Tr.val default a0).2.2.2.2.2.2.2.2.2.2.1 = (0 : Int))) (cond r4.2 (cond (Tr.is a0) (cond (inB (1 : Int) (List.length (Tr.kids a0))) ((self ((List.getD (Tr.kids a0) (Int.toNat (1 : Int)) default), ())).bind fun r6 => cond r6 (some true) (cond r5.2 (cond (Tr.is a0) (cond (inB (0 : Int) (List.length (Tr.kids a0))) ((self ((List.getD (Tr.kids a0) (Int.toNat (0 : Int)) default), ())).bind fun r7 => some r7) (none)) (none)) (some false))) (none)) (none)) (cond r5.2 (cond (Tr.is a0) (cond (inB (0 : Int) (List.length (Tr.kids a0))) ((self ((List.getD (Tr.kids a0) (Int.toNat (0 : Int)) default), ())).bind fun r6 => some r6) (none)) (none)) (some false))) (some false)) (none)) (some false)) (none)) (none)) (none)) (none)) (none)) (cond (decide ((Tr.val default a0).1 = (9 : Int))) (cond (Tr.is a0) (cond (!(decide (((List.length (Tr.kids a0)) : Int) = (1 : Int)))) (some false) (cond (Tr.is a0) (cond (inB (0 : Int) (List.length (Tr.kids a0))) (cond (Tr.is a0) (cond (seq (Tr.val default a0).2.2.2.1 (⟨#[97, 98, 115]⟩ : ByteArray)) ((self ((List.getD (Tr.kids a0) (Int.toNat (0 : Int)) default), ())).bind fun r4 => cond r4 (some true) (cond (Tr.is a0) (cond (seq (Tr.val default a0).2.2.2.1 (⟨#[116, 105, 109, 101, 115, 116, 97, 109, 112]⟩ : ByteArray)) ((impl_bySeries_1 n (List.getD (Tr.kids a0) (Int.toNat (0 : Int)) default)).bind fun r5 => cond r5 (some true) (cond (Tr.is (List.getD (Tr.kids a0) (Int.toNat (0 : Int)) default)) (cond (decide ((Tr.val default (List.getD (Tr.kids a0) (Int.toNat (0 : Int)) default)).1 = (4 : Int))) (cond (Tr.is (List.getD (Tr.kids a0) (Int.toNat (0 : Int)) default)) (cond (inB (0 : Int) (List.length (Tr.kids (List.getD (Tr.kids a0) (Int.toNat (0 : Int)) default)))) ((impl_bySeries_1 n (List.getD (Tr.kids (List.getD (Tr.kids a0) (Int.toNat (0 : Int)) default)) (Int.toNat (0 : Int)) default)).bind fun r6 => some r6) (none)) (none)) (some false)) (none))) (cond (Tr.is (List.getD (Tr.kids a0) (Int.toNat (0 : Int)) default)) (cond (decide ((Tr.val default (List.getD (Tr.kids a0) (Int.toNat (0 : Int)) default)).1 = (4 : Int))) (cond (Tr.is (List.getD (Tr.kids a0) (Int.toNat (0 : Int)) default)) (cond (inB (0 : Int) (List.length (Tr.kids (List.getD (Tr.kids a0) (Int.toNat (0 : Int)) default)))) ((impl_bySeries_1 n (List.getD (Tr.kids (List.getD (Tr.kids a0) (Int.toNat (0 : Int)) default)) (Int.toNat (0 : Int)) default)).bind fun r5 => some r5) (none)) (none)) (some false)) (none))) (none))) (cond (Tr.is a0) (cond (seq (Tr.val default a0).2.2.2.1 (⟨#[116, 105, 109, 101, 115, 116, 97, 109, 112]⟩ : ByteArray)) ((impl_bySeries_1 n (List.getD (Tr.kids a0) (Int.toNat (0 : Int)) default)).bind fun r4 => cond r4 (some true) (cond (Tr.is (List.getD (Tr.kids a0) (Int.toNat (0 : Int)) default)) (cond (decide ((Tr.val default (List.getD (Tr.kids a0) (Int.toNat (0 : Int)) default)).1 = (4 : Int))) (cond (Tr.is (List.getD (Tr.kids a0) (Int.toNat (0 : Int)) default)) (cond (inB (0 : Int) (List.length (Tr.kids (List.getD (Tr.kids a0) (Int.toNat (0 : Int)) default)))) ((impl_bySeries_1 n (List.getD (Tr.kids (List.getD (Tr.kids a0) (Int.toNat (0 : Int)) default)) (Int.toNat (0 : Int)) default)).bind fun r5 => some r5) (none)) (none)) (some false)) (none))) (cond (Tr.is (List.getD (Tr.kids a0) (Int.toNat (0 : Int)) default)) (cond (decide ((Tr.val default (List.getD (Tr.kids a0) (Int.toNat (0 : Int)) default)).1 = (4 : Int))) (cond (Tr.is (List.getD (Tr.kids a0) (Int.toNat (0 : Int)) default)) (cond (inB (0 : Int) (List.length (Tr.kids (List.getD (Tr.kids a0) (Int.toNat (0 : Int)) default)))) ((impl_bySeries_1 n (List.getD (Tr.kids (List.getD (Tr.kids a0) (Int.toNat (0 : Int)) default)) (Int.toNat (0 : Int)) default)).bind fun r4 => some r4) (none)) (none)) (some false)) (none))) (none))) (none)) (none)) (none))) (none)) (some false))))) (none)
def impl_bySeries (n : Nat) (a0 : Tr (tU1)) : Option (Tup [.bool]) := goRec (fun n K => impl_bySeries.step n (fun x => K (.p0 x.1)) K) n (.p0 a0)
def impl_bySeries.spec : Ctr := ⟨52, [.v (.pt cU0)], [.bool], [], none, fun n x => impl_bySeries n x.1⟩
theorem impl_bySeries.seg_eq (n : Nat) (φ : Ty.Els [.v (.pt cU0)] → Option (Tup [.bool])) (goto : Nat → St → Option (Tup [.bool])) (y : impl_bySeries.Pt) : seg ⟨tyN, gl, impl_bySeries.md, calOf (impl_bySeries.spec.at φ :: impl_bySeries.T) n⟩ impl_bySeries.F.np impl_bySeries.F.ks goto (impl_bySeries.F.fin ⟨tyN, gl, impl_bySeries.md, calOf impl_bySeries.T 0⟩ [.bool] none) impl_bySeries.F.c (impl_bySeries.lb y) (impl_bySeries.st y) = impl_bySeries.step n φ (fun z => goto (impl_bySeries.lb z) (impl_bySeries.st z)) y := by
  cases y <;> kernel_rfl
theorem impl_bySeries.text : Text Go.Proofs.Tryz.prog impl_bySeries.F impl_bySeries.spec := textOf Go.Proofs.Tryz.f52
theorem impl_bySeries.ok : CtrOK Go.Proofs.Tryz.prog gl impl_bySeries.spec :=
  ctr_rec (T := impl_bySeries.T) (F := impl_bySeries.F) (lb := impl_bySeries.lb) (st := impl_bySeries.st) (ent := fun x => .p0 x.1) (stp := impl_bySeries.step) (md := impl_bySeries.md) tabsN impl_bySeries.text impl_bySeries.seg_eq (fun _ => ⟨rfl, rfl⟩) (fun _ _ => rfl) (consC impl_bySeries_1.ok (consC impl_constant.ok (nilC)))

/-! strings.Join -/
def strings_Join (n : Nat) (a0 : List ByteArray) (a1 : ByteArray) : Option ByteArray := hold n (cond (decide (a0.length ≤ 140737488355328) && decide ((Lib.join (a0.map (·.data.toList)) a1.data.toList).length ≤ 140737488355328)) (some ⟨(Lib.join (a0.map (·.data.toList)) a1.data.toList).toArray⟩) none)
def strings_Join.spec : Ctr := ⟨95, [.v (.sl false .str), .v .str], [.str], [], none, fun n x => strings_Join n x.1 x.2.1⟩
section
open Go.Proofs
def layJoin_ren : Go.Shelf.Ren := ⟨fun | 156 => 95 | 165 => 136 | 166 => 137 | 169 => 138 | 240 => 156 | 241 => 157 | 276 => 162 | 277 => 163 | n => n, fun | 31 => 44 | 9 => 9 | 3 => 3 | 4 => 4 | 0 => 0 | 20 => 20 | 72 => 146 | 76 => 150 | 70 => 144 | 37 => 108 | 75 => 149 | 127 => 164 | 164 => 177 | 5 => 5 | 80 => 87 | n => n, fun | n => n⟩
theorem layJoin : Go.Proofs.Lays.n156 Tryz.prog layJoin_ren where
  mixed := by kernel_rfl
  f156 := Tryz.func95.trans (congrArg some (by kernel_rfl))
  f165 := Tryz.func136.trans (congrArg some (by kernel_rfl))
  f166 := Tryz.func137.trans (congrArg some (by kernel_rfl))
  f169 := Tryz.func138.trans (congrArg some (by kernel_rfl))
  f240 := Tryz.func156.trans (congrArg some (by kernel_rfl))
  f241 := Tryz.func157.trans (congrArg some (by kernel_rfl))
  f276 := Tryz.func162.trans (congrArg some (by kernel_rfl))
  f277 := Tryz.func163.trans (congrArg some (by kernel_rfl))
  t0 := Tryz.underlying0
  a0 := Tryz.isAgg0
  z0 := Tryz.sizeOf0
  v0 := Tryz.zeroValue0
  t3 := Tryz.underlying3
  a3 := Tryz.isAgg3
  z3 := Tryz.sizeOf3
  v3 := Tryz.zeroValue3
  t4 := Tryz.underlying4
  a4 := Tryz.isAgg4
  z4 := Tryz.sizeOf4
  v4 := Tryz.zeroValue4
  t9 := Tryz.underlying9
  a9 := Tryz.isAgg9
  z9 := Tryz.sizeOf9
  v9 := Tryz.zeroValue9
  t20 := Tryz.underlying20
  a20 := Tryz.isAgg20
  z20 := Tryz.sizeOf20
  v20 := Tryz.zeroValue20
  t31 := Tryz.underlying44
  a31 := Tryz.isAgg44
  z31 := Tryz.sizeOf44
  v31 := Tryz.zeroValue44
  t37 := Tryz.underlying108
  a37 := Tryz.isAgg108
  z37 := Tryz.sizeOf108
  v37 := Tryz.zeroValue108
  t70 := Tryz.underlying144
  a70 := Tryz.isAgg144
  z70 := Tryz.sizeOf144
  v70 := Tryz.zeroValue144
  t72 := Tryz.underlying146
  a72 := Tryz.isAgg146
  z72 := Tryz.sizeOf146
  v72 := Tryz.zeroValue146
  t75 := Tryz.underlying149
  a75 := Tryz.isAgg149
  z75 := Tryz.sizeOf149
  v75 := Tryz.zeroValue149
  t76 := Tryz.underlying150
  a76 := Tryz.isAgg150
  z76 := Tryz.sizeOf150
  v76 := Tryz.zeroValue150
  t127 := Tryz.underlying164
  a127 := Tryz.isAgg164
  z127 := Tryz.sizeOf164
  v127 := Tryz.zeroValue164
  t164 := Tryz.underlying177
  a164 := Tryz.isAgg177
  z164 := Tryz.sizeOf177
  v164 := Tryz.zeroValue177

theorem layJoinX : Builder.Extra Go.Proofs.Tryz.prog layJoin_ren where
  sizeBuilder := by kernel_rfl
  liesBuilder := by kernel_rfl
  t5 := Go.Proofs.Tryz.underlying5
  a5 := Go.Proofs.Tryz.isAgg5
  z5 := Go.Proofs.Tryz.sizeOf5
  v5 := Go.Proofs.Tryz.zeroValue5
  infoByte := by kernel_rfl
  cellsByte := by kernel_rfl
  sizeByte := by kernel_rfl
  neB5 := by decide
end
theorem strs_rep {w : World} {o : Bool} : ∀ {l : List ByteArray} {m : List Value} {G : List Nat}, RepL (Rep w o .str) l m G → m = l.map Value.string ∧ G = []
  | [], m, G, h => ⟨h.1, h.2⟩
  | x :: l, m, G, h => by
    obtain ⟨c, d, H, I, rfl, rfl, h1, h2⟩ := h
    obtain ⟨rfl, rfl⟩ := h1
    obtain ⟨rfl, rfl⟩ := strs_rep h2
    exact ⟨rfl, rfl⟩
theorem strings_Join.ok : CtrOK Go.Proofs.Tryz.prog gl strings_Join.spec := by
  refine fun n => ⟨⟨Go.Proofs.Tryz.f95, by kernel_rfl, by kernel_rfl, by decide +kernel⟩, ?_⟩
  intro inst
  rintro ⟨a0, a1, ⟨⟩⟩ y hy
  have hy := hold_some hy
  cases hb : (decide (a0.length ≤ 140737488355328) && decide ((Lib.join (a0.map (·.data.toList)) a1.data.toList).length ≤ 140737488355328)) with
  | false => rw [hb] at hy; cases hy
  | true =>
    rw [hb] at hy
    obtain rfl := Option.some.inj hy
    simp only [Bool.and_eq_true, decide_eq_true_eq] at hb
    intro w vs S L harg _ hL hSL hG
    change ArgsRep w [Arg.v (.sl false .str) a0, Arg.v .str a1] vs S L at harg
    unfold ArgsRep at harg
    obtain ⟨v0, vr, S1, S2, L1, L2, rfl, rfl, rfl, h1, harg⟩ := harg
    unfold ArgsRep at harg
    obtain ⟨v1, vr, S3, S4, L3, L4, rfl, rfl, rfl, h2, harg⟩ := harg
    unfold ArgsRep at harg
    obtain ⟨rfl, rfl, rfl⟩ := harg
    unfold ArgRep at h1 h2
    obtain ⟨_, ⟨cs, rfl, h1⟩, rfl⟩ := h1
    obtain ⟨_, ⟨cs2, rfl, rfl, rfl⟩, rfl⟩ := h2
    obtain ⟨v, rfl, h1⟩ := h1
    refine Calls.mono (R := fun e w' => e = .returned (.string ⟨(Lib.join (a0.map (·.data.toList)) a1.data.toList).toArray⟩) ∧ Go.RowKit.Below w.heap.size w w') ?_ ?_
    · rcases h1 with (⟨rfl, rfl, rfl⟩ | ⟨a, cap, c, t, fz, p, m, q, G, rfl, hs, he, hl, hh, hc, hp, hr, rfl, how⟩) | ⟨_, _, rfl, rfl, a, cap, rfl⟩
      · refine (Go.Proofs.Any.strings_Join_none layJoin layJoinX none 0 a1 w).mono ?_
        rintro e w' ⟨rfl, rfl⟩
        exact ⟨rfl, Go.RowKit.Below.refl _ _⟩
      · obtain ⟨rfl, rfl⟩ := strs_rep hr
        obtain ⟨ab, ao, asp⟩ := a
        dsimp only at hs hh hp
        subst hs
        have hgt : ab < w.heap.size := (Array.getElem?_eq_some_iff.1 hh).1
        refine Go.Proofs.Any.strings_Join layJoin layJoinX ab ao cap a0 a1 w ?_ hgt hb.1 hl hb.2
        intro j x hj
        have hj' : j < a0.length := (List.getElem?_eq_some_iff.1 hj).1
        simp only [World.cell?, hh, Option.isSome_none, Bool.false_eq_true, if_false]
        rw [← Array.getElem?_toList, hc, List.append_assoc, ← hp, List.getElem?_append_right (by omega), Nat.add_sub_cancel_left, List.getElem?_append_left (by simpa using hj')]
        simp [hj]
      · refine (Go.Proofs.Any.strings_Join_none layJoin layJoinX (some a) cap a1 w).mono ?_
        rintro e w' ⟨rfl, rfl⟩
        exact ⟨rfl, Go.RowKit.Below.refl _ _⟩
    · rintro e w' ⟨rfl, hB⟩
      refine ⟨[.string ⟨(Lib.join (a0.map (·.data.toList)) a1.data.toList).toArray⟩], [], [], rfl, ⟨_, [], [], [], rfl, rfl, rfl, ⟨rfl, rfl⟩, rfl, rfl⟩, ?_, by simp, by simp, hB.os, hB.tape, hB.output, hB.size, fun b hb _ => hB.block b hb⟩
      change OutsRep _ w' [Arg.v (.sl false .str) a0, Arg.v .str a1] _ _ _
      simp only [OutsRep, OutRep]
      exact ⟨_, _, [], [], [], [], rfl, rfl, rfl, ⟨rfl, rfl⟩, _, _, [], [], [], [], rfl, rfl, rfl, ⟨rfl, rfl⟩, rfl, rfl⟩


/-! strings.Repeat -/
def strings_Repeat (n : Nat) (a0 : ByteArray) (a1 : Int) : Option ByteArray := hold n (cond (decide (0 ≤ a1) && decide (a1 ≤ 9223372036854775807) && decide ((a0.size : Int) * a1 ≤ 140737488355328)) (some ⟨(Lib.repeatL a0.data.toList a1.toNat).toArray⟩) none)
def strings_Repeat.spec : Ctr := ⟨96, [.v .str, .v (.int .i64)], [.str], [], none, fun n x => strings_Repeat n x.1 x.2.1⟩
section
open Go.Proofs
def layRepeat_ren : Go.Shelf.Ren := ⟨fun | 105 => 96 | 212 => 139 | 99 => 108 | 165 => 136 | 166 => 137 | 170 => 140 | 169 => 138 | 263 => 158 | 264 => 159 | 206 => 146 | 240 => 156 | 241 => 157 | 276 => 162 | 277 => 163 | n => n, fun | 9 => 9 | 3 => 3 | 4 => 4 | 20 => 20 | 0 => 0 | 46 => 152 | 109 => 153 | 5 => 5 | 72 => 146 | 76 => 150 | 51 => 165 | 146 => 166 | 53 => 168 | 148 => 169 | 70 => 144 | 37 => 108 | 75 => 149 | 127 => 164 | 164 => 177 | 80 => 87 | n => n, fun | n => n⟩
theorem layRepeat : Go.Proofs.Lays.n105 Tryz.prog layRepeat_ren where
  mixed := by kernel_rfl
  f99 := Tryz.func108.trans (congrArg some (by kernel_rfl))
  f105 := Tryz.func96.trans (congrArg some (by kernel_rfl))
  f165 := Tryz.func136.trans (congrArg some (by kernel_rfl))
  f166 := Tryz.func137.trans (congrArg some (by kernel_rfl))
  f169 := Tryz.func138.trans (congrArg some (by kernel_rfl))
  f170 := Tryz.func140.trans (congrArg some (by kernel_rfl))
  f206 := Tryz.func146.trans (congrArg some (by kernel_rfl))
  f212 := Tryz.func139.trans (congrArg some (by kernel_rfl))
  f240 := Tryz.func156.trans (congrArg some (by kernel_rfl))
  f241 := Tryz.func157.trans (congrArg some (by kernel_rfl))
  f263 := Tryz.func158.trans (congrArg some (by kernel_rfl))
  f264 := Tryz.func159.trans (congrArg some (by kernel_rfl))
  f276 := Tryz.func162.trans (congrArg some (by kernel_rfl))
  f277 := Tryz.func163.trans (congrArg some (by kernel_rfl))
  t0 := Tryz.underlying0
  a0 := Tryz.isAgg0
  z0 := Tryz.sizeOf0
  v0 := Tryz.zeroValue0
  t3 := Tryz.underlying3
  a3 := Tryz.isAgg3
  z3 := Tryz.sizeOf3
  v3 := Tryz.zeroValue3
  t4 := Tryz.underlying4
  a4 := Tryz.isAgg4
  z4 := Tryz.sizeOf4
  v4 := Tryz.zeroValue4
  t5 := Tryz.underlying5
  a5 := Tryz.isAgg5
  z5 := Tryz.sizeOf5
  v5 := Tryz.zeroValue5
  t9 := Tryz.underlying9
  a9 := Tryz.isAgg9
  z9 := Tryz.sizeOf9
  v9 := Tryz.zeroValue9
  t20 := Tryz.underlying20
  a20 := Tryz.isAgg20
  z20 := Tryz.sizeOf20
  v20 := Tryz.zeroValue20
  t37 := Tryz.underlying108
  a37 := Tryz.isAgg108
  z37 := Tryz.sizeOf108
  v37 := Tryz.zeroValue108
  t46 := Tryz.underlying152
  a46 := Tryz.isAgg152
  z46 := Tryz.sizeOf152
  v46 := Tryz.zeroValue152
  t51 := Tryz.underlying165
  a51 := Tryz.isAgg165
  z51 := Tryz.sizeOf165
  v51 := Tryz.zeroValue165
  t53 := Tryz.underlying168
  a53 := Tryz.isAgg168
  z53 := Tryz.sizeOf168
  v53 := Tryz.zeroValue168
  t70 := Tryz.underlying144
  a70 := Tryz.isAgg144
  z70 := Tryz.sizeOf144
  v70 := Tryz.zeroValue144
  t72 := Tryz.underlying146
  a72 := Tryz.isAgg146
  z72 := Tryz.sizeOf146
  v72 := Tryz.zeroValue146
  t75 := Tryz.underlying149
  a75 := Tryz.isAgg149
  z75 := Tryz.sizeOf149
  v75 := Tryz.zeroValue149
  t76 := Tryz.underlying150
  a76 := Tryz.isAgg150
  z76 := Tryz.sizeOf150
  v76 := Tryz.zeroValue150
  t109 := Tryz.underlying153
  a109 := Tryz.isAgg153
  z109 := Tryz.sizeOf153
  v109 := Tryz.zeroValue153
  t127 := Tryz.underlying164
  a127 := Tryz.isAgg164
  z127 := Tryz.sizeOf164
  v127 := Tryz.zeroValue164
  t146 := Tryz.underlying166
  a146 := Tryz.isAgg166
  z146 := Tryz.sizeOf166
  v146 := Tryz.zeroValue166
  t148 := Tryz.underlying169
  a148 := Tryz.isAgg169
  z148 := Tryz.sizeOf169
  v148 := Tryz.zeroValue169
  t164 := Tryz.underlying177
  a164 := Tryz.isAgg177
  z164 := Tryz.sizeOf177
  v164 := Tryz.zeroValue177

theorem layRepeatX : Builder.Extra Go.Proofs.Tryz.prog layRepeat_ren where
  sizeBuilder := by kernel_rfl
  liesBuilder := by kernel_rfl
  t5 := Go.Proofs.Tryz.underlying5
  a5 := Go.Proofs.Tryz.isAgg5
  z5 := Go.Proofs.Tryz.sizeOf5
  v5 := Go.Proofs.Tryz.zeroValue5
  infoByte := by kernel_rfl
  cellsByte := by kernel_rfl
  sizeByte := by kernel_rfl
  neB5 := by decide
end
theorem strings_Repeat.ok : CtrOK Go.Proofs.Tryz.prog gl strings_Repeat.spec := by
  refine fun n => ⟨⟨Go.Proofs.Tryz.f96, by kernel_rfl, by kernel_rfl, by decide +kernel⟩, ?_⟩
  intro inst
  rintro ⟨a0, a1, ⟨⟩⟩ y hy
  have hy := hold_some hy
  cases hb : (decide (0 ≤ a1) && decide (a1 ≤ 9223372036854775807) && decide ((a0.size : Int) * a1 ≤ 140737488355328)) with
  | false => rw [hb] at hy; cases hy
  | true =>
    rw [hb] at hy
    obtain rfl := Option.some.inj hy
    simp only [Bool.and_eq_true, decide_eq_true_eq] at hb
    obtain ⟨⟨h0, h1⟩, h2⟩ := hb
    obtain ⟨c, rfl⟩ : ∃ c : Nat, a1 = (c : Int) := ⟨a1.toNat, (Int.toNat_of_nonneg h0).symm⟩
    have h2' : a0.size * c ≤ 140737488355328 := by
      have : ((a0.size * c : Nat) : Int) ≤ ((140737488355328 : Nat) : Int) := by rw [Int.natCast_mul]; exact h2
      exact Int.ofNat_le.1 this
    intro w vs S L harg _ hL hSL hG
    change ArgsRep w [Arg.v .str a0, Arg.v (.int .i64) (c : Int)] vs S L at harg
    unfold ArgsRep at harg
    obtain ⟨v0, vr, S1, S2, L1, L2, rfl, rfl, rfl, h3, harg⟩ := harg
    unfold ArgsRep at harg
    obtain ⟨v1, vr, S3, S4, L3, L4, rfl, rfl, rfl, h4, harg⟩ := harg
    unfold ArgsRep at harg
    obtain ⟨rfl, rfl, rfl⟩ := harg
    unfold ArgRep at h3 h4
    obtain ⟨_, ⟨cs, rfl, rfl, rfl⟩, rfl⟩ := h3
    obtain ⟨_, ⟨cs, rfl, rfl, rfl⟩, rfl⟩ := h4
    refine (Go.Proofs.Any.strings_Repeat layRepeat layRepeatX a0 c w (Int.ofNat_le.1 h1) h2').mono ?_
    rintro e w' ⟨rfl, hB⟩
    refine ⟨[.string ⟨(Lib.repeatL a0.data.toList c).toArray⟩], [], [], rfl, ⟨_, [], [], [], rfl, rfl, rfl, ⟨rfl, rfl⟩, rfl, rfl⟩, ?_, by simp, by simp, hB.os, hB.tape, hB.output, hB.size, fun b hb _ => hB.block b hb⟩
    change OutsRep _ w' [Arg.v .str a0, Arg.v (.int .i64) (c : Int)] _ _ _
    simp only [OutsRep, OutRep]
    exact ⟨_, _, [], [], [], [], rfl, rfl, rfl, ⟨rfl, rfl⟩, _, _, [], [], [], [], rfl, rfl, rfl, ⟨rfl, rfl⟩, rfl, rfl⟩


/-! (*loop.example/g00039/impl.node).kindOf -/
def impl_node__kindOf.T : List Ctr := [strings_Join.spec, strings_Repeat.spec]
def impl_node__kindOf.md : List (Nat × List Md) := [(9000119, [.bl 9 119 119])]
noncomputable def impl_node__kindOf.F : Fun := ⟨(Go.Proofs.Tryz.f53.body).getD .skip, [.v (.pt cU0)], [(.tmp 2, .str)], [], 0, [(9, ⟨[0, 3, 14, 15, 16], [(3, .str), (14, (.pt cU0))], [], false⟩), (127, ⟨[7, 9, 10], [], [], false⟩), (128, ⟨[3, 7, 9, 10, 149, 150], [(3, .str)], [], false⟩), (110, ⟨[134], [], [], false⟩), (85, ⟨[0, 7, 8], [], [], false⟩), (94, ⟨[7, 8, 80], [], [], false⟩), (100, ⟨[101], [], [], false⟩)]⟩
inductive impl_node__kindOf.Pt where
  | p0 (a0 : Tr (tU1))
  | p9 (y1 : Tr (tU1)) (y2 : List (Tr (tU1))) (y3 : Int) (y4 : Int) (y5 : List (ByteArray))
  | p85 (y1 : Tr (tU1)) (y2 : ByteArray) (y3 : Bool)
  | p110 (y1 : Bool)
  | p128 (y1 : ByteArray) (y2 : ByteArray) (y3 : ByteArray) (y4 : ByteArray) (y5 : Bool) (y6 : List (ByteArray))
  | p94 (y1 : ByteArray) (y2 : Bool) (y3 : Bool)
  | p127 (y1 : ByteArray) (y2 : ByteArray) (y3 : ByteArray)
  | p100 (y1 : Bool)
def impl_node__kindOf.lb : impl_node__kindOf.Pt → Nat
  | .p0 _ => 0
  | .p9 _ _ _ _ _ => 9
  | .p85 _ _ _ => 85
  | .p110 _ => 110
  | .p128 _ _ _ _ _ _ => 128
  | .p94 _ _ _ => 94
  | .p127 _ _ _ => 127
  | .p100 _ => 100
def impl_node__kindOf.st : impl_node__kindOf.Pt → St
  | .p0 a0 => enter [.v (.pt cU0) a0] 0
  | .p9 y1 y2 y3 y4 y5 => ⟨[(0, .im (.pt cU0) y1), (3, .hs 0 [] none 0), (14, .im (.sl false (.pt cU0)) y2), (15, .im (.int .i64) y3), (16, .im (.int .i64) y4)], [(0, .arr true .str y5 0)], 1⟩
  | .p85 y1 y2 y3 => ⟨[(0, .im (.pt cU0) y1), (7, .im .str y2), (8, .im .bool y3)], [], 0⟩
  | .p110 y1 => ⟨[(134, .im .bool y1)], [], 0⟩
  | .p128 y1 y2 y3 y4 y5 y6 => ⟨[(3, .hs 0 [] none 0), (7, .im .str y1), (9, .im .str y2), (10, .im .str y3), (149, .im .str y4), (150, .im .bool y5)], [(0, .arr true .str y6 0)], 1⟩
  | .p94 y1 y2 y3 => ⟨[(7, .im .str y1), (8, .im .bool y2), (80, .im .bool y3)], [], 0⟩
  | .p127 y1 y2 y3 => ⟨[(7, .im .str y1), (9, .im .str y2), (10, .im .str y3)], [], 0⟩
  | .p100 y1 => ⟨[(101, .im .bool y1)], [], 0⟩
def impl_node__kindOf.step (n : Nat) (self : Ty.Els [.v (.pt cU0)] → Option (Tup [.str])) (K : impl_node__kindOf.Pt → Option (Tup [.str])) : impl_node__kindOf.Pt → Option (Tup [.str])
  | .p0 a0 => cond (Tr.is a0) (K (.p9 a0 (Tr.kids a0) ((List.length (Tr.kids a0)) : Int) (0 : Int) ([] : List (ByteArray)))) (none)
  | .p9 y1 y2 y3 y4 y5 => cond (decide (y4 < y3)) (cond (inB y4 (List.length y2)) ((self ((List.getD y2 (Int.toNat y4) default), ())).bind fun r8 => cond (seq r8 (⟨#[]⟩ : ByteArray)) (some (⟨#[]⟩ : ByteArray)) (cond (room ((List.length y5) + (List.length [r8]))) (K (.p9 y1 y2 y3 (IntKind.wrap .i64 (y4 + (1 : Int))) (y5 ++ [r8]))) (none))) (none)) ((strings_Join n y5 (⟨#[32]⟩ : ByteArray)).bind fun r8 => cond (Tr.is y1) (cond (decide ((Tr.val default y1).1 = (1 : Int))) (some (⟨#[110, 117, 109, 98, 101, 114]⟩ : ByteArray)) (cond (decide ((Tr.val default y1).1 = (2 : Int))) (some (⟨#[116, 101, 120, 116]⟩ : ByteArray)) (cond (decide ((Tr.val default y1).1 = (3 : Int))) (some (⟨#[118, 101, 99, 116, 111, 114]⟩ : ByteArray)) (cond (decide ((Tr.val default y1).1 = (4 : Int))) (some (⟨#[114, 97, 110, 103, 101]⟩ : ByteArray)) (cond (decide ((Tr.val default y1).1 = (5 : Int))) (cond (seq r8 (⟨#[118, 101, 99, 116, 111, 114]⟩ : ByteArray)) (some (⟨#[114, 97, 110, 103, 101]⟩ : ByteArray)) (cond (seq r8 (⟨#[110, 117, 109, 98, 101, 114]⟩ : ByteArray)) (some (⟨#[114, 97, 110, 103, 101]⟩ : ByteArray)) (some (⟨#[]⟩ : ByteArray)))) (cond (decide ((Tr.val default y1).1 = (6 : Int))) (cond (seq r8 (⟨#[118, 101, 99, 116, 111, 114]⟩ : ByteArray)) (some r8) (cond (seq r8 (⟨#[110, 117, 109, 98, 101, 114]⟩ : ByteArray)) (some r8) (some (⟨#[]⟩ : ByteArray)))) (cond (decide ((Tr.val default y1).1 = (7 : Int))) (cond (Tr.is y1) (cond (decide ((Tr.val default y1).2.2.2.2.1 ≤ (11 : Int))) (cond (Tr.is y1) (K (.p85 y1 r8 (decide ((Tr.val default y1).2.2.2.2.2.2.2.2.2.2.1 = (0 : Int))))) (none)) (K (.p85 y1 r8 false))) (none)) (cond (decide ((Tr.val default y1).1 = (8 : Int))) (cond (Tr.is y1) (cond (decide ((Tr.val default y1).2.2.2.2.1 < (6 : Int))) (cond (seq r8 (⟨#[118, 101, 99, 116, 111, 114]⟩ : ByteArray)) (K (.p110 true)) (cond (Tr.is y1) (cond (decide ((6 : Int) ≤ (Tr.val default y1).2.2.2.2.1)) (K (.p110 (seq r8 (⟨#[110, 117, 109, 98, 101, 114, 32, 118, 101, 99, 116, 111, 114]⟩ : ByteArray)))) (K (.p110 false))) (none))) (cond (Tr.is y1) (cond (decide ((6 : Int) ≤ (Tr.val default y1).2.2.2.2.1)) (K (.p110 (seq r8 (⟨#[110, 117, 109, 98, 101, 114, 32, 118, 101, 99, 116, 111, 114]⟩ : ByteArray)))) (K (.p110 false))) (none))) (none)) (cond (decide ((Tr.val default y1).1 = (9 : Int))) (cond (Tr.is y1) (cond (Tr.is y1) (cond (seq (Tr.val default y1).2.2.2.1 (⟨#[115, 99, 97, 108, 97, 114]⟩ : ByteArray)) (K (.p128 r8 (mget ((((((((((((((((((((((([] : List ((ByteArray) × (ByteArray))) ++ [((⟨#[97, 118, 103, 95, 111, 118, 101, 114]⟩ : ByteArray), (⟨#[114, 97, 110, 103, 101]⟩ : ByteArray))]) ++ [((⟨#[99, 104, 97, 110, 103, 101, 115]⟩ : ByteArray), (⟨#[114, 97, 110, 103, 101]⟩ : ByteArray))]) ++ [((⟨#[99, 111, 117, 110, 116, 95, 111, 118, 101, 114]⟩ : ByteArray), (⟨#[114, 97, 110, 103, 101]⟩ : ByteArray))]) ++ [((⟨#[100, 101, 108, 116, 97]⟩ : ByteArray), (⟨#[114, 97, 110, 103, 101]⟩ : ByteArray))]) ++ [((⟨#[108, 97, 115, 116, 95, 111, 118, 101, 114]⟩ : ByteArray), (⟨#[114, 97, 110, 103, 101]⟩ : ByteArray))]) ++ [((⟨#[109, 97, 120, 95, 111, 118, 101, 114]⟩ : ByteArray), (⟨#[114, 97, 110, 103, 101]⟩ : ByteArray))]) ++ [((⟨#[109, 105, 110, 95, 111, 118, 101, 114]⟩ : ByteArray), (⟨#[114, 97, 110, 103, 101]⟩ : ByteArray))]) ++ [((⟨#[114, 97, 116, 101]⟩ : ByteArray), (⟨#[114, 97, 110, 103, 101]⟩ : ByteArray))]) ++ [((⟨#[114, 101, 115, 101, 116, 115]⟩ : ByteArray), (⟨#[114, 97, 110, 103, 101]⟩ : ByteArray))]) ++ [((⟨#[114, 105, 115, 101]⟩ : ByteArray), (⟨#[114, 97, 110, 103, 101]⟩ : ByteArray))]) ++ [((⟨#[115, 117, 109, 95, 111, 118, 101, 114]⟩ : ByteArray), (⟨#[114, 97, 110, 103, 101]⟩ : ByteArray))]) ++ [((⟨#[97, 98, 115]⟩ : ByteArray), (⟨#[118, 101, 99, 116, 111, 114]⟩ : ByteArray))]) ++ [((⟨#[97, 98, 115, 101, 110, 116]⟩ : ByteArray), (⟨#[118, 101, 99, 116, 111, 114]⟩ : ByteArray))]) ++ [((⟨#[116, 105, 109, 101, 115, 116, 97, 109, 112]⟩ : ByteArray), (⟨#[118, 101, 99, 116, 111, 114]⟩ : ByteArray))]) ++ [((⟨#[99, 108, 97, 109, 112]⟩ : ByteArray), (⟨#[118, 101, 99, 116, 111, 114, 32, 110, 117, 109, 98, 101, 114, 32, 110, 117, 109, 98, 101, 114]⟩ : ByteArray))]) ++ [((⟨#[104, 105, 115, 116, 95, 113, 117, 97, 110, 116, 105, 108, 101]⟩ : ByteArray), (⟨#[110, 117, 109, 98, 101, 114, 32, 118, 101, 99, 116, 111, 114]⟩ : ByteArray))]) ++ [((⟨#[108, 97, 98, 101, 108, 95, 115, 101, 116]⟩ : ByteArray), (⟨#[118, 101, 99, 116, 111, 114, 32, 116, 101, 120, 116, 32, 116, 101, 120, 116, 32, 116, 101, 120, 116, 32, 116, 101, 120, 116]⟩ : ByteArray))]) ++ [((⟨#[112, 114, 101, 100, 105, 99, 116]⟩ : ByteArray), (⟨#[114, 97, 110, 103, 101, 32, 110, 117, 109, 98, 101, 114]⟩ : ByteArray))]) ++ [((⟨#[113, 117, 97, 110, 116, 105, 108, 101, 95, 111, 118, 101, 114]⟩ : ByteArray), (⟨#[110, 117, 109, 98, 101, 114, 32, 114, 97, 110, 103, 101]⟩ : ByteArray))]) ++ [((⟨#[118, 101, 99, 116, 111, 114]⟩ : ByteArray), (⟨#[110, 117, 109, 98, 101, 114]⟩ : ByteArray))]) ++ [((⟨#[115, 99, 97, 108, 97, 114]⟩ : ByteArray), (⟨#[118, 101, 99, 116, 111, 114]⟩ : ByteArray))]) ++ [((⟨#[116, 105, 109, 101]⟩ : ByteArray), (⟨#[]⟩ : ByteArray))]) (Tr.val default y1).2.2.2.1) (⟨#[118, 101, 99, 116, 111, 114]⟩ : ByteArray) (Tr.val default y1).2.2.2.1 (seq (Tr.val default y1).2.2.2.1 (⟨#[115, 99, 97, 108, 97, 114]⟩ : ByteArray)) y5)) (K (.p128 r8 (mget ((((((((((((((((((((((([] : List ((ByteArray) × (ByteArray))) ++ [((⟨#[97, 118, 103, 95, 111, 118, 101, 114]⟩ : ByteArray), (⟨#[114, 97, 110, 103, 101]⟩ : ByteArray))]) ++ [((⟨#[99, 104, 97, 110, 103, 101, 115]⟩ : ByteArray), (⟨#[114, 97, 110, 103, 101]⟩ : ByteArray))]) ++ [((⟨#[99, 111, 117, 110, 116, 95, 111, 118, 101, 114]⟩ : ByteArray), (⟨#[114, 97, 110, 103, 101]⟩ : ByteArray))]) ++ [((⟨#[100, 101, 108, 116, 97]⟩ : ByteArray), (⟨#[114, 97, 110, 103, 101]⟩ : ByteArray))]) ++ [((⟨#[108, 97, 115, 116, 95, 111, 118, 101, 114]⟩ : ByteArray), (⟨#[114, 97, 110, 103, 101]⟩ : ByteArray))]) ++ [((⟨#[109, 97, 120, 95, 111, 118, 101, 114]⟩ : ByteArray), (⟨#[114, 97, 110, 103, 101]⟩ : ByteArray))]) ++ [((⟨#[109, 105, 110, 95, 111, 118, 101, 114]⟩ : ByteArray), (⟨#[114, 97, 110, 103, 101]⟩ : ByteArray))]) ++ [((⟨#[114, 97, 116, 101]⟩ : ByteArray), (⟨#[114, 97, 110, 103, 101]⟩ : ByteArray))]) ++ [((⟨#[114, 101, 115, 101, 116, 115]⟩ : ByteArray), (⟨#[114, 97, 110, 103, 101]⟩ : ByteArray))]) ++ [((⟨#[114, 105, 115, 101]⟩ : ByteArray), (⟨#[114, 97, 110, 103, 101]⟩ : ByteArray))]) ++ [((⟨#[115, 117, 109, 95, 111, 118, 101, 114]⟩ : ByteArray), (⟨#[114, 97, 110, 103, 101]⟩ : ByteArray))]) ++ [((⟨#[97, 98, 115]⟩ : ByteArray), (⟨#[118, 101, 99, 116, 111, 114]⟩ : ByteArray))]) ++ [((⟨#[97, 98, 115, 101, 110, 116]⟩ : ByteArray), (⟨#[118, 101, 99, 116, 111, 114]⟩ : ByteArray))]) ++ [((⟨#[116, 105, 109, 101, 115, 116, 97, 109, 112]⟩ : ByteArray), (⟨#[118, 101, 99, 116, 111, 114]⟩ : ByteArray))]) ++ [((⟨#[99, 108, 97, 109, 112]⟩ : ByteArray), (⟨#[118, 101, 99, 116, 111, 114, 32, 110, 117, 109, 98, 101, 114, 32, 110, 117, 109, 98, 101, 114]⟩ : ByteArray))]) ++ [((⟨#[104, 105, 115, 116, 95, 113, 117, 97, 110, 116, 105, 108, 101]⟩ : ByteArray), (⟨#[110, 117, 109, 98, 101, 114, 32, 118, 101, 99, 116, 111, 114]⟩ : ByteArray))]) ++ [((⟨#[108, 97, 98, 101, 108, 95, 115, 101, 116]⟩ : ByteArray), (⟨#[118, 101, 99, 116, 111, 114, 32, 116, 101, 120, 116, 32, 116, 101, 120, 116, 32, 116, 101, 120, 116, 32, 116, 101, 120, 116]⟩ : ByteArray))]) ++ [((⟨#[112, 114, 101, 100, 105, 99, 116]⟩ : ByteArray), (⟨#[114, 97, 110, 103, 101, 32, 110, 117, 109, 98, 101, 114]⟩ : ByteArray))]) ++ [((⟨#[113, 117, 97, 110, 116, 105, 108, 101, 95, 111, 118, 101, 114]⟩ : ByteArray), (⟨#[110, 117, 109, 98, 101, 114, 32, 114, 97, 110, 103, 101]⟩ : ByteArray))]) ++ [((⟨#[118, 101, 99, 116, 111, 114]⟩ : ByteArray), (⟨#[110, 117, 109, 98, 101, 114]⟩ : ByteArray))]) ++ [((⟨#[115, 99, 97, 108, 97, 114]⟩ : ByteArray), (⟨#[118, 101, 99, 116, 111, 114]⟩ : ByteArray))]) ++ [((⟨#[116, 105, 109, 101]⟩ : ByteArray), (⟨#[]⟩ : ByteArray))]) (Tr.val default y1).2.2.2.1) (⟨#[118, 101, 99, 116, 111, 114]⟩ : ByteArray) (Tr.val default y1).2.2.2.1 (seq (Tr.val default y1).2.2.2.1 (⟨#[116, 105, 109, 101]⟩ : ByteArray)) y5))) (none)) (none)) (some (⟨#[]⟩ : ByteArray))))))))))) (none))
  | .p85 y1 y2 y3 => cond (seq y2 (⟨#[118, 101, 99, 116, 111, 114, 32, 118, 101, 99, 116, 111, 114]⟩ : ByteArray)) (some (⟨#[118, 101, 99, 116, 111, 114]⟩ : ByteArray)) (cond (seq y2 (⟨#[110, 117, 109, 98, 101, 114, 32, 110, 117, 109, 98, 101, 114]⟩ : ByteArray)) (cond y3 (cond (Tr.is y1) (cond (decide ((Tr.val default y1).2.2.2.2.1 < (6 : Int))) (K (.p94 y2 y3 true)) (cond (Tr.is y1) (K (.p94 y2 y3 (Tr.val default y1).2.2.2.2.2.2.2.2.2.1)) (none))) (none)) (K (.p94 y2 y3 false))) (K (.p94 y2 y3 false)))
  | .p110 y1 => cond y1 (some (⟨#[118, 101, 99, 116, 111, 114]⟩ : ByteArray)) (some (⟨#[]⟩ : ByteArray))
  | .p128 y1 y2 y3 y4 y5 y6 => cond y5 (K (.p127 y1 y2 (⟨#[110, 117, 109, 98, 101, 114]⟩ : ByteArray))) (cond (seq y4 (⟨#[108, 97, 98, 101, 108, 95, 106, 111, 105, 110]⟩ : ByteArray)) (cond (decide (((List.length y6) : Int) < (4 : Int))) (some (⟨#[]⟩ : ByteArray)) ((strings_Repeat n (⟨#[32, 116, 101, 120, 116]⟩ : ByteArray) (IntKind.wrap .i64 (((List.length y6) : Int) - (1 : Int)))).bind fun r9 => cond (room ((ByteArray.size (⟨#[118, 101, 99, 116, 111, 114]⟩ : ByteArray)) + (ByteArray.size r9))) (K (.p127 y1 ((⟨#[118, 101, 99, 116, 111, 114]⟩ : ByteArray) ++ r9) y3)) (none))) (K (.p127 y1 y2 y3)))
  | .p94 y1 y2 y3 => cond y3 (some (⟨#[110, 117, 109, 98, 101, 114]⟩ : ByteArray)) (cond (seq y1 (⟨#[110, 117, 109, 98, 101, 114, 32, 118, 101, 99, 116, 111, 114]⟩ : ByteArray)) (K (.p100 y2)) (cond (seq y1 (⟨#[118, 101, 99, 116, 111, 114, 32, 110, 117, 109, 98, 101, 114]⟩ : ByteArray)) (K (.p100 y2)) (K (.p100 false))))
  | .p127 y1 y2 y3 => cond (seq y1 y2) (some y3) (some (⟨#[]⟩ : ByteArray))
  | .p100 y1 => cond y1 (some (⟨#[118, 101, 99, 116, 111, 114]⟩ : ByteArray)) (some (⟨#[]⟩ : ByteArray))
def impl_node__kindOf (n : Nat) (a0 : Tr (tU1)) : Option (Tup [.str]) := goRec (fun n K => impl_node__kindOf.step n (fun x => K (.p0 x.1)) K) n (.p0 a0)
def impl_node__kindOf.spec : Ctr := ⟨53, [.v (.pt cU0)], [.str], [], none, fun n x => impl_node__kindOf n x.1⟩
theorem impl_node__kindOf.seg_eq (n : Nat) (φ : Ty.Els [.v (.pt cU0)] → Option (Tup [.str])) (goto : Nat → St → Option (Tup [.str])) (y : impl_node__kindOf.Pt) : seg ⟨tyN, gl, impl_node__kindOf.md, calOf (impl_node__kindOf.spec.at φ :: impl_node__kindOf.T) n⟩ impl_node__kindOf.F.np impl_node__kindOf.F.ks goto (impl_node__kindOf.F.fin ⟨tyN, gl, impl_node__kindOf.md, calOf impl_node__kindOf.T 0⟩ [.str] none) impl_node__kindOf.F.c (impl_node__kindOf.lb y) (impl_node__kindOf.st y) = impl_node__kindOf.step n φ (fun z => goto (impl_node__kindOf.lb z) (impl_node__kindOf.st z)) y := by
  cases y <;> kernel_rfl
theorem impl_node__kindOf.text : Text Go.Proofs.Tryz.prog impl_node__kindOf.F impl_node__kindOf.spec := textOf Go.Proofs.Tryz.f53
theorem impl_node__kindOf.ok : CtrOK Go.Proofs.Tryz.prog gl impl_node__kindOf.spec :=
  ctr_rec (T := impl_node__kindOf.T) (F := impl_node__kindOf.F) (lb := impl_node__kindOf.lb) (st := impl_node__kindOf.st) (ent := fun x => .p0 x.1) (stp := impl_node__kindOf.step) (md := impl_node__kindOf.md) tabsN impl_node__kindOf.text impl_node__kindOf.seg_eq (fun _ => ⟨rfl, rfl⟩) (fun _ _ => rfl) (consC strings_Join.ok (consC strings_Repeat.ok (nilC))) (blsMap [119] (by kernel_rfl) (by kernel_rfl))

/-! loop.example/g00039/impl.shardable -/
def impl_shardable.T : List Ctr := [impl_bySeries.spec, impl_node__kindOf.spec]
def impl_shardable.md : List (Nat × List Md) := []
noncomputable def impl_shardable.F : Fun := ⟨(Go.Proofs.Tryz.f25.body).getD .skip, [.v (.pt cU0)], [(.tmp 2, .bool)], [], 0, []⟩
inductive impl_shardable.Pt where
  | p0 (a0 : Tr (tU1))
def impl_shardable.lb : impl_shardable.Pt → Nat
  | .p0 _ => 0
def impl_shardable.st : impl_shardable.Pt → St
  | .p0 a0 => enter [.v (.pt cU0) a0] 0
def impl_shardable.step (n : Nat) (K : impl_shardable.Pt → Option (Tup [.bool])) : impl_shardable.Pt → Option (Tup [.bool])
  | .p0 a0 => cond (Tr.is a0) (cond (decide ((Tr.val default a0).1 = (8 : Int))) (cond (Tr.is a0) (cond (decide ((Tr.val default a0).2.2.2.2.1 = (1 : Int))) (cond (Tr.is a0) (cond (inB (0 : Int) (List.length (Tr.kids a0))) ((impl_bySeries n (List.getD (Tr.kids a0) (Int.toNat (0 : Int)) default)).bind fun r4 => cond r4 ((impl_node__kindOf n a0).bind fun r5 => some (!(seq r5 (⟨#[]⟩ : ByteArray)))) (some false)) (none)) (none)) (cond (Tr.is a0) (cond (decide ((Tr.val default a0).2.2.2.2.1 = (2 : Int))) (cond (Tr.is a0) (cond (inB (0 : Int) (List.length (Tr.kids a0))) ((impl_bySeries n (List.getD (Tr.kids a0) (Int.toNat (0 : Int)) default)).bind fun r4 => cond r4 ((impl_node__kindOf n a0).bind fun r5 => some (!(seq r5 (⟨#[]⟩ : ByteArray)))) (some false)) (none)) (none)) (cond (Tr.is a0) (cond (decide ((Tr.val default a0).2.2.2.2.1 = (3 : Int))) (cond (Tr.is a0) (cond (inB (0 : Int) (List.length (Tr.kids a0))) ((impl_bySeries n (List.getD (Tr.kids a0) (Int.toNat (0 : Int)) default)).bind fun r4 => cond r4 ((impl_node__kindOf n a0).bind fun r5 => some (!(seq r5 (⟨#[]⟩ : ByteArray)))) (some false)) (none)) (none)) (cond (Tr.is a0) (cond (decide ((Tr.val default a0).2.2.2.2.1 = (5 : Int))) (cond (Tr.is a0) (cond (inB (0 : Int) (List.length (Tr.kids a0))) ((impl_bySeries n (List.getD (Tr.kids a0) (Int.toNat (0 : Int)) default)).bind fun r4 => cond r4 ((impl_node__kindOf n a0).bind fun r5 => some (!(seq r5 (⟨#[]⟩ : ByteArray)))) (some false)) (none)) (none)) (some false)) (none))) (none))) (none))) (none)) (some false)) (none)
def impl_shardable (n : Nat) (a0 : Tr (tU1)) : Option (Tup [.bool]) := goRec impl_shardable.step n (.p0 a0)
def impl_shardable.spec : Ctr := ⟨25, [.v (.pt cU0)], [.bool], [], none, fun n x => impl_shardable n x.1⟩
theorem impl_shardable.seg_eq : SegEq tyN gl impl_shardable.F impl_shardable.md impl_shardable.T impl_shardable.spec impl_shardable.lb impl_shardable.st impl_shardable.step := by
  intro n goto y; cases y <;> kernel_rfl
theorem impl_shardable.text : Text Go.Proofs.Tryz.prog impl_shardable.F impl_shardable.spec := textOf Go.Proofs.Tryz.f25
theorem impl_shardable.ok : CtrOK Go.Proofs.Tryz.prog gl impl_shardable.spec :=
  ctr_okS tabsN impl_shardable.text impl_shardable.seg_eq (fun n x => ⟨.p0 x.1, rfl, rfl, rfl⟩) (consC impl_bySeries.ok (consC impl_node__kindOf.ok (nilC)))

/-! loop.example/g00039/impl.Shardable -/
def impl_Shardable.T : List Ctr := [impl_treeOf.spec, impl_shardable.spec]
def impl_Shardable.md : List (Nat × List Md) := []
noncomputable def impl_Shardable.F : Fun := ⟨(Go.Proofs.Tryz.f9.body).getD .skip, [.v (.sl false cU0)], [(.tmp 2, .bool)], [], 0, []⟩
inductive impl_Shardable.Pt where
  | p0 (a0 : List (tU1))
def impl_Shardable.lb : impl_Shardable.Pt → Nat
  | .p0 _ => 0
def impl_Shardable.st : impl_Shardable.Pt → St
  | .p0 a0 => enter [.v (.sl false cU0) a0] 0
def impl_Shardable.step (n : Nat) (K : impl_Shardable.Pt → Option (Tup [.bool])) : impl_Shardable.Pt → Option (Tup [.bool])
  | .p0 a0 => (impl_treeOf n a0).bind fun r4 => cond (Tr.is r4) ((impl_shardable n r4).bind fun r5 => some r5) (some false)
def impl_Shardable (n : Nat) (a0 : List (tU1)) : Option (Tup [.bool]) := goRec impl_Shardable.step n (.p0 a0)
def impl_Shardable.spec : Ctr := ⟨9, [.v (.sl false cU0)], [.bool], [], none, fun n x => impl_Shardable n x.1⟩
theorem impl_Shardable.seg_eq : SegEq tyN gl impl_Shardable.F impl_Shardable.md impl_Shardable.T impl_Shardable.spec impl_Shardable.lb impl_Shardable.st impl_Shardable.step := by
  intro n goto y; cases y <;> kernel_rfl
theorem impl_Shardable.text : Text Go.Proofs.Tryz.prog impl_Shardable.F impl_Shardable.spec := textOf Go.Proofs.Tryz.f9
theorem impl_Shardable.ok : CtrOK Go.Proofs.Tryz.prog gl impl_Shardable.spec :=
  ctr_okS tabsN impl_Shardable.text impl_Shardable.seg_eq (fun n x => ⟨.p0 x.1, rfl, rfl, rfl⟩) (consC impl_treeOf.ok (consC impl_shardable.ok (nilC)))

/-! loop.example/g00039/laws.eqMatcher -/
def laws_eqMatcher.T : List Ctr := []
def laws_eqMatcher.md : List (Nat × List Md) := []
noncomputable def laws_eqMatcher.F : Fun := ⟨(Go.Proofs.Tryz.f97.body).getD .skip, [.v cU3, .v cU3], [(.tmp 4, .bool)], [], 0, []⟩
inductive laws_eqMatcher.Pt where
  | p0 (a0 : tU4) (a1 : tU4)
def laws_eqMatcher.lb : laws_eqMatcher.Pt → Nat
  | .p0 _ _ => 0
def laws_eqMatcher.st : laws_eqMatcher.Pt → St
  | .p0 a0 a1 => enter [.v cU3 a0, .v cU3 a1] 0
def laws_eqMatcher.step (n : Nat) (K : laws_eqMatcher.Pt → Option (Tup [.bool])) : laws_eqMatcher.Pt → Option (Tup [.bool])
  | .p0 a0 a1 => cond (!(seq a0.1 a1.1)) (some false) (cond (!(decide (a0.2.1 = a1.2.1))) (some false) (cond (!(seq a0.2.2.1 a1.2.2.1)) (some false) (some true)))
def laws_eqMatcher (n : Nat) (a0 : tU4) (a1 : tU4) : Option (Tup [.bool]) := goRec laws_eqMatcher.step n (.p0 a0 a1)
def laws_eqMatcher.spec : Ctr := ⟨97, [.v cU3, .v cU3], [.bool], [], none, fun n x => laws_eqMatcher n x.1 x.2.1⟩
theorem laws_eqMatcher.seg_eq : SegEq ty gl laws_eqMatcher.F laws_eqMatcher.md laws_eqMatcher.T laws_eqMatcher.spec laws_eqMatcher.lb laws_eqMatcher.st laws_eqMatcher.step := by
  intro n goto y; cases y <;> kernel_rfl
theorem laws_eqMatcher.text : Text Go.Proofs.Tryz.prog laws_eqMatcher.F laws_eqMatcher.spec := textOf Go.Proofs.Tryz.f97
theorem laws_eqMatcher.ok : CtrOK Go.Proofs.Tryz.prog gl laws_eqMatcher.spec :=
  ctr_okS tabs laws_eqMatcher.text laws_eqMatcher.seg_eq (fun n x => ⟨.p0 x.1 x.2.1, rfl, rfl, rfl⟩) (nilC)

/-! loop.example/g00039/laws.eqMatcherS -/
def laws_eqMatcherS.T : List Ctr := [laws_eqMatcher.spec]
def laws_eqMatcherS.md : List (Nat × List Md) := []
noncomputable def laws_eqMatcherS.F : Fun := ⟨(Go.Proofs.Tryz.f54.body).getD .skip, [.v (.sl false cU3), .v (.sl false cU3)], [(.tmp 4, .bool)], [], 0, [(15, ⟨[0, 1, 5], [], [], false⟩)]⟩
inductive laws_eqMatcherS.Pt where
  | p0 (a0 : List (tU4)) (a1 : List (tU4))
  | p15 (y1 : List (tU4)) (y2 : List (tU4)) (y3 : Int)
def laws_eqMatcherS.lb : laws_eqMatcherS.Pt → Nat
  | .p0 _ _ => 0
  | .p15 _ _ _ => 15
def laws_eqMatcherS.st : laws_eqMatcherS.Pt → St
  | .p0 a0 a1 => enter [.v (.sl false cU3) a0, .v (.sl false cU3) a1] 0
  | .p15 y1 y2 y3 => ⟨[(0, .im (.sl false cU3) y1), (1, .im (.sl false cU3) y2), (5, .im (.int .i64) y3)], [], 0⟩
def laws_eqMatcherS.step (n : Nat) (K : laws_eqMatcherS.Pt → Option (Tup [.bool])) : laws_eqMatcherS.Pt → Option (Tup [.bool])
  | .p0 a0 a1 => cond (!(decide (((List.length a0) : Int) = ((List.length a1) : Int)))) (some false) (K (.p15 a0 a1 (0 : Int)))
  | .p15 y1 y2 y3 => cond (decide (y3 < ((List.length y1) : Int))) (cond (inB y3 (List.length y1)) (cond (inB y3 (List.length y2)) ((laws_eqMatcher n (List.getD y1 (Int.toNat y3) default) (List.getD y2 (Int.toNat y3) default)).bind fun r6 => cond (!r6) (some false) (K (.p15 y1 y2 (IntKind.wrap .i64 (y3 + (1 : Int)))))) (none)) (none)) (some true)
def laws_eqMatcherS (n : Nat) (a0 : List (tU4)) (a1 : List (tU4)) : Option (Tup [.bool]) := goRec laws_eqMatcherS.step n (.p0 a0 a1)
def laws_eqMatcherS.spec : Ctr := ⟨54, [.v (.sl false cU3), .v (.sl false cU3)], [.bool], [], none, fun n x => laws_eqMatcherS n x.1 x.2.1⟩
theorem laws_eqMatcherS.seg_eq : SegEq ty gl laws_eqMatcherS.F laws_eqMatcherS.md laws_eqMatcherS.T laws_eqMatcherS.spec laws_eqMatcherS.lb laws_eqMatcherS.st laws_eqMatcherS.step := by
  intro n goto y; cases y <;> kernel_rfl
theorem laws_eqMatcherS.text : Text Go.Proofs.Tryz.prog laws_eqMatcherS.F laws_eqMatcherS.spec := textOf Go.Proofs.Tryz.f54
theorem laws_eqMatcherS.ok : CtrOK Go.Proofs.Tryz.prog gl laws_eqMatcherS.spec :=
  ctr_okS tabs laws_eqMatcherS.text laws_eqMatcherS.seg_eq (fun n x => ⟨.p0 x.1 x.2.1, rfl, rfl, rfl⟩) (consC laws_eqMatcher.ok (nilC))

/-! loop.example/g00039/laws.eqStringS -/
def laws_eqStringS.T : List Ctr := []
def laws_eqStringS.md : List (Nat × List Md) := []
noncomputable def laws_eqStringS.F : Fun := ⟨(Go.Proofs.Tryz.f55.body).getD .skip, [.v (.sl false .str), .v (.sl false .str)], [(.tmp 4, .bool)], [], 0, [(15, ⟨[0, 1, 5], [], [], false⟩)]⟩
inductive laws_eqStringS.Pt where
  | p0 (a0 : List (ByteArray)) (a1 : List (ByteArray))
  | p15 (y1 : List (ByteArray)) (y2 : List (ByteArray)) (y3 : Int)
def laws_eqStringS.lb : laws_eqStringS.Pt → Nat
  | .p0 _ _ => 0
  | .p15 _ _ _ => 15
def laws_eqStringS.st : laws_eqStringS.Pt → St
  | .p0 a0 a1 => enter [.v (.sl false .str) a0, .v (.sl false .str) a1] 0
  | .p15 y1 y2 y3 => ⟨[(0, .im (.sl false .str) y1), (1, .im (.sl false .str) y2), (5, .im (.int .i64) y3)], [], 0⟩
def laws_eqStringS.step (n : Nat) (K : laws_eqStringS.Pt → Option (Tup [.bool])) : laws_eqStringS.Pt → Option (Tup [.bool])
  | .p0 a0 a1 => cond (!(decide (((List.length a0) : Int) = ((List.length a1) : Int)))) (some false) (K (.p15 a0 a1 (0 : Int)))
  | .p15 y1 y2 y3 => cond (decide (y3 < ((List.length y1) : Int))) (cond (inB y3 (List.length y1)) (cond (inB y3 (List.length y2)) (cond (!(seq (List.getD y1 (Int.toNat y3) default) (List.getD y2 (Int.toNat y3) default))) (some false) (K (.p15 y1 y2 (IntKind.wrap .i64 (y3 + (1 : Int)))))) (none)) (none)) (some true)
def laws_eqStringS (n : Nat) (a0 : List (ByteArray)) (a1 : List (ByteArray)) : Option (Tup [.bool]) := goRec laws_eqStringS.step n (.p0 a0 a1)
def laws_eqStringS.spec : Ctr := ⟨55, [.v (.sl false .str), .v (.sl false .str)], [.bool], [], none, fun n x => laws_eqStringS n x.1 x.2.1⟩
theorem laws_eqStringS.seg_eq : SegEq ty gl laws_eqStringS.F laws_eqStringS.md laws_eqStringS.T laws_eqStringS.spec laws_eqStringS.lb laws_eqStringS.st laws_eqStringS.step := by
  intro n goto y; cases y <;> kernel_rfl
theorem laws_eqStringS.text : Text Go.Proofs.Tryz.prog laws_eqStringS.F laws_eqStringS.spec := textOf Go.Proofs.Tryz.f55
theorem laws_eqStringS.ok : CtrOK Go.Proofs.Tryz.prog gl laws_eqStringS.spec :=
  ctr_okS tabs laws_eqStringS.text laws_eqStringS.seg_eq (fun n x => ⟨.p0 x.1 x.2.1, rfl, rfl, rfl⟩) (nilC)

/-! loop.example/g00039/laws.eqQuery -/
def laws_eqQuery.T : List Ctr := [laws_eqMatcherS.spec, laws_eqStringS.spec]
def laws_eqQuery.md : List (Nat × List Md) := []
noncomputable def laws_eqQuery.F : Fun := ⟨(Go.Proofs.Tryz.f26.body).getD .skip, [.v cU2, .v cU2], [(.tmp 4, .bool)], [], 0, []⟩
inductive laws_eqQuery.Pt where
  | p0 (a0 : tU1) (a1 : tU1)
def laws_eqQuery.lb : laws_eqQuery.Pt → Nat
  | .p0 _ _ => 0
def laws_eqQuery.st : laws_eqQuery.Pt → St
  | .p0 a0 a1 => enter [.v cU2 a0, .v cU2 a1] 0
def laws_eqQuery.step (n : Nat) (K : laws_eqQuery.Pt → Option (Tup [.bool])) : laws_eqQuery.Pt → Option (Tup [.bool])
  | .p0 a0 a1 => cond (!(decide (a0.1 = a1.1))) (some false) (cond (!(decide (a0.2.1 = a1.2.1))) (some false) (cond (!(decide (a0.2.2.1 = a1.2.2.1))) (some false) (cond (!(seq a0.2.2.2.1 a1.2.2.2.1)) (some false) (cond (!(decide (a0.2.2.2.2.1 = a1.2.2.2.2.1))) (some false) ((laws_eqMatcherS n a0.2.2.2.2.2.1 a1.2.2.2.2.2.1).bind fun r5 => cond (!r5) (some false) (cond (!(decide (a0.2.2.2.2.2.2.1 = a1.2.2.2.2.2.2.1))) (some false) (cond (a0.2.2.2.2.2.2.2.1 != a1.2.2.2.2.2.2.2.1) (some false) (cond (!(decide (a0.2.2.2.2.2.2.2.2.1 = a1.2.2.2.2.2.2.2.2.1))) (some false) (cond (a0.2.2.2.2.2.2.2.2.2.1 != a1.2.2.2.2.2.2.2.2.2.1) (some false) (cond (!(decide (a0.2.2.2.2.2.2.2.2.2.2.1 = a1.2.2.2.2.2.2.2.2.2.2.1))) (some false) ((laws_eqStringS n a0.2.2.2.2.2.2.2.2.2.2.2.1 a1.2.2.2.2.2.2.2.2.2.2.2.1).bind fun r6 => cond (!r6) (some false) (cond (!(decide (a0.2.2.2.2.2.2.2.2.2.2.2.2.1 = a1.2.2.2.2.2.2.2.2.2.2.2.2.1))) (some false) ((laws_eqStringS n a0.2.2.2.2.2.2.2.2.2.2.2.2.2.1 a1.2.2.2.2.2.2.2.2.2.2.2.2.2.1).bind fun r7 => cond (!r7) (some false) (cond (!(decide (a0.2.2.2.2.2.2.2.2.2.2.2.2.2.2.1 = a1.2.2.2.2.2.2.2.2.2.2.2.2.2.2.1))) (some false) (some true)))))))))))))))
def laws_eqQuery (n : Nat) (a0 : tU1) (a1 : tU1) : Option (Tup [.bool]) := goRec laws_eqQuery.step n (.p0 a0 a1)
def laws_eqQuery.spec : Ctr := ⟨26, [.v cU2, .v cU2], [.bool], [], none, fun n x => laws_eqQuery n x.1 x.2.1⟩
theorem laws_eqQuery.seg_eq : SegEq ty gl laws_eqQuery.F laws_eqQuery.md laws_eqQuery.T laws_eqQuery.spec laws_eqQuery.lb laws_eqQuery.st laws_eqQuery.step := by
  intro n goto y; cases y <;> kernel_rfl
theorem laws_eqQuery.text : Text Go.Proofs.Tryz.prog laws_eqQuery.F laws_eqQuery.spec := textOf Go.Proofs.Tryz.f26
theorem laws_eqQuery.ok : CtrOK Go.Proofs.Tryz.prog gl laws_eqQuery.spec :=
  ctr_okS tabs laws_eqQuery.text laws_eqQuery.seg_eq (fun n x => ⟨.p0 x.1 x.2.1, rfl, rfl, rfl⟩) (consC laws_eqMatcherS.ok (consC laws_eqStringS.ok (nilC)))

/-! loop.example/g00039/laws.eqQueryS -/
def laws_eqQueryS.T : List Ctr := [laws_eqQuery.spec]
def laws_eqQueryS.md : List (Nat × List Md) := []
noncomputable def laws_eqQueryS.F : Fun := ⟨(Go.Proofs.Tryz.f10.body).getD .skip, [.v (.sl false cU2), .v (.sl false cU2)], [(.tmp 4, .bool)], [], 0, [(15, ⟨[0, 1, 5], [], [], false⟩)]⟩
inductive laws_eqQueryS.Pt where
  | p0 (a0 : List (tU1)) (a1 : List (tU1))
  | p15 (y1 : List (tU1)) (y2 : List (tU1)) (y3 : Int)
def laws_eqQueryS.lb : laws_eqQueryS.Pt → Nat
  | .p0 _ _ => 0
  | .p15 _ _ _ => 15
def laws_eqQueryS.st : laws_eqQueryS.Pt → St
  | .p0 a0 a1 => enter [.v (.sl false cU2) a0, .v (.sl false cU2) a1] 0
  | .p15 y1 y2 y3 => ⟨[(0, .im (.sl false cU2) y1), (1, .im (.sl false cU2) y2), (5, .im (.int .i64) y3)], [], 0⟩
def laws_eqQueryS.step (n : Nat) (K : laws_eqQueryS.Pt → Option (Tup [.bool])) : laws_eqQueryS.Pt → Option (Tup [.bool])
  | .p0 a0 a1 => cond (!(decide (((List.length a0) : Int) = ((List.length a1) : Int)))) (some false) (K (.p15 a0 a1 (0 : Int)))
  | .p15 y1 y2 y3 => cond (decide (y3 < ((List.length y1) : Int))) (cond (inB y3 (List.length y1)) (cond (inB y3 (List.length y2)) ((laws_eqQuery n (List.getD y1 (Int.toNat y3) default) (List.getD y2 (Int.toNat y3) default)).bind fun r6 => cond (!r6) (some false) (K (.p15 y1 y2 (IntKind.wrap .i64 (y3 + (1 : Int)))))) (none)) (none)) (some true)
def laws_eqQueryS (n : Nat) (a0 : List (tU1)) (a1 : List (tU1)) : Option (Tup [.bool]) := goRec laws_eqQueryS.step n (.p0 a0 a1)
def laws_eqQueryS.spec : Ctr := ⟨10, [.v (.sl false cU2), .v (.sl false cU2)], [.bool], [], none, fun n x => laws_eqQueryS n x.1 x.2.1⟩
theorem laws_eqQueryS.seg_eq : SegEq ty gl laws_eqQueryS.F laws_eqQueryS.md laws_eqQueryS.T laws_eqQueryS.spec laws_eqQueryS.lb laws_eqQueryS.st laws_eqQueryS.step := by
  intro n goto y; cases y <;> kernel_rfl
theorem laws_eqQueryS.text : Text Go.Proofs.Tryz.prog laws_eqQueryS.F laws_eqQueryS.spec := textOf Go.Proofs.Tryz.f10
theorem laws_eqQueryS.ok : CtrOK Go.Proofs.Tryz.prog gl laws_eqQueryS.spec :=
  ctr_okS tabs laws_eqQueryS.text laws_eqQueryS.seg_eq (fun n x => ⟨.p0 x.1 x.2.1, rfl, rfl, rfl⟩) (consC laws_eqQuery.ok (nilC))

/-! loop.example/g00039/laws.FnExactShardable -/
def laws_FnExactShardable.T : List Ctr := [laws_szQueryS.spec, laws_toQueryS.spec, spec_Shardable.spec, impl_Shardable.spec, laws_eqQueryS.spec]
def laws_FnExactShardable.md : List (Nat × List Md) := [(7, [.b (.sl false cU0)]), (9, [.b (.sl false cU0)])]
noncomputable def laws_FnExactShardable.F : Fun := ⟨(Go.Proofs.Tryz.f3.body).getD .skip, [.v (.sl false cU2)], [(.tmp 2, .bool)], [], 0, []⟩
inductive laws_FnExactShardable.Pt where
  | p0 (a0 : List (tU1))
def laws_FnExactShardable.lb : laws_FnExactShardable.Pt → Nat
  | .p0 _ => 0
def laws_FnExactShardable.st : laws_FnExactShardable.Pt → St
  | .p0 a0 => enter [.v (.sl false cU2) a0] 0
def laws_FnExactShardable.step (n : Nat) (K : laws_FnExactShardable.Pt → Option (Tup [.bool])) : laws_FnExactShardable.Pt → Option (Tup [.bool])
  | .p0 a0 => (laws_szQueryS n a0 (1048576 : Int)).bind fun (r4 : Int) => cond (decide (r4 < (0 : Int))) (some true) ((laws_toQueryS n a0).bind fun r5 => (spec_Shardable n r5).bind fun r6 => (laws_toQueryS n a0).bind fun r7 => (impl_Shardable n r7).bind fun r8 => cond (r8 != r6) (some false) ((laws_toQueryS n a0).bind fun r9 => (laws_eqQueryS n r7 r9).bind fun r10 => cond (!r10) (some false) (some true)))
def laws_FnExactShardable (n : Nat) (a0 : List (tU1)) : Option (Tup [.bool]) := goRec laws_FnExactShardable.step n (.p0 a0)
def laws_FnExactShardable.spec : Ctr := ⟨3, [.v (.sl false cU2)], [.bool], [], none, fun n x => laws_FnExactShardable n x.1⟩
theorem laws_FnExactShardable.seg_eq : SegEq ty gl laws_FnExactShardable.F laws_FnExactShardable.md laws_FnExactShardable.T laws_FnExactShardable.spec laws_FnExactShardable.lb laws_FnExactShardable.st laws_FnExactShardable.step := by
  intro n goto y; cases y <;> kernel_rfl
theorem laws_FnExactShardable.text : Text Go.Proofs.Tryz.prog laws_FnExactShardable.F laws_FnExactShardable.spec := textOf Go.Proofs.Tryz.f3
theorem laws_FnExactShardable.ok : CtrOK Go.Proofs.Tryz.prog gl laws_FnExactShardable.spec :=
  ctr_okS tabs laws_FnExactShardable.text laws_FnExactShardable.seg_eq (fun n x => ⟨.p0 x.1, rfl, rfl, rfl⟩) (consC laws_szQueryS.ok (consC laws_toQueryS.ok (consC spec_Shardable.ok (consC impl_Shardable.ok (consC laws_eqQueryS.ok (nilC))))))
end Go.SH
