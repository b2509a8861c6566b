/- The functions that the law reaches, each as a Lean function and with its contract, part 2. -/
import Derived.Test.YtcfcnnamjfgahabV1
import Derived.Test.YtcfcnnamjfgahabV2
import Derived.Test.YtcfcnnamjfgahabV3
import Derived.Lib.Bytealg
import Derived.Shelf.Lays
import Derived.Shelf.Small.Strs
import Derived.Test.YtcfcnnamjfgahabProg
import Derived.Test.YtcfcnnamjfgahabFExactInhibited1
open Go Go.VM
namespace Go.IH
set_option maxRecDepth 100000
set_option linter.unusedVariables false
set_option linter.unusedSimpArgs false
/-! loop.example/g00039/impl.inhibited -/
def impl_inhibited.T : List Ctr := [slices_ContainsFunc_string_impl_goodNames_1.spec, impl_fits.spec, impl_inhibited_1.spec, slices_ContainsFunc_string_impl_inhibited_1.spec]
def impl_inhibited.md : List (Nat × List Md) := [(116, [.v, .q (.sl false (.pair .str (.pair .str .unit))), .q (.sl false (.pair .str (.pair .str .unit)))]), (1000116, [.q (.sl false (.pair .str (.pair .str .unit))), .q (.sl false (.pair .str (.pair .str .unit)))]), (115, [.v, .fn])]
noncomputable def impl_inhibited.F : Fun := ⟨(Go.Proofs.Try.f67.body).getD .skip, [.v (.sl false (.pair (.sl false (.pair .str (.pair (.int .i64) (.pair .str .unit)))) (.pair (.sl false (.pair .str (.pair (.int .i64) (.pair .str .unit)))) (.pair (.sl false .str) .unit)))), .v (.sl false (.sl false (.pair .str (.pair .str .unit)))), .v (.sl false (.pair .str (.pair .str .unit)))], [(.tmp 6, .bool)], [], 0, [(7, ⟨[1, 5, 12, 13, 14], [(12, (.pair (.sl false (.pair .str (.pair (.int .i64) (.pair .str .unit)))) (.pair (.sl false (.pair .str (.pair (.int .i64) (.pair .str .unit)))) (.pair (.sl false .str) .unit))))], [(5, 0, (.pair .str (.pair .str .unit)))]⟩), (29, ⟨[1, 5, 8, 9, 12, 13, 14, 27, 28, 29], [(12, (.pair (.sl false (.pair .str (.pair (.int .i64) (.pair .str .unit)))) (.pair (.sl false (.pair .str (.pair (.int .i64) (.pair .str .unit)))) (.pair (.sl false .str) .unit)))), (27, (.sl false (.pair .str (.pair .str .unit))))], [(5, 0, (.pair .str (.pair .str .unit))), (8, 0, (.pair .str (.pair (.int .i64) (.pair .str .unit)))), (8, 1, (.pair .str (.pair (.int .i64) (.pair .str .unit)))), (8, 2, .str)]⟩), (41, ⟨[1, 5, 8, 9, 11, 12, 13, 14, 27, 28, 29, 46], [(12, (.pair (.sl false (.pair .str (.pair (.int .i64) (.pair .str .unit)))) (.pair (.sl false (.pair .str (.pair (.int .i64) (.pair .str .unit)))) (.pair (.sl false .str) .unit)))), (27, (.sl false (.pair .str (.pair .str .unit))))], [(5, 0, (.pair .str (.pair .str .unit))), (8, 0, (.pair .str (.pair (.int .i64) (.pair .str .unit)))), (8, 1, (.pair .str (.pair (.int .i64) (.pair .str .unit)))), (8, 2, .str), (11, 0, (.pair .str (.pair .str .unit)))]⟩)]⟩
inductive impl_inhibited.Pt where
  | p0 (a0 : List ((List ((ByteArray) × ((Int) × ((ByteArray) × (Unit))))) × ((List ((ByteArray) × ((Int) × ((ByteArray) × (Unit))))) × ((List (ByteArray)) × (Unit))))) (a1 : List (List ((ByteArray) × ((ByteArray) × (Unit))))) (a2 : List ((ByteArray) × ((ByteArray) × (Unit))))
  | p7 (y1 : List (List ((ByteArray) × ((ByteArray) × (Unit))))) (y2 : List ((List ((ByteArray) × ((Int) × ((ByteArray) × (Unit))))) × ((List ((ByteArray) × ((Int) × ((ByteArray) × (Unit))))) × ((List (ByteArray)) × (Unit))))) (y3 : Int) (y4 : Int) (y5 : List ((ByteArray) × ((ByteArray) × (Unit))))
  | p29 (y1 : List (List ((ByteArray) × ((ByteArray) × (Unit))))) (y2 : Bool) (y3 : List ((List ((ByteArray) × ((Int) × ((ByteArray) × (Unit))))) × ((List ((ByteArray) × ((Int) × ((ByteArray) × (Unit))))) × ((List (ByteArray)) × (Unit))))) (y4 : Int) (y5 : Int) (y6 : List (List ((ByteArray) × ((ByteArray) × (Unit))))) (y7 : Int) (y8 : Int) (y9 : List ((ByteArray) × ((ByteArray) × (Unit)))) (y10 : List ((ByteArray) × ((Int) × ((ByteArray) × (Unit))))) (y11 : List ((ByteArray) × ((Int) × ((ByteArray) × (Unit))))) (y12 : List (ByteArray))
  | p41 (y1 : List (List ((ByteArray) × ((ByteArray) × (Unit))))) (y2 : Bool) (y3 : List ((List ((ByteArray) × ((Int) × ((ByteArray) × (Unit))))) × ((List ((ByteArray) × ((Int) × ((ByteArray) × (Unit))))) × ((List (ByteArray)) × (Unit))))) (y4 : Int) (y5 : Int) (y6 : List (List ((ByteArray) × ((ByteArray) × (Unit))))) (y7 : Int) (y8 : Int) (y9 : Bool) (y10 : List ((ByteArray) × ((ByteArray) × (Unit)))) (y11 : List ((ByteArray) × ((Int) × ((ByteArray) × (Unit))))) (y12 : List ((ByteArray) × ((Int) × ((ByteArray) × (Unit))))) (y13 : List (ByteArray)) (y14 : List ((ByteArray) × ((ByteArray) × (Unit))))
def impl_inhibited.lb : impl_inhibited.Pt → Nat
  | .p0 _ _ _ => 0
  | .p7 _ _ _ _ _ => 7
  | .p29 _ _ _ _ _ _ _ _ _ _ _ _ => 29
  | .p41 _ _ _ _ _ _ _ _ _ _ _ _ _ _ => 41
def impl_inhibited.st : impl_inhibited.Pt → St
  | .p0 a0 a1 a2 => enter [.v (.sl false (.pair (.sl false (.pair .str (.pair (.int .i64) (.pair .str .unit)))) (.pair (.sl false (.pair .str (.pair (.int .i64) (.pair .str .unit)))) (.pair (.sl false .str) .unit)))) a0, .v (.sl false (.sl false (.pair .str (.pair .str .unit)))) a1, .v (.sl false (.pair .str (.pair .str .unit))) a2] 0
  | .p7 y1 y2 y3 y4 y5 => ⟨[(1, .im (.sl false (.sl false (.pair .str (.pair .str .unit)))) y1), (5, .po 0 0), (12, .im (.sl false (.pair (.sl false (.pair .str (.pair (.int .i64) (.pair .str .unit)))) (.pair (.sl false (.pair .str (.pair (.int .i64) (.pair .str .unit)))) (.pair (.sl false .str) .unit)))) y2), (13, .im (.int .i64) y3), (14, .im (.int .i64) y4)], [(0, .obj [.im (.sl false (.pair .str (.pair .str .unit))) y5])], 1⟩
  | .p29 y1 y2 y3 y4 y5 y6 y7 y8 y9 y10 y11 y12 => ⟨[(1, .im (.sl false (.sl false (.pair .str (.pair .str .unit)))) y1), (5, .po 0 0), (8, .po 1 0), (9, .im .bool y2), (12, .im (.sl false (.pair (.sl false (.pair .str (.pair (.int .i64) (.pair .str .unit)))) (.pair (.sl false (.pair .str (.pair (.int .i64) (.pair .str .unit)))) (.pair (.sl false .str) .unit)))) y3), (13, .im (.int .i64) y4), (14, .im (.int .i64) y5), (27, .im (.sl false (.sl false (.pair .str (.pair .str .unit)))) y6), (28, .im (.int .i64) y7), (29, .im (.int .i64) y8)], [(0, .obj [.im (.sl false (.pair .str (.pair .str .unit))) y9]), (1, .obj [.im (.sl false (.pair .str (.pair (.int .i64) (.pair .str .unit)))) y10, .im (.sl false (.pair .str (.pair (.int .i64) (.pair .str .unit)))) y11, .im (.sl false .str) y12])], 2⟩
  | .p41 y1 y2 y3 y4 y5 y6 y7 y8 y9 y10 y11 y12 y13 y14 => ⟨[(1, .im (.sl false (.sl false (.pair .str (.pair .str .unit)))) y1), (5, .po 0 0), (8, .po 1 0), (9, .im .bool y2), (11, .po 2 0), (12, .im (.sl false (.pair (.sl false (.pair .str (.pair (.int .i64) (.pair .str .unit)))) (.pair (.sl false (.pair .str (.pair (.int .i64) (.pair .str .unit)))) (.pair (.sl false .str) .unit)))) y3), (13, .im (.int .i64) y4), (14, .im (.int .i64) y5), (27, .im (.sl false (.sl false (.pair .str (.pair .str .unit)))) y6), (28, .im (.int .i64) y7), (29, .im (.int .i64) y8), (46, .im .bool y9)], [(0, .obj [.im (.sl false (.pair .str (.pair .str .unit))) y10]), (1, .obj [.im (.sl false (.pair .str (.pair (.int .i64) (.pair .str .unit)))) y11, .im (.sl false (.pair .str (.pair (.int .i64) (.pair .str .unit)))) y12, .im (.sl false .str) y13]), (2, .obj [.im (.sl false (.pair .str (.pair .str .unit))) y14])], 3⟩
def impl_inhibited.step (n : Nat) (K : impl_inhibited.Pt → Option (Tup [.bool])) : impl_inhibited.Pt → Option (Tup [.bool])
  | .p0 a0 a1 a2 => K (.p7 a1 a0 ((List.length a0) : Int) (0 : Int) a2)
  | .p7 y1 y2 y3 y4 y5 => cond (decide (y4 < y3)) (cond (inB y4 (List.length y2)) ((impl_fits n (List.getD y2 (Int.toNat y4) default).2.1 y5).bind fun r8 => cond (!r8) (K (.p7 y1 y2 y3 (IntKind.wrap .i64 (y4 + (1 : Int))) y5)) ((impl_fits n (List.getD y2 (Int.toNat y4) default).1 y5).bind fun r9 => K (.p29 y1 r9 y2 y3 y4 y1 ((List.length y1) : Int) (0 : Int) y5 (List.getD y2 (Int.toNat y4) default).1 (List.getD y2 (Int.toNat y4) default).2.1 (List.getD y2 (Int.toNat y4) default).2.2.1))) (none)) (some false)
  | .p29 y1 y2 y3 y4 y5 y6 y7 y8 y9 y10 y11 y12 => cond (decide (y8 < y7)) (cond (inB y8 (List.length y6)) ((impl_fits n y10 (List.getD y6 (Int.toNat y8) default)).bind fun r15 => cond (!r15) (K (.p41 y1 y2 y3 y4 y5 y6 y7 y8 true y9 y10 y11 y12 (List.getD y6 (Int.toNat y8) default))) (cond y2 ((impl_fits n y11 (List.getD y6 (Int.toNat y8) default)).bind fun r16 => K (.p41 y1 y2 y3 y4 y5 y6 y7 y8 r16 y9 y10 y11 y12 (List.getD y6 (Int.toNat y8) default))) (K (.p41 y1 y2 y3 y4 y5 y6 y7 y8 false y9 y10 y11 y12 (List.getD y6 (Int.toNat y8) default))))) (none)) (K (.p7 y1 y3 y4 (IntKind.wrap .i64 (y5 + (1 : Int))) y9))
  | .p41 y1 y2 y3 y4 y5 y6 y7 y8 y9 y10 y11 y12 y13 y14 => cond y9 (K (.p29 y1 y2 y3 y4 y5 y6 y7 (IntKind.wrap .i64 (y8 + (1 : Int))) y10 y11 y12 y13)) ((slices_ContainsFunc_string_impl_inhibited_1 n y13 y14 y10).bind fun r17 => cond (!r17) (some true) (K (.p29 y1 y2 y3 y4 y5 y6 y7 (IntKind.wrap .i64 (y8 + (1 : Int))) y10 y11 y12 y13)))
def impl_inhibited (n : Nat) (a0 : List ((List ((ByteArray) × ((Int) × ((ByteArray) × (Unit))))) × ((List ((ByteArray) × ((Int) × ((ByteArray) × (Unit))))) × ((List (ByteArray)) × (Unit))))) (a1 : List (List ((ByteArray) × ((ByteArray) × (Unit))))) (a2 : List ((ByteArray) × ((ByteArray) × (Unit)))) : Option (Tup [.bool]) := goRec impl_inhibited.step n (.p0 a0 a1 a2)
def impl_inhibited.spec : Ctr := ⟨67, [.v (.sl false (.pair (.sl false (.pair .str (.pair (.int .i64) (.pair .str .unit)))) (.pair (.sl false (.pair .str (.pair (.int .i64) (.pair .str .unit)))) (.pair (.sl false .str) .unit)))), .v (.sl false (.sl false (.pair .str (.pair .str .unit)))), .v (.sl false (.pair .str (.pair .str .unit)))], [.bool], [], fun n x => impl_inhibited n x.1 x.2.1 x.2.2.1⟩
theorem impl_inhibited.seg_eq (n : Nat) (goto : Nat → St → Option (Tup [.bool])) (y : impl_inhibited.Pt) : seg ⟨ty, gl, impl_inhibited.md, calOf impl_inhibited.T n⟩ impl_inhibited.F.np impl_inhibited.F.ks goto (impl_inhibited.F.fin ⟨ty, gl, impl_inhibited.md, calOf impl_inhibited.T 0⟩ [.bool]) impl_inhibited.F.c (impl_inhibited.lb y) (impl_inhibited.st y) = impl_inhibited.step n (fun z => goto (impl_inhibited.lb z) (impl_inhibited.st z)) y := by
  cases y <;> kernel_rfl
theorem impl_inhibited.text : Text Go.Proofs.Try.prog impl_inhibited.F impl_inhibited.spec := ⟨⟨Go.Proofs.Try.f67, by kernel_rfl, by kernel_rfl, by decide +kernel, by kernel_rfl, by kernel_rfl, of_decide_eq_true (by kernel_rfl)⟩, fun _ => rfl, fun _ => rfl, rfl⟩
theorem impl_inhibited.ok : CtrOK Go.Proofs.Try.prog gl impl_inhibited.spec :=
  ctr_ok (T := impl_inhibited.T) (F := impl_inhibited.F) (lb := impl_inhibited.lb) (st := impl_inhibited.st) (step := impl_inhibited.step) (md := impl_inhibited.md) tabs impl_inhibited.text impl_inhibited.seg_eq (fun n x => ⟨.p0 x.1 x.2.1 x.2.2.1, rfl, rfl, rfl⟩) (consC slices_ContainsFunc_string_impl_goodNames_1.ok (consC impl_fits.ok (consC impl_inhibited_1.ok (consC slices_ContainsFunc_string_impl_inhibited_1.ok (nilC)))))

/-! loop.example/g00039/impl.Inhibited$1 -/
def impl_Inhibited_1.T : List Ctr := [impl_GoodLabels.spec]
def impl_Inhibited_1.md : List (Nat × List Md) := []
noncomputable def impl_Inhibited_1.F : Fun := ⟨(Go.Proofs.Try.f66.body).getD .skip, [.v (.sl false (.pair .str (.pair .str .unit)))], [(.tmp 2, .bool)], [], 0, []⟩
inductive impl_Inhibited_1.Pt where
  | p0 (a0 : List ((ByteArray) × ((ByteArray) × (Unit))))
def impl_Inhibited_1.lb : impl_Inhibited_1.Pt → Nat
  | .p0 _ => 0
def impl_Inhibited_1.st : impl_Inhibited_1.Pt → St
  | .p0 a0 => enter [.v (.sl false (.pair .str (.pair .str .unit))) a0] 0
def impl_Inhibited_1.step (n : Nat) (K : impl_Inhibited_1.Pt → Option (Tup [.bool])) : impl_Inhibited_1.Pt → Option (Tup [.bool])
  | .p0 a0 => (impl_GoodLabels n a0).bind fun r4 => some (!r4)
def impl_Inhibited_1 (n : Nat) (a0 : List ((ByteArray) × ((ByteArray) × (Unit)))) : Option (Tup [.bool]) := goRec impl_Inhibited_1.step n (.p0 a0)
def impl_Inhibited_1.spec : Ctr := ⟨66, [.v (.sl false (.pair .str (.pair .str .unit)))], [.bool], [], fun n x => impl_Inhibited_1 n x.1⟩
theorem impl_Inhibited_1.seg_eq (n : Nat) (goto : Nat → St → Option (Tup [.bool])) (y : impl_Inhibited_1.Pt) : seg ⟨ty, gl, impl_Inhibited_1.md, calOf impl_Inhibited_1.T n⟩ impl_Inhibited_1.F.np impl_Inhibited_1.F.ks goto (impl_Inhibited_1.F.fin ⟨ty, gl, impl_Inhibited_1.md, calOf impl_Inhibited_1.T 0⟩ [.bool]) impl_Inhibited_1.F.c (impl_Inhibited_1.lb y) (impl_Inhibited_1.st y) = impl_Inhibited_1.step n (fun z => goto (impl_Inhibited_1.lb z) (impl_Inhibited_1.st z)) y := by
  cases y <;> kernel_rfl
theorem impl_Inhibited_1.text : Text Go.Proofs.Try.prog impl_Inhibited_1.F impl_Inhibited_1.spec := ⟨⟨Go.Proofs.Try.f66, by kernel_rfl, by kernel_rfl, by decide +kernel, by kernel_rfl, by kernel_rfl, of_decide_eq_true (by kernel_rfl)⟩, fun _ => rfl, fun _ => rfl, rfl⟩
theorem impl_Inhibited_1.ok : CtrOK Go.Proofs.Try.prog gl impl_Inhibited_1.spec :=
  ctr_ok (T := impl_Inhibited_1.T) (F := impl_Inhibited_1.F) (lb := impl_Inhibited_1.lb) (st := impl_Inhibited_1.st) (step := impl_Inhibited_1.step) (md := impl_Inhibited_1.md) tabs impl_Inhibited_1.text impl_Inhibited_1.seg_eq (fun n x => ⟨.p0 x.1, rfl, rfl, rfl⟩) (consC impl_GoodLabels.ok (nilC))

/-! slices.IndexFunc[[][]loop.example/g00039/impl.Label,[]loop.example/g00039/impl.Label] -/
def slices_IndexFunc_Label_impl_Inhibited_1.T : List Ctr := [impl_Inhibited_1.spec]
def slices_IndexFunc_Label_impl_Inhibited_1.md : List (Nat × List Md) := []
noncomputable def slices_IndexFunc_Label_impl_Inhibited_1.F : Fun := ⟨(Go.Proofs.Try.f114.body).getD .skip, [.v (.sl false (.sl false (.pair .str (.pair .str .unit)))), .fn 66 []], [(.tmp 4, (.int .i64))], [], 0, [(7, ⟨[0, 1, 7, 8], [], []⟩)]⟩
inductive slices_IndexFunc_Label_impl_Inhibited_1.Pt where
  | p0 (a0 : List (List ((ByteArray) × ((ByteArray) × (Unit)))))
  | p7 (y1 : List (List ((ByteArray) × ((ByteArray) × (Unit))))) (y2 : Int) (y3 : Int)
def slices_IndexFunc_Label_impl_Inhibited_1.lb : slices_IndexFunc_Label_impl_Inhibited_1.Pt → Nat
  | .p0 _ => 0
  | .p7 _ _ _ => 7
def slices_IndexFunc_Label_impl_Inhibited_1.st : slices_IndexFunc_Label_impl_Inhibited_1.Pt → St
  | .p0 a0 => enter [.v (.sl false (.sl false (.pair .str (.pair .str .unit)))) a0, .fn 66 []] 0
  | .p7 y1 y2 y3 => ⟨[(0, .im (.sl false (.sl false (.pair .str (.pair .str .unit)))) y1), (1, .fn 66 []), (7, .im (.int .i64) y2), (8, .im (.int .i64) y3)], [], 0⟩
def slices_IndexFunc_Label_impl_Inhibited_1.step (n : Nat) (K : slices_IndexFunc_Label_impl_Inhibited_1.Pt → Option (Tup [(.int .i64)])) : slices_IndexFunc_Label_impl_Inhibited_1.Pt → Option (Tup [(.int .i64)])
  | .p0 a0 => K (.p7 a0 ((List.length a0) : Int) (0 : Int))
  | .p7 y1 y2 y3 => cond (decide (y3 < y2)) (cond (inB y3 (List.length y1)) ((impl_Inhibited_1 n (List.getD y1 (Int.toNat y3) default)).bind fun r6 => cond r6 (some y3) (K (.p7 y1 y2 (IntKind.wrap .i64 (y3 + (1 : Int)))))) (none)) (some (-(1 : Int)))
def slices_IndexFunc_Label_impl_Inhibited_1 (n : Nat) (a0 : List (List ((ByteArray) × ((ByteArray) × (Unit))))) : Option (Tup [(.int .i64)]) := goRec slices_IndexFunc_Label_impl_Inhibited_1.step n (.p0 a0)
def slices_IndexFunc_Label_impl_Inhibited_1.spec : Ctr := ⟨114, [.v (.sl false (.sl false (.pair .str (.pair .str .unit)))), .fn 66 []], [(.int .i64)], [], fun n x => slices_IndexFunc_Label_impl_Inhibited_1 n x.1⟩
theorem slices_IndexFunc_Label_impl_Inhibited_1.seg_eq (n : Nat) (goto : Nat → St → Option (Tup [(.int .i64)])) (y : slices_IndexFunc_Label_impl_Inhibited_1.Pt) : seg ⟨ty, gl, slices_IndexFunc_Label_impl_Inhibited_1.md, calOf slices_IndexFunc_Label_impl_Inhibited_1.T n⟩ slices_IndexFunc_Label_impl_Inhibited_1.F.np slices_IndexFunc_Label_impl_Inhibited_1.F.ks goto (slices_IndexFunc_Label_impl_Inhibited_1.F.fin ⟨ty, gl, slices_IndexFunc_Label_impl_Inhibited_1.md, calOf slices_IndexFunc_Label_impl_Inhibited_1.T 0⟩ [(.int .i64)]) slices_IndexFunc_Label_impl_Inhibited_1.F.c (slices_IndexFunc_Label_impl_Inhibited_1.lb y) (slices_IndexFunc_Label_impl_Inhibited_1.st y) = slices_IndexFunc_Label_impl_Inhibited_1.step n (fun z => goto (slices_IndexFunc_Label_impl_Inhibited_1.lb z) (slices_IndexFunc_Label_impl_Inhibited_1.st z)) y := by
  cases y <;> kernel_rfl
theorem slices_IndexFunc_Label_impl_Inhibited_1.text : Text Go.Proofs.Try.prog slices_IndexFunc_Label_impl_Inhibited_1.F slices_IndexFunc_Label_impl_Inhibited_1.spec := ⟨⟨Go.Proofs.Try.f114, by kernel_rfl, by kernel_rfl, by decide +kernel, by kernel_rfl, by kernel_rfl, of_decide_eq_true (by kernel_rfl)⟩, fun _ => rfl, fun _ => rfl, rfl⟩
theorem slices_IndexFunc_Label_impl_Inhibited_1.ok : CtrOK Go.Proofs.Try.prog gl slices_IndexFunc_Label_impl_Inhibited_1.spec :=
  ctr_ok (T := slices_IndexFunc_Label_impl_Inhibited_1.T) (F := slices_IndexFunc_Label_impl_Inhibited_1.F) (lb := slices_IndexFunc_Label_impl_Inhibited_1.lb) (st := slices_IndexFunc_Label_impl_Inhibited_1.st) (step := slices_IndexFunc_Label_impl_Inhibited_1.step) (md := slices_IndexFunc_Label_impl_Inhibited_1.md) tabs slices_IndexFunc_Label_impl_Inhibited_1.text slices_IndexFunc_Label_impl_Inhibited_1.seg_eq (fun n x => ⟨.p0 x.1, rfl, rfl, rfl⟩) (consC impl_Inhibited_1.ok (nilC))

/-! slices.ContainsFunc[[][]loop.example/g00039/impl.Label,[]loop.example/g00039/impl.Label] -/
def slices_ContainsFunc_Label_impl_Inhibited_1.T : List Ctr := [slices_IndexFunc_Label_impl_Inhibited_1.spec]
def slices_ContainsFunc_Label_impl_Inhibited_1.md : List (Nat × List Md) := [(114, [.v, .fn])]
noncomputable def slices_ContainsFunc_Label_impl_Inhibited_1.F : Fun := ⟨(Go.Proofs.Try.f65.body).getD .skip, [.v (.sl false (.sl false (.pair .str (.pair .str .unit)))), .fn 66 []], [(.tmp 4, .bool)], [], 0, []⟩
inductive slices_ContainsFunc_Label_impl_Inhibited_1.Pt where
  | p0 (a0 : List (List ((ByteArray) × ((ByteArray) × (Unit)))))
def slices_ContainsFunc_Label_impl_Inhibited_1.lb : slices_ContainsFunc_Label_impl_Inhibited_1.Pt → Nat
  | .p0 _ => 0
def slices_ContainsFunc_Label_impl_Inhibited_1.st : slices_ContainsFunc_Label_impl_Inhibited_1.Pt → St
  | .p0 a0 => enter [.v (.sl false (.sl false (.pair .str (.pair .str .unit)))) a0, .fn 66 []] 0
def slices_ContainsFunc_Label_impl_Inhibited_1.step (n : Nat) (K : slices_ContainsFunc_Label_impl_Inhibited_1.Pt → Option (Tup [.bool])) : slices_ContainsFunc_Label_impl_Inhibited_1.Pt → Option (Tup [.bool])
  | .p0 a0 => (slices_IndexFunc_Label_impl_Inhibited_1 n a0).bind fun (r4 : Int) => some (decide ((0 : Int) ≤ r4))
def slices_ContainsFunc_Label_impl_Inhibited_1 (n : Nat) (a0 : List (List ((ByteArray) × ((ByteArray) × (Unit))))) : Option (Tup [.bool]) := goRec slices_ContainsFunc_Label_impl_Inhibited_1.step n (.p0 a0)
def slices_ContainsFunc_Label_impl_Inhibited_1.spec : Ctr := ⟨65, [.v (.sl false (.sl false (.pair .str (.pair .str .unit)))), .fn 66 []], [.bool], [], fun n x => slices_ContainsFunc_Label_impl_Inhibited_1 n x.1⟩
theorem slices_ContainsFunc_Label_impl_Inhibited_1.seg_eq (n : Nat) (goto : Nat → St → Option (Tup [.bool])) (y : slices_ContainsFunc_Label_impl_Inhibited_1.Pt) : seg ⟨ty, gl, slices_ContainsFunc_Label_impl_Inhibited_1.md, calOf slices_ContainsFunc_Label_impl_Inhibited_1.T n⟩ slices_ContainsFunc_Label_impl_Inhibited_1.F.np slices_ContainsFunc_Label_impl_Inhibited_1.F.ks goto (slices_ContainsFunc_Label_impl_Inhibited_1.F.fin ⟨ty, gl, slices_ContainsFunc_Label_impl_Inhibited_1.md, calOf slices_ContainsFunc_Label_impl_Inhibited_1.T 0⟩ [.bool]) slices_ContainsFunc_Label_impl_Inhibited_1.F.c (slices_ContainsFunc_Label_impl_Inhibited_1.lb y) (slices_ContainsFunc_Label_impl_Inhibited_1.st y) = slices_ContainsFunc_Label_impl_Inhibited_1.step n (fun z => goto (slices_ContainsFunc_Label_impl_Inhibited_1.lb z) (slices_ContainsFunc_Label_impl_Inhibited_1.st z)) y := by
  cases y <;> kernel_rfl
theorem slices_ContainsFunc_Label_impl_Inhibited_1.text : Text Go.Proofs.Try.prog slices_ContainsFunc_Label_impl_Inhibited_1.F slices_ContainsFunc_Label_impl_Inhibited_1.spec := ⟨⟨Go.Proofs.Try.f65, by kernel_rfl, by kernel_rfl, by decide +kernel, by kernel_rfl, by kernel_rfl, of_decide_eq_true (by kernel_rfl)⟩, fun _ => rfl, fun _ => rfl, rfl⟩
theorem slices_ContainsFunc_Label_impl_Inhibited_1.ok : CtrOK Go.Proofs.Try.prog gl slices_ContainsFunc_Label_impl_Inhibited_1.spec :=
  ctr_ok (T := slices_ContainsFunc_Label_impl_Inhibited_1.T) (F := slices_ContainsFunc_Label_impl_Inhibited_1.F) (lb := slices_ContainsFunc_Label_impl_Inhibited_1.lb) (st := slices_ContainsFunc_Label_impl_Inhibited_1.st) (step := slices_ContainsFunc_Label_impl_Inhibited_1.step) (md := slices_ContainsFunc_Label_impl_Inhibited_1.md) tabs slices_ContainsFunc_Label_impl_Inhibited_1.text slices_ContainsFunc_Label_impl_Inhibited_1.seg_eq (fun n x => ⟨.p0 x.1, rfl, rfl, rfl⟩) (consC slices_IndexFunc_Label_impl_Inhibited_1.ok (nilC))

/-! loop.example/g00039/impl.Inhibited -/
def impl_Inhibited.T : List Ctr := [impl_GoodInhibits.spec, impl_GoodLabels.spec, impl_inhibited.spec, impl_Inhibited_1.spec, slices_ContainsFunc_Label_impl_Inhibited_1.spec]
def impl_Inhibited.md : List (Nat × List Md) := [(65, [.v, .fn])]
noncomputable def impl_Inhibited.F : Fun := ⟨(Go.Proofs.Try.f25.body).getD .skip, [.v (.sl false (.pair (.sl false (.pair .str (.pair (.int .i64) (.pair .str .unit)))) (.pair (.sl false (.pair .str (.pair (.int .i64) (.pair .str .unit)))) (.pair (.sl false .str) .unit)))), .v (.sl false (.sl false (.pair .str (.pair .str .unit)))), .v (.sl false (.pair .str (.pair .str .unit)))], [(.tmp 6, .bool)], [], 0, [(4, ⟨[0, 1, 2, 23], [], []⟩)]⟩
inductive impl_Inhibited.Pt where
  | p0 (a0 : List ((List ((ByteArray) × ((Int) × ((ByteArray) × (Unit))))) × ((List ((ByteArray) × ((Int) × ((ByteArray) × (Unit))))) × ((List (ByteArray)) × (Unit))))) (a1 : List (List ((ByteArray) × ((ByteArray) × (Unit))))) (a2 : List ((ByteArray) × ((ByteArray) × (Unit))))
  | p4 (y1 : List ((List ((ByteArray) × ((Int) × ((ByteArray) × (Unit))))) × ((List ((ByteArray) × ((Int) × ((ByteArray) × (Unit))))) × ((List (ByteArray)) × (Unit))))) (y2 : List (List ((ByteArray) × ((ByteArray) × (Unit))))) (y3 : List ((ByteArray) × ((ByteArray) × (Unit)))) (y4 : Bool)
def impl_Inhibited.lb : impl_Inhibited.Pt → Nat
  | .p0 _ _ _ => 0
  | .p4 _ _ _ _ => 4
def impl_Inhibited.st : impl_Inhibited.Pt → St
  | .p0 a0 a1 a2 => enter [.v (.sl false (.pair (.sl false (.pair .str (.pair (.int .i64) (.pair .str .unit)))) (.pair (.sl false (.pair .str (.pair (.int .i64) (.pair .str .unit)))) (.pair (.sl false .str) .unit)))) a0, .v (.sl false (.sl false (.pair .str (.pair .str .unit)))) a1, .v (.sl false (.pair .str (.pair .str .unit))) a2] 0
  | .p4 y1 y2 y3 y4 => ⟨[(0, .im (.sl false (.pair (.sl false (.pair .str (.pair (.int .i64) (.pair .str .unit)))) (.pair (.sl false (.pair .str (.pair (.int .i64) (.pair .str .unit)))) (.pair (.sl false .str) .unit)))) y1), (1, .im (.sl false (.sl false (.pair .str (.pair .str .unit)))) y2), (2, .im (.sl false (.pair .str (.pair .str .unit))) y3), (23, .im .bool y4)], [], 0⟩
def impl_Inhibited.step (n : Nat) (K : impl_Inhibited.Pt → Option (Tup [.bool])) : impl_Inhibited.Pt → Option (Tup [.bool])
  | .p0 a0 a1 a2 => (impl_GoodInhibits n a0).bind fun r6 => cond (!r6) (K (.p4 a0 a1 a2 true)) (cond (decide ((200 : Int) < ((List.length a1) : Int))) (K (.p4 a0 a1 a2 true)) ((slices_ContainsFunc_Label_impl_Inhibited_1 n a1).bind fun r7 => cond r7 (K (.p4 a0 a1 a2 true)) ((impl_GoodLabels n a2).bind fun r8 => K (.p4 a0 a1 a2 (!r8)))))
  | .p4 y1 y2 y3 y4 => cond y4 (some false) ((impl_inhibited n y1 y2 y3).bind fun r7 => some r7)
def impl_Inhibited (n : Nat) (a0 : List ((List ((ByteArray) × ((Int) × ((ByteArray) × (Unit))))) × ((List ((ByteArray) × ((Int) × ((ByteArray) × (Unit))))) × ((List (ByteArray)) × (Unit))))) (a1 : List (List ((ByteArray) × ((ByteArray) × (Unit))))) (a2 : List ((ByteArray) × ((ByteArray) × (Unit)))) : Option (Tup [.bool]) := goRec impl_Inhibited.step n (.p0 a0 a1 a2)
def impl_Inhibited.spec : Ctr := ⟨25, [.v (.sl false (.pair (.sl false (.pair .str (.pair (.int .i64) (.pair .str .unit)))) (.pair (.sl false (.pair .str (.pair (.int .i64) (.pair .str .unit)))) (.pair (.sl false .str) .unit)))), .v (.sl false (.sl false (.pair .str (.pair .str .unit)))), .v (.sl false (.pair .str (.pair .str .unit)))], [.bool], [], fun n x => impl_Inhibited n x.1 x.2.1 x.2.2.1⟩
theorem impl_Inhibited.seg_eq (n : Nat) (goto : Nat → St → Option (Tup [.bool])) (y : impl_Inhibited.Pt) : seg ⟨ty, gl, impl_Inhibited.md, calOf impl_Inhibited.T n⟩ impl_Inhibited.F.np impl_Inhibited.F.ks goto (impl_Inhibited.F.fin ⟨ty, gl, impl_Inhibited.md, calOf impl_Inhibited.T 0⟩ [.bool]) impl_Inhibited.F.c (impl_Inhibited.lb y) (impl_Inhibited.st y) = impl_Inhibited.step n (fun z => goto (impl_Inhibited.lb z) (impl_Inhibited.st z)) y := by
  cases y <;> kernel_rfl
theorem impl_Inhibited.text : Text Go.Proofs.Try.prog impl_Inhibited.F impl_Inhibited.spec := ⟨⟨Go.Proofs.Try.f25, by kernel_rfl, by kernel_rfl, by decide +kernel, by kernel_rfl, by kernel_rfl, of_decide_eq_true (by kernel_rfl)⟩, fun _ => rfl, fun _ => rfl, rfl⟩
theorem impl_Inhibited.ok : CtrOK Go.Proofs.Try.prog gl impl_Inhibited.spec :=
  ctr_ok (T := impl_Inhibited.T) (F := impl_Inhibited.F) (lb := impl_Inhibited.lb) (st := impl_Inhibited.st) (step := impl_Inhibited.step) (md := impl_Inhibited.md) tabs impl_Inhibited.text impl_Inhibited.seg_eq (fun n x => ⟨.p0 x.1 x.2.1 x.2.2.1, rfl, rfl, rfl⟩) (consC impl_GoodInhibits.ok (consC impl_GoodLabels.ok (consC impl_inhibited.ok (consC impl_Inhibited_1.ok (consC slices_ContainsFunc_Label_impl_Inhibited_1.ok (nilC))))))

/-! loop.example/g00039/laws.eqMatcher -/
def laws_eqMatcher.T : List Ctr := []
def laws_eqMatcher.md : List (Nat × List Md) := []
noncomputable def laws_eqMatcher.F : Fun := ⟨(Go.Proofs.Try.f168.body).getD .skip, [.v (.pair .str (.pair (.int .i64) (.pair .str .unit))), .v (.pair .str (.pair (.int .i64) (.pair .str .unit)))], [(.tmp 4, .bool)], [], 0, []⟩
inductive laws_eqMatcher.Pt where
  | p0 (a0 : (ByteArray) × ((Int) × ((ByteArray) × (Unit)))) (a1 : (ByteArray) × ((Int) × ((ByteArray) × (Unit))))
def laws_eqMatcher.lb : laws_eqMatcher.Pt → Nat
  | .p0 _ _ => 0
def laws_eqMatcher.st : laws_eqMatcher.Pt → St
  | .p0 a0 a1 => enter [.v (.pair .str (.pair (.int .i64) (.pair .str .unit))) a0, .v (.pair .str (.pair (.int .i64) (.pair .str .unit))) a1] 0
def laws_eqMatcher.step (n : Nat) (K : laws_eqMatcher.Pt → Option (Tup [.bool])) : laws_eqMatcher.Pt → Option (Tup [.bool])
  | .p0 a0 a1 => cond (!(seq a0.1 a1.1)) (some false) (cond (!(decide (a0.2.1 = a1.2.1))) (some false) (cond (!(seq a0.2.2.1 a1.2.2.1)) (some false) (some true)))
def laws_eqMatcher (n : Nat) (a0 : (ByteArray) × ((Int) × ((ByteArray) × (Unit)))) (a1 : (ByteArray) × ((Int) × ((ByteArray) × (Unit)))) : Option (Tup [.bool]) := goRec laws_eqMatcher.step n (.p0 a0 a1)
def laws_eqMatcher.spec : Ctr := ⟨168, [.v (.pair .str (.pair (.int .i64) (.pair .str .unit))), .v (.pair .str (.pair (.int .i64) (.pair .str .unit)))], [.bool], [], fun n x => laws_eqMatcher n x.1 x.2.1⟩
theorem laws_eqMatcher.seg_eq (n : Nat) (goto : Nat → St → Option (Tup [.bool])) (y : laws_eqMatcher.Pt) : seg ⟨ty, gl, laws_eqMatcher.md, calOf laws_eqMatcher.T n⟩ laws_eqMatcher.F.np laws_eqMatcher.F.ks goto (laws_eqMatcher.F.fin ⟨ty, gl, laws_eqMatcher.md, calOf laws_eqMatcher.T 0⟩ [.bool]) laws_eqMatcher.F.c (laws_eqMatcher.lb y) (laws_eqMatcher.st y) = laws_eqMatcher.step n (fun z => goto (laws_eqMatcher.lb z) (laws_eqMatcher.st z)) y := by
  cases y <;> kernel_rfl
theorem laws_eqMatcher.text : Text Go.Proofs.Try.prog laws_eqMatcher.F laws_eqMatcher.spec := ⟨⟨Go.Proofs.Try.f168, by kernel_rfl, by kernel_rfl, by decide +kernel, by kernel_rfl, by kernel_rfl, of_decide_eq_true (by kernel_rfl)⟩, fun _ => rfl, fun _ => rfl, rfl⟩
theorem laws_eqMatcher.ok : CtrOK Go.Proofs.Try.prog gl laws_eqMatcher.spec :=
  ctr_ok (T := laws_eqMatcher.T) (F := laws_eqMatcher.F) (lb := laws_eqMatcher.lb) (st := laws_eqMatcher.st) (step := laws_eqMatcher.step) (md := laws_eqMatcher.md) tabs laws_eqMatcher.text laws_eqMatcher.seg_eq (fun n x => ⟨.p0 x.1 x.2.1, rfl, rfl, rfl⟩) (nilC)

/-! loop.example/g00039/laws.eqMatcherS -/
def laws_eqMatcherS.T : List Ctr := [laws_eqMatcher.spec]
def laws_eqMatcherS.md : List (Nat × List Md) := []
noncomputable def laws_eqMatcherS.F : Fun := ⟨(Go.Proofs.Try.f106.body).getD .skip, [.v (.sl false (.pair .str (.pair (.int .i64) (.pair .str .unit)))), .v (.sl false (.pair .str (.pair (.int .i64) (.pair .str .unit))))], [(.tmp 4, .bool)], [], 0, [(15, ⟨[0, 1, 5], [], []⟩)]⟩
inductive laws_eqMatcherS.Pt where
  | p0 (a0 : List ((ByteArray) × ((Int) × ((ByteArray) × (Unit))))) (a1 : List ((ByteArray) × ((Int) × ((ByteArray) × (Unit)))))
  | p15 (y1 : List ((ByteArray) × ((Int) × ((ByteArray) × (Unit))))) (y2 : List ((ByteArray) × ((Int) × ((ByteArray) × (Unit))))) (y3 : Int)
def laws_eqMatcherS.lb : laws_eqMatcherS.Pt → Nat
  | .p0 _ _ => 0
  | .p15 _ _ _ => 15
def laws_eqMatcherS.st : laws_eqMatcherS.Pt → St
  | .p0 a0 a1 => enter [.v (.sl false (.pair .str (.pair (.int .i64) (.pair .str .unit)))) a0, .v (.sl false (.pair .str (.pair (.int .i64) (.pair .str .unit)))) a1] 0
  | .p15 y1 y2 y3 => ⟨[(0, .im (.sl false (.pair .str (.pair (.int .i64) (.pair .str .unit)))) y1), (1, .im (.sl false (.pair .str (.pair (.int .i64) (.pair .str .unit)))) y2), (5, .im (.int .i64) y3)], [], 0⟩
def laws_eqMatcherS.step (n : Nat) (K : laws_eqMatcherS.Pt → Option (Tup [.bool])) : laws_eqMatcherS.Pt → Option (Tup [.bool])
  | .p0 a0 a1 => cond (!(decide (((List.length a0) : Int) = ((List.length a1) : Int)))) (some false) (K (.p15 a0 a1 (0 : Int)))
  | .p15 y1 y2 y3 => cond (decide (y3 < ((List.length y1) : Int))) (cond (inB y3 (List.length y1)) (cond (inB y3 (List.length y2)) ((laws_eqMatcher n (List.getD y1 (Int.toNat y3) default) (List.getD y2 (Int.toNat y3) default)).bind fun r6 => cond (!r6) (some false) (K (.p15 y1 y2 (IntKind.wrap .i64 (y3 + (1 : Int)))))) (none)) (none)) (some true)
def laws_eqMatcherS (n : Nat) (a0 : List ((ByteArray) × ((Int) × ((ByteArray) × (Unit))))) (a1 : List ((ByteArray) × ((Int) × ((ByteArray) × (Unit))))) : Option (Tup [.bool]) := goRec laws_eqMatcherS.step n (.p0 a0 a1)
def laws_eqMatcherS.spec : Ctr := ⟨106, [.v (.sl false (.pair .str (.pair (.int .i64) (.pair .str .unit)))), .v (.sl false (.pair .str (.pair (.int .i64) (.pair .str .unit))))], [.bool], [], fun n x => laws_eqMatcherS n x.1 x.2.1⟩
theorem laws_eqMatcherS.seg_eq (n : Nat) (goto : Nat → St → Option (Tup [.bool])) (y : laws_eqMatcherS.Pt) : seg ⟨ty, gl, laws_eqMatcherS.md, calOf laws_eqMatcherS.T n⟩ laws_eqMatcherS.F.np laws_eqMatcherS.F.ks goto (laws_eqMatcherS.F.fin ⟨ty, gl, laws_eqMatcherS.md, calOf laws_eqMatcherS.T 0⟩ [.bool]) laws_eqMatcherS.F.c (laws_eqMatcherS.lb y) (laws_eqMatcherS.st y) = laws_eqMatcherS.step n (fun z => goto (laws_eqMatcherS.lb z) (laws_eqMatcherS.st z)) y := by
  cases y <;> kernel_rfl
theorem laws_eqMatcherS.text : Text Go.Proofs.Try.prog laws_eqMatcherS.F laws_eqMatcherS.spec := ⟨⟨Go.Proofs.Try.f106, by kernel_rfl, by kernel_rfl, by decide +kernel, by kernel_rfl, by kernel_rfl, of_decide_eq_true (by kernel_rfl)⟩, fun _ => rfl, fun _ => rfl, rfl⟩
theorem laws_eqMatcherS.ok : CtrOK Go.Proofs.Try.prog gl laws_eqMatcherS.spec :=
  ctr_ok (T := laws_eqMatcherS.T) (F := laws_eqMatcherS.F) (lb := laws_eqMatcherS.lb) (st := laws_eqMatcherS.st) (step := laws_eqMatcherS.step) (md := laws_eqMatcherS.md) tabs laws_eqMatcherS.text laws_eqMatcherS.seg_eq (fun n x => ⟨.p0 x.1 x.2.1, rfl, rfl, rfl⟩) (consC laws_eqMatcher.ok (nilC))

/-! loop.example/g00039/laws.eqStringS -/
def laws_eqStringS.T : List Ctr := []
def laws_eqStringS.md : List (Nat × List Md) := []
noncomputable def laws_eqStringS.F : Fun := ⟨(Go.Proofs.Try.f13.body).getD .skip, [.v (.sl false .str), .v (.sl false .str)], [(.tmp 4, .bool)], [], 0, [(15, ⟨[0, 1, 5], [], []⟩)]⟩
inductive laws_eqStringS.Pt where
  | p0 (a0 : List (ByteArray)) (a1 : List (ByteArray))
  | p15 (y1 : List (ByteArray)) (y2 : List (ByteArray)) (y3 : Int)
def laws_eqStringS.lb : laws_eqStringS.Pt → Nat
  | .p0 _ _ => 0
  | .p15 _ _ _ => 15
def laws_eqStringS.st : laws_eqStringS.Pt → St
  | .p0 a0 a1 => enter [.v (.sl false .str) a0, .v (.sl false .str) a1] 0
  | .p15 y1 y2 y3 => ⟨[(0, .im (.sl false .str) y1), (1, .im (.sl false .str) y2), (5, .im (.int .i64) y3)], [], 0⟩
def laws_eqStringS.step (n : Nat) (K : laws_eqStringS.Pt → Option (Tup [.bool])) : laws_eqStringS.Pt → Option (Tup [.bool])
  | .p0 a0 a1 => cond (!(decide (((List.length a0) : Int) = ((List.length a1) : Int)))) (some false) (K (.p15 a0 a1 (0 : Int)))
  | .p15 y1 y2 y3 => cond (decide (y3 < ((List.length y1) : Int))) (cond (inB y3 (List.length y1)) (cond (inB y3 (List.length y2)) (cond (!(seq (List.getD y1 (Int.toNat y3) default) (List.getD y2 (Int.toNat y3) default))) (some false) (K (.p15 y1 y2 (IntKind.wrap .i64 (y3 + (1 : Int)))))) (none)) (none)) (some true)
def laws_eqStringS (n : Nat) (a0 : List (ByteArray)) (a1 : List (ByteArray)) : Option (Tup [.bool]) := goRec laws_eqStringS.step n (.p0 a0 a1)
def laws_eqStringS.spec : Ctr := ⟨13, [.v (.sl false .str), .v (.sl false .str)], [.bool], [], fun n x => laws_eqStringS n x.1 x.2.1⟩
theorem laws_eqStringS.seg_eq (n : Nat) (goto : Nat → St → Option (Tup [.bool])) (y : laws_eqStringS.Pt) : seg ⟨ty, gl, laws_eqStringS.md, calOf laws_eqStringS.T n⟩ laws_eqStringS.F.np laws_eqStringS.F.ks goto (laws_eqStringS.F.fin ⟨ty, gl, laws_eqStringS.md, calOf laws_eqStringS.T 0⟩ [.bool]) laws_eqStringS.F.c (laws_eqStringS.lb y) (laws_eqStringS.st y) = laws_eqStringS.step n (fun z => goto (laws_eqStringS.lb z) (laws_eqStringS.st z)) y := by
  cases y <;> kernel_rfl
theorem laws_eqStringS.text : Text Go.Proofs.Try.prog laws_eqStringS.F laws_eqStringS.spec := ⟨⟨Go.Proofs.Try.f13, by kernel_rfl, by kernel_rfl, by decide +kernel, by kernel_rfl, by kernel_rfl, of_decide_eq_true (by kernel_rfl)⟩, fun _ => rfl, fun _ => rfl, rfl⟩
theorem laws_eqStringS.ok : CtrOK Go.Proofs.Try.prog gl laws_eqStringS.spec :=
  ctr_ok (T := laws_eqStringS.T) (F := laws_eqStringS.F) (lb := laws_eqStringS.lb) (st := laws_eqStringS.st) (step := laws_eqStringS.step) (md := laws_eqStringS.md) tabs laws_eqStringS.text laws_eqStringS.seg_eq (fun n x => ⟨.p0 x.1 x.2.1, rfl, rfl, rfl⟩) (nilC)

/-! loop.example/g00039/laws.eqInhibit -/
def laws_eqInhibit.T : List Ctr := [laws_eqMatcherS.spec, laws_eqStringS.spec]
def laws_eqInhibit.md : List (Nat × List Md) := []
noncomputable def laws_eqInhibit.F : Fun := ⟨(Go.Proofs.Try.f68.body).getD .skip, [.v (.pair (.sl false (.pair .str (.pair (.int .i64) (.pair .str .unit)))) (.pair (.sl false (.pair .str (.pair (.int .i64) (.pair .str .unit)))) (.pair (.sl false .str) .unit))), .v (.pair (.sl false (.pair .str (.pair (.int .i64) (.pair .str .unit)))) (.pair (.sl false (.pair .str (.pair (.int .i64) (.pair .str .unit)))) (.pair (.sl false .str) .unit)))], [(.tmp 4, .bool)], [], 0, []⟩
inductive laws_eqInhibit.Pt where
  | p0 (a0 : (List ((ByteArray) × ((Int) × ((ByteArray) × (Unit))))) × ((List ((ByteArray) × ((Int) × ((ByteArray) × (Unit))))) × ((List (ByteArray)) × (Unit)))) (a1 : (List ((ByteArray) × ((Int) × ((ByteArray) × (Unit))))) × ((List ((ByteArray) × ((Int) × ((ByteArray) × (Unit))))) × ((List (ByteArray)) × (Unit))))
def laws_eqInhibit.lb : laws_eqInhibit.Pt → Nat
  | .p0 _ _ => 0
def laws_eqInhibit.st : laws_eqInhibit.Pt → St
  | .p0 a0 a1 => enter [.v (.pair (.sl false (.pair .str (.pair (.int .i64) (.pair .str .unit)))) (.pair (.sl false (.pair .str (.pair (.int .i64) (.pair .str .unit)))) (.pair (.sl false .str) .unit))) a0, .v (.pair (.sl false (.pair .str (.pair (.int .i64) (.pair .str .unit)))) (.pair (.sl false (.pair .str (.pair (.int .i64) (.pair .str .unit)))) (.pair (.sl false .str) .unit))) a1] 0
def laws_eqInhibit.step (n : Nat) (K : laws_eqInhibit.Pt → Option (Tup [.bool])) : laws_eqInhibit.Pt → Option (Tup [.bool])
  | .p0 a0 a1 => (laws_eqMatcherS n a0.1 a1.1).bind fun r5 => cond (!r5) (some false) ((laws_eqMatcherS n a0.2.1 a1.2.1).bind fun r6 => cond (!r6) (some false) ((laws_eqStringS n a0.2.2.1 a1.2.2.1).bind fun r7 => cond (!r7) (some false) (some true)))
def laws_eqInhibit (n : Nat) (a0 : (List ((ByteArray) × ((Int) × ((ByteArray) × (Unit))))) × ((List ((ByteArray) × ((Int) × ((ByteArray) × (Unit))))) × ((List (ByteArray)) × (Unit)))) (a1 : (List ((ByteArray) × ((Int) × ((ByteArray) × (Unit))))) × ((List ((ByteArray) × ((Int) × ((ByteArray) × (Unit))))) × ((List (ByteArray)) × (Unit)))) : Option (Tup [.bool]) := goRec laws_eqInhibit.step n (.p0 a0 a1)
def laws_eqInhibit.spec : Ctr := ⟨68, [.v (.pair (.sl false (.pair .str (.pair (.int .i64) (.pair .str .unit)))) (.pair (.sl false (.pair .str (.pair (.int .i64) (.pair .str .unit)))) (.pair (.sl false .str) .unit))), .v (.pair (.sl false (.pair .str (.pair (.int .i64) (.pair .str .unit)))) (.pair (.sl false (.pair .str (.pair (.int .i64) (.pair .str .unit)))) (.pair (.sl false .str) .unit)))], [.bool], [], fun n x => laws_eqInhibit n x.1 x.2.1⟩
theorem laws_eqInhibit.seg_eq (n : Nat) (goto : Nat → St → Option (Tup [.bool])) (y : laws_eqInhibit.Pt) : seg ⟨ty, gl, laws_eqInhibit.md, calOf laws_eqInhibit.T n⟩ laws_eqInhibit.F.np laws_eqInhibit.F.ks goto (laws_eqInhibit.F.fin ⟨ty, gl, laws_eqInhibit.md, calOf laws_eqInhibit.T 0⟩ [.bool]) laws_eqInhibit.F.c (laws_eqInhibit.lb y) (laws_eqInhibit.st y) = laws_eqInhibit.step n (fun z => goto (laws_eqInhibit.lb z) (laws_eqInhibit.st z)) y := by
  cases y <;> kernel_rfl
theorem laws_eqInhibit.text : Text Go.Proofs.Try.prog laws_eqInhibit.F laws_eqInhibit.spec := ⟨⟨Go.Proofs.Try.f68, by kernel_rfl, by kernel_rfl, by decide +kernel, by kernel_rfl, by kernel_rfl, of_decide_eq_true (by kernel_rfl)⟩, fun _ => rfl, fun _ => rfl, rfl⟩
theorem laws_eqInhibit.ok : CtrOK Go.Proofs.Try.prog gl laws_eqInhibit.spec :=
  ctr_ok (T := laws_eqInhibit.T) (F := laws_eqInhibit.F) (lb := laws_eqInhibit.lb) (st := laws_eqInhibit.st) (step := laws_eqInhibit.step) (md := laws_eqInhibit.md) tabs laws_eqInhibit.text laws_eqInhibit.seg_eq (fun n x => ⟨.p0 x.1 x.2.1, rfl, rfl, rfl⟩) (consC laws_eqMatcherS.ok (consC laws_eqStringS.ok (nilC)))

/-! loop.example/g00039/laws.eqInhibitS -/
def laws_eqInhibitS.T : List Ctr := [laws_eqInhibit.spec]
def laws_eqInhibitS.md : List (Nat × List Md) := []
noncomputable def laws_eqInhibitS.F : Fun := ⟨(Go.Proofs.Try.f26.body).getD .skip, [.v (.sl false (.pair (.sl false (.pair .str (.pair (.int .i64) (.pair .str .unit)))) (.pair (.sl false (.pair .str (.pair (.int .i64) (.pair .str .unit)))) (.pair (.sl false .str) .unit)))), .v (.sl false (.pair (.sl false (.pair .str (.pair (.int .i64) (.pair .str .unit)))) (.pair (.sl false (.pair .str (.pair (.int .i64) (.pair .str .unit)))) (.pair (.sl false .str) .unit))))], [(.tmp 4, .bool)], [], 0, [(15, ⟨[0, 1, 5], [], []⟩)]⟩
inductive laws_eqInhibitS.Pt where
  | p0 (a0 : List ((List ((ByteArray) × ((Int) × ((ByteArray) × (Unit))))) × ((List ((ByteArray) × ((Int) × ((ByteArray) × (Unit))))) × ((List (ByteArray)) × (Unit))))) (a1 : List ((List ((ByteArray) × ((Int) × ((ByteArray) × (Unit))))) × ((List ((ByteArray) × ((Int) × ((ByteArray) × (Unit))))) × ((List (ByteArray)) × (Unit)))))
  | p15 (y1 : List ((List ((ByteArray) × ((Int) × ((ByteArray) × (Unit))))) × ((List ((ByteArray) × ((Int) × ((ByteArray) × (Unit))))) × ((List (ByteArray)) × (Unit))))) (y2 : List ((List ((ByteArray) × ((Int) × ((ByteArray) × (Unit))))) × ((List ((ByteArray) × ((Int) × ((ByteArray) × (Unit))))) × ((List (ByteArray)) × (Unit))))) (y3 : Int)
def laws_eqInhibitS.lb : laws_eqInhibitS.Pt → Nat
  | .p0 _ _ => 0
  | .p15 _ _ _ => 15
def laws_eqInhibitS.st : laws_eqInhibitS.Pt → St
  | .p0 a0 a1 => enter [.v (.sl false (.pair (.sl false (.pair .str (.pair (.int .i64) (.pair .str .unit)))) (.pair (.sl false (.pair .str (.pair (.int .i64) (.pair .str .unit)))) (.pair (.sl false .str) .unit)))) a0, .v (.sl false (.pair (.sl false (.pair .str (.pair (.int .i64) (.pair .str .unit)))) (.pair (.sl false (.pair .str (.pair (.int .i64) (.pair .str .unit)))) (.pair (.sl false .str) .unit)))) a1] 0
  | .p15 y1 y2 y3 => ⟨[(0, .im (.sl false (.pair (.sl false (.pair .str (.pair (.int .i64) (.pair .str .unit)))) (.pair (.sl false (.pair .str (.pair (.int .i64) (.pair .str .unit)))) (.pair (.sl false .str) .unit)))) y1), (1, .im (.sl false (.pair (.sl false (.pair .str (.pair (.int .i64) (.pair .str .unit)))) (.pair (.sl false (.pair .str (.pair (.int .i64) (.pair .str .unit)))) (.pair (.sl false .str) .unit)))) y2), (5, .im (.int .i64) y3)], [], 0⟩
def laws_eqInhibitS.step (n : Nat) (K : laws_eqInhibitS.Pt → Option (Tup [.bool])) : laws_eqInhibitS.Pt → Option (Tup [.bool])
  | .p0 a0 a1 => cond (!(decide (((List.length a0) : Int) = ((List.length a1) : Int)))) (some false) (K (.p15 a0 a1 (0 : Int)))
  | .p15 y1 y2 y3 => cond (decide (y3 < ((List.length y1) : Int))) (cond (inB y3 (List.length y1)) (cond (inB y3 (List.length y2)) ((laws_eqInhibit n ((List.getD y1 (Int.toNat y3) default).1, ((List.getD y1 (Int.toNat y3) default).2.1, ((List.getD y1 (Int.toNat y3) default).2.2.1, ()))) ((List.getD y2 (Int.toNat y3) default).1, ((List.getD y2 (Int.toNat y3) default).2.1, ((List.getD y2 (Int.toNat y3) default).2.2.1, ())))).bind fun r6 => cond (!r6) (some false) (K (.p15 y1 y2 (IntKind.wrap .i64 (y3 + (1 : Int)))))) (none)) (none)) (some true)
def laws_eqInhibitS (n : Nat) (a0 : List ((List ((ByteArray) × ((Int) × ((ByteArray) × (Unit))))) × ((List ((ByteArray) × ((Int) × ((ByteArray) × (Unit))))) × ((List (ByteArray)) × (Unit))))) (a1 : List ((List ((ByteArray) × ((Int) × ((ByteArray) × (Unit))))) × ((List ((ByteArray) × ((Int) × ((ByteArray) × (Unit))))) × ((List (ByteArray)) × (Unit))))) : Option (Tup [.bool]) := goRec laws_eqInhibitS.step n (.p0 a0 a1)
def laws_eqInhibitS.spec : Ctr := ⟨26, [.v (.sl false (.pair (.sl false (.pair .str (.pair (.int .i64) (.pair .str .unit)))) (.pair (.sl false (.pair .str (.pair (.int .i64) (.pair .str .unit)))) (.pair (.sl false .str) .unit)))), .v (.sl false (.pair (.sl false (.pair .str (.pair (.int .i64) (.pair .str .unit)))) (.pair (.sl false (.pair .str (.pair (.int .i64) (.pair .str .unit)))) (.pair (.sl false .str) .unit))))], [.bool], [], fun n x => laws_eqInhibitS n x.1 x.2.1⟩
theorem laws_eqInhibitS.seg_eq (n : Nat) (goto : Nat → St → Option (Tup [.bool])) (y : laws_eqInhibitS.Pt) : seg ⟨ty, gl, laws_eqInhibitS.md, calOf laws_eqInhibitS.T n⟩ laws_eqInhibitS.F.np laws_eqInhibitS.F.ks goto (laws_eqInhibitS.F.fin ⟨ty, gl, laws_eqInhibitS.md, calOf laws_eqInhibitS.T 0⟩ [.bool]) laws_eqInhibitS.F.c (laws_eqInhibitS.lb y) (laws_eqInhibitS.st y) = laws_eqInhibitS.step n (fun z => goto (laws_eqInhibitS.lb z) (laws_eqInhibitS.st z)) y := by
  cases y <;> kernel_rfl
theorem laws_eqInhibitS.text : Text Go.Proofs.Try.prog laws_eqInhibitS.F laws_eqInhibitS.spec := ⟨⟨Go.Proofs.Try.f26, by kernel_rfl, by kernel_rfl, by decide +kernel, by kernel_rfl, by kernel_rfl, of_decide_eq_true (by kernel_rfl)⟩, fun _ => rfl, fun _ => rfl, rfl⟩
theorem laws_eqInhibitS.ok : CtrOK Go.Proofs.Try.prog gl laws_eqInhibitS.spec :=
  ctr_ok (T := laws_eqInhibitS.T) (F := laws_eqInhibitS.F) (lb := laws_eqInhibitS.lb) (st := laws_eqInhibitS.st) (step := laws_eqInhibitS.step) (md := laws_eqInhibitS.md) tabs laws_eqInhibitS.text laws_eqInhibitS.seg_eq (fun n x => ⟨.p0 x.1 x.2.1, rfl, rfl, rfl⟩) (consC laws_eqInhibit.ok (nilC))

/-! loop.example/g00039/laws.eqLabel -/
def laws_eqLabel.T : List Ctr := []
def laws_eqLabel.md : List (Nat × List Md) := []
noncomputable def laws_eqLabel.F : Fun := ⟨(Go.Proofs.Try.f57.body).getD .skip, [.v (.pair .str (.pair .str .unit)), .v (.pair .str (.pair .str .unit))], [(.tmp 4, .bool)], [], 0, []⟩
inductive laws_eqLabel.Pt where
  | p0 (a0 : (ByteArray) × ((ByteArray) × (Unit))) (a1 : (ByteArray) × ((ByteArray) × (Unit)))
def laws_eqLabel.lb : laws_eqLabel.Pt → Nat
  | .p0 _ _ => 0
def laws_eqLabel.st : laws_eqLabel.Pt → St
  | .p0 a0 a1 => enter [.v (.pair .str (.pair .str .unit)) a0, .v (.pair .str (.pair .str .unit)) a1] 0
def laws_eqLabel.step (n : Nat) (K : laws_eqLabel.Pt → Option (Tup [.bool])) : laws_eqLabel.Pt → Option (Tup [.bool])
  | .p0 a0 a1 => cond (!(seq a0.1 a1.1)) (some false) (cond (!(seq a0.2.1 a1.2.1)) (some false) (some true))
def laws_eqLabel (n : Nat) (a0 : (ByteArray) × ((ByteArray) × (Unit))) (a1 : (ByteArray) × ((ByteArray) × (Unit))) : Option (Tup [.bool]) := goRec laws_eqLabel.step n (.p0 a0 a1)
def laws_eqLabel.spec : Ctr := ⟨57, [.v (.pair .str (.pair .str .unit)), .v (.pair .str (.pair .str .unit))], [.bool], [], fun n x => laws_eqLabel n x.1 x.2.1⟩
theorem laws_eqLabel.seg_eq (n : Nat) (goto : Nat → St → Option (Tup [.bool])) (y : laws_eqLabel.Pt) : seg ⟨ty, gl, laws_eqLabel.md, calOf laws_eqLabel.T n⟩ laws_eqLabel.F.np laws_eqLabel.F.ks goto (laws_eqLabel.F.fin ⟨ty, gl, laws_eqLabel.md, calOf laws_eqLabel.T 0⟩ [.bool]) laws_eqLabel.F.c (laws_eqLabel.lb y) (laws_eqLabel.st y) = laws_eqLabel.step n (fun z => goto (laws_eqLabel.lb z) (laws_eqLabel.st z)) y := by
  cases y <;> kernel_rfl
theorem laws_eqLabel.text : Text Go.Proofs.Try.prog laws_eqLabel.F laws_eqLabel.spec := ⟨⟨Go.Proofs.Try.f57, by kernel_rfl, by kernel_rfl, by decide +kernel, by kernel_rfl, by kernel_rfl, of_decide_eq_true (by kernel_rfl)⟩, fun _ => rfl, fun _ => rfl, rfl⟩
theorem laws_eqLabel.ok : CtrOK Go.Proofs.Try.prog gl laws_eqLabel.spec :=
  ctr_ok (T := laws_eqLabel.T) (F := laws_eqLabel.F) (lb := laws_eqLabel.lb) (st := laws_eqLabel.st) (step := laws_eqLabel.step) (md := laws_eqLabel.md) tabs laws_eqLabel.text laws_eqLabel.seg_eq (fun n x => ⟨.p0 x.1 x.2.1, rfl, rfl, rfl⟩) (nilC)

/-! loop.example/g00039/laws.eqLabelS -/
def laws_eqLabelS.T : List Ctr := [laws_eqLabel.spec]
def laws_eqLabelS.md : List (Nat × List Md) := []
noncomputable def laws_eqLabelS.F : Fun := ⟨(Go.Proofs.Try.f15.body).getD .skip, [.v (.sl false (.pair .str (.pair .str .unit))), .v (.sl false (.pair .str (.pair .str .unit)))], [(.tmp 4, .bool)], [], 0, [(15, ⟨[0, 1, 5], [], []⟩)]⟩
inductive laws_eqLabelS.Pt where
  | p0 (a0 : List ((ByteArray) × ((ByteArray) × (Unit)))) (a1 : List ((ByteArray) × ((ByteArray) × (Unit))))
  | p15 (y1 : List ((ByteArray) × ((ByteArray) × (Unit)))) (y2 : List ((ByteArray) × ((ByteArray) × (Unit)))) (y3 : Int)
def laws_eqLabelS.lb : laws_eqLabelS.Pt → Nat
  | .p0 _ _ => 0
  | .p15 _ _ _ => 15
def laws_eqLabelS.st : laws_eqLabelS.Pt → St
  | .p0 a0 a1 => enter [.v (.sl false (.pair .str (.pair .str .unit))) a0, .v (.sl false (.pair .str (.pair .str .unit))) a1] 0
  | .p15 y1 y2 y3 => ⟨[(0, .im (.sl false (.pair .str (.pair .str .unit))) y1), (1, .im (.sl false (.pair .str (.pair .str .unit))) y2), (5, .im (.int .i64) y3)], [], 0⟩
def laws_eqLabelS.step (n : Nat) (K : laws_eqLabelS.Pt → Option (Tup [.bool])) : laws_eqLabelS.Pt → Option (Tup [.bool])
  | .p0 a0 a1 => cond (!(decide (((List.length a0) : Int) = ((List.length a1) : Int)))) (some false) (K (.p15 a0 a1 (0 : Int)))
  | .p15 y1 y2 y3 => cond (decide (y3 < ((List.length y1) : Int))) (cond (inB y3 (List.length y1)) (cond (inB y3 (List.length y2)) ((laws_eqLabel n (List.getD y1 (Int.toNat y3) default) (List.getD y2 (Int.toNat y3) default)).bind fun r6 => cond (!r6) (some false) (K (.p15 y1 y2 (IntKind.wrap .i64 (y3 + (1 : Int)))))) (none)) (none)) (some true)
def laws_eqLabelS (n : Nat) (a0 : List ((ByteArray) × ((ByteArray) × (Unit)))) (a1 : List ((ByteArray) × ((ByteArray) × (Unit)))) : Option (Tup [.bool]) := goRec laws_eqLabelS.step n (.p0 a0 a1)
def laws_eqLabelS.spec : Ctr := ⟨15, [.v (.sl false (.pair .str (.pair .str .unit))), .v (.sl false (.pair .str (.pair .str .unit)))], [.bool], [], fun n x => laws_eqLabelS n x.1 x.2.1⟩
theorem laws_eqLabelS.seg_eq (n : Nat) (goto : Nat → St → Option (Tup [.bool])) (y : laws_eqLabelS.Pt) : seg ⟨ty, gl, laws_eqLabelS.md, calOf laws_eqLabelS.T n⟩ laws_eqLabelS.F.np laws_eqLabelS.F.ks goto (laws_eqLabelS.F.fin ⟨ty, gl, laws_eqLabelS.md, calOf laws_eqLabelS.T 0⟩ [.bool]) laws_eqLabelS.F.c (laws_eqLabelS.lb y) (laws_eqLabelS.st y) = laws_eqLabelS.step n (fun z => goto (laws_eqLabelS.lb z) (laws_eqLabelS.st z)) y := by
  cases y <;> kernel_rfl
theorem laws_eqLabelS.text : Text Go.Proofs.Try.prog laws_eqLabelS.F laws_eqLabelS.spec := ⟨⟨Go.Proofs.Try.f15, by kernel_rfl, by kernel_rfl, by decide +kernel, by kernel_rfl, by kernel_rfl, of_decide_eq_true (by kernel_rfl)⟩, fun _ => rfl, fun _ => rfl, rfl⟩
theorem laws_eqLabelS.ok : CtrOK Go.Proofs.Try.prog gl laws_eqLabelS.spec :=
  ctr_ok (T := laws_eqLabelS.T) (F := laws_eqLabelS.F) (lb := laws_eqLabelS.lb) (st := laws_eqLabelS.st) (step := laws_eqLabelS.step) (md := laws_eqLabelS.md) tabs laws_eqLabelS.text laws_eqLabelS.seg_eq (fun n x => ⟨.p0 x.1 x.2.1, rfl, rfl, rfl⟩) (consC laws_eqLabel.ok (nilC))

/-! loop.example/g00039/laws.eqLabelSS -/
def laws_eqLabelSS.T : List Ctr := [laws_eqLabelS.spec]
def laws_eqLabelSS.md : List (Nat × List Md) := []
noncomputable def laws_eqLabelSS.F : Fun := ⟨(Go.Proofs.Try.f27.body).getD .skip, [.v (.sl false (.sl false (.pair .str (.pair .str .unit)))), .v (.sl false (.sl false (.pair .str (.pair .str .unit))))], [(.tmp 4, .bool)], [], 0, [(15, ⟨[0, 1, 5], [], []⟩)]⟩
inductive laws_eqLabelSS.Pt where
  | p0 (a0 : List (List ((ByteArray) × ((ByteArray) × (Unit))))) (a1 : List (List ((ByteArray) × ((ByteArray) × (Unit)))))
  | p15 (y1 : List (List ((ByteArray) × ((ByteArray) × (Unit))))) (y2 : List (List ((ByteArray) × ((ByteArray) × (Unit))))) (y3 : Int)
def laws_eqLabelSS.lb : laws_eqLabelSS.Pt → Nat
  | .p0 _ _ => 0
  | .p15 _ _ _ => 15
def laws_eqLabelSS.st : laws_eqLabelSS.Pt → St
  | .p0 a0 a1 => enter [.v (.sl false (.sl false (.pair .str (.pair .str .unit)))) a0, .v (.sl false (.sl false (.pair .str (.pair .str .unit)))) a1] 0
  | .p15 y1 y2 y3 => ⟨[(0, .im (.sl false (.sl false (.pair .str (.pair .str .unit)))) y1), (1, .im (.sl false (.sl false (.pair .str (.pair .str .unit)))) y2), (5, .im (.int .i64) y3)], [], 0⟩
def laws_eqLabelSS.step (n : Nat) (K : laws_eqLabelSS.Pt → Option (Tup [.bool])) : laws_eqLabelSS.Pt → Option (Tup [.bool])
  | .p0 a0 a1 => cond (!(decide (((List.length a0) : Int) = ((List.length a1) : Int)))) (some false) (K (.p15 a0 a1 (0 : Int)))
  | .p15 y1 y2 y3 => cond (decide (y3 < ((List.length y1) : Int))) (cond (inB y3 (List.length y1)) (cond (inB y3 (List.length y2)) ((laws_eqLabelS n (List.getD y1 (Int.toNat y3) default) (List.getD y2 (Int.toNat y3) default)).bind fun r6 => cond (!r6) (some false) (K (.p15 y1 y2 (IntKind.wrap .i64 (y3 + (1 : Int)))))) (none)) (none)) (some true)
def laws_eqLabelSS (n : Nat) (a0 : List (List ((ByteArray) × ((ByteArray) × (Unit))))) (a1 : List (List ((ByteArray) × ((ByteArray) × (Unit))))) : Option (Tup [.bool]) := goRec laws_eqLabelSS.step n (.p0 a0 a1)
def laws_eqLabelSS.spec : Ctr := ⟨27, [.v (.sl false (.sl false (.pair .str (.pair .str .unit)))), .v (.sl false (.sl false (.pair .str (.pair .str .unit))))], [.bool], [], fun n x => laws_eqLabelSS n x.1 x.2.1⟩
theorem laws_eqLabelSS.seg_eq (n : Nat) (goto : Nat → St → Option (Tup [.bool])) (y : laws_eqLabelSS.Pt) : seg ⟨ty, gl, laws_eqLabelSS.md, calOf laws_eqLabelSS.T n⟩ laws_eqLabelSS.F.np laws_eqLabelSS.F.ks goto (laws_eqLabelSS.F.fin ⟨ty, gl, laws_eqLabelSS.md, calOf laws_eqLabelSS.T 0⟩ [.bool]) laws_eqLabelSS.F.c (laws_eqLabelSS.lb y) (laws_eqLabelSS.st y) = laws_eqLabelSS.step n (fun z => goto (laws_eqLabelSS.lb z) (laws_eqLabelSS.st z)) y := by
  cases y <;> kernel_rfl
theorem laws_eqLabelSS.text : Text Go.Proofs.Try.prog laws_eqLabelSS.F laws_eqLabelSS.spec := ⟨⟨Go.Proofs.Try.f27, by kernel_rfl, by kernel_rfl, by decide +kernel, by kernel_rfl, by kernel_rfl, of_decide_eq_true (by kernel_rfl)⟩, fun _ => rfl, fun _ => rfl, rfl⟩
theorem laws_eqLabelSS.ok : CtrOK Go.Proofs.Try.prog gl laws_eqLabelSS.spec :=
  ctr_ok (T := laws_eqLabelSS.T) (F := laws_eqLabelSS.F) (lb := laws_eqLabelSS.lb) (st := laws_eqLabelSS.st) (step := laws_eqLabelSS.step) (md := laws_eqLabelSS.md) tabs laws_eqLabelSS.text laws_eqLabelSS.seg_eq (fun n x => ⟨.p0 x.1 x.2.1, rfl, rfl, rfl⟩) (consC laws_eqLabelS.ok (nilC))

/-! loop.example/g00039/laws.FnExactInhibited -/
def laws_FnExactInhibited.T : List Ctr := [laws_szInhibitS.spec, laws_szLabelS.spec, laws_szLabelSS.spec, laws_toInhibitS.spec, laws_toLabelS.spec, laws_toLabelSS.spec, spec_Inhibited.spec, impl_Inhibited.spec, laws_eqInhibitS.spec, laws_eqLabelS.spec, laws_eqLabelSS.spec]
def laws_FnExactInhibited.md : List (Nat × List Md) := []
noncomputable def laws_FnExactInhibited.F : Fun := ⟨(Go.Proofs.Try.f4.body).getD .skip, [.v (.sl false (.pair (.sl false (.pair .str (.pair (.int .i64) (.pair .str .unit)))) (.pair (.sl false (.pair .str (.pair (.int .i64) (.pair .str .unit)))) (.pair (.sl false .str) .unit)))), .v (.sl false (.sl false (.pair .str (.pair .str .unit)))), .v (.sl false (.pair .str (.pair .str .unit)))], [(.tmp 6, .bool)], [], 0, []⟩
inductive laws_FnExactInhibited.Pt where
  | p0 (a0 : List ((List ((ByteArray) × ((Int) × ((ByteArray) × (Unit))))) × ((List ((ByteArray) × ((Int) × ((ByteArray) × (Unit))))) × ((List (ByteArray)) × (Unit))))) (a1 : List (List ((ByteArray) × ((ByteArray) × (Unit))))) (a2 : List ((ByteArray) × ((ByteArray) × (Unit))))
def laws_FnExactInhibited.lb : laws_FnExactInhibited.Pt → Nat
  | .p0 _ _ _ => 0
def laws_FnExactInhibited.st : laws_FnExactInhibited.Pt → St
  | .p0 a0 a1 a2 => enter [.v (.sl false (.pair (.sl false (.pair .str (.pair (.int .i64) (.pair .str .unit)))) (.pair (.sl false (.pair .str (.pair (.int .i64) (.pair .str .unit)))) (.pair (.sl false .str) .unit)))) a0, .v (.sl false (.sl false (.pair .str (.pair .str .unit)))) a1, .v (.sl false (.pair .str (.pair .str .unit))) a2] 0
def laws_FnExactInhibited.step (n : Nat) (K : laws_FnExactInhibited.Pt → Option (Tup [.bool])) : laws_FnExactInhibited.Pt → Option (Tup [.bool])
  | .p0 a0 a1 a2 => (laws_szInhibitS n a0 (1048576 : Int)).bind fun (r6 : Int) => cond (decide (r6 < (0 : Int))) (some true) ((laws_szLabelSS n a1 r6).bind fun (r7 : Int) => cond (decide (r7 < (0 : Int))) (some true) ((laws_szLabelS n a2 r7).bind fun (r8 : Int) => cond (decide (r8 < (0 : Int))) (some true) ((laws_toInhibitS n a0).bind fun r9 => (laws_toLabelSS n a1).bind fun r10 => (laws_toLabelS n a2).bind fun r11 => (spec_Inhibited n r9 r10 r11).bind fun r12 => (laws_toInhibitS n a0).bind fun r13 => (laws_toLabelSS n a1).bind fun r14 => (laws_toLabelS n a2).bind fun r15 => (impl_Inhibited n r13 r14 r15).bind fun r16 => cond (r16 != r12) (some false) ((laws_toInhibitS n a0).bind fun r17 => (laws_eqInhibitS n r13 r17).bind fun r18 => cond (!r18) (some false) ((laws_toLabelSS n a1).bind fun r19 => (laws_eqLabelSS n r14 r19).bind fun r20 => cond (!r20) (some false) ((laws_toLabelS n a2).bind fun r21 => (laws_eqLabelS n r15 r21).bind fun r22 => cond (!r22) (some false) (some true)))))))
def laws_FnExactInhibited (n : Nat) (a0 : List ((List ((ByteArray) × ((Int) × ((ByteArray) × (Unit))))) × ((List ((ByteArray) × ((Int) × ((ByteArray) × (Unit))))) × ((List (ByteArray)) × (Unit))))) (a1 : List (List ((ByteArray) × ((ByteArray) × (Unit))))) (a2 : List ((ByteArray) × ((ByteArray) × (Unit)))) : Option (Tup [.bool]) := goRec laws_FnExactInhibited.step n (.p0 a0 a1 a2)
def laws_FnExactInhibited.spec : Ctr := ⟨4, [.v (.sl false (.pair (.sl false (.pair .str (.pair (.int .i64) (.pair .str .unit)))) (.pair (.sl false (.pair .str (.pair (.int .i64) (.pair .str .unit)))) (.pair (.sl false .str) .unit)))), .v (.sl false (.sl false (.pair .str (.pair .str .unit)))), .v (.sl false (.pair .str (.pair .str .unit)))], [.bool], [], fun n x => laws_FnExactInhibited n x.1 x.2.1 x.2.2.1⟩
theorem laws_FnExactInhibited.seg_eq (n : Nat) (goto : Nat → St → Option (Tup [.bool])) (y : laws_FnExactInhibited.Pt) : seg ⟨ty, gl, laws_FnExactInhibited.md, calOf laws_FnExactInhibited.T n⟩ laws_FnExactInhibited.F.np laws_FnExactInhibited.F.ks goto (laws_FnExactInhibited.F.fin ⟨ty, gl, laws_FnExactInhibited.md, calOf laws_FnExactInhibited.T 0⟩ [.bool]) laws_FnExactInhibited.F.c (laws_FnExactInhibited.lb y) (laws_FnExactInhibited.st y) = laws_FnExactInhibited.step n (fun z => goto (laws_FnExactInhibited.lb z) (laws_FnExactInhibited.st z)) y := by
  cases y <;> kernel_rfl
theorem laws_FnExactInhibited.text : Text Go.Proofs.Try.prog laws_FnExactInhibited.F laws_FnExactInhibited.spec := ⟨⟨Go.Proofs.Try.f4, by kernel_rfl, by kernel_rfl, by decide +kernel, by kernel_rfl, by kernel_rfl, of_decide_eq_true (by kernel_rfl)⟩, fun _ => rfl, fun _ => rfl, rfl⟩
theorem laws_FnExactInhibited.ok : CtrOK Go.Proofs.Try.prog gl laws_FnExactInhibited.spec :=
  ctr_ok (T := laws_FnExactInhibited.T) (F := laws_FnExactInhibited.F) (lb := laws_FnExactInhibited.lb) (st := laws_FnExactInhibited.st) (step := laws_FnExactInhibited.step) (md := laws_FnExactInhibited.md) tabs laws_FnExactInhibited.text laws_FnExactInhibited.seg_eq (fun n x => ⟨.p0 x.1 x.2.1 x.2.2.1, rfl, rfl, rfl⟩) (consC laws_szInhibitS.ok (consC laws_szLabelS.ok (consC laws_szLabelSS.ok (consC laws_toInhibitS.ok (consC laws_toLabelS.ok (consC laws_toLabelSS.ok (consC spec_Inhibited.ok (consC impl_Inhibited.ok (consC laws_eqInhibitS.ok (consC laws_eqLabelS.ok (consC laws_eqLabelSS.ok (nilC))))))))))))
end Go.IH
