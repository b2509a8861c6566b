/- The functions that the law reaches, each as a Lean function and with its contract, part 2. -/
import Derived.Test.YtcfcnnamjfgahabV1
import Derived.Test.YtcfcnnamjfgahabV2
import Derived.Test.YtcfcnnamjfgahabV3
import Derived.Test.YtcfcnnamjfgahabV4
import Derived.Tactics
import Derived.Tactics2
import Derived.WalkKit
import Derived.Shelf.RegionOpenPlain
import Derived.Shelf.Spec.SlicesInsertGrow
import Derived.Lib.Overlaps
import Derived.Test.YtcfcnnamjfgahabProg
import Derived.Test.YtcfcnnamjfgahabFPuts1
open Go Go.VM
namespace Go.FP
set_option maxRecDepth 100000
set_option linter.unusedVariables false
set_option linter.unusedSimpArgs false
set_option linter.unusedSectionVars false
variable [Bor]
/-! slices.Insert[[]loop.example/g00039/impl.Sample,loop.example/g00039/impl.Sample] -/
def slices_Insert_Sample (n : Nat) (a0 : List (U.El ((.pair (.int .i64) (.pair (.int .i64) .unit))))) (a1 : Int) (a2 : List (U.El ((.pair (.int .i64) (.pair (.int .i64) .unit))))) : Option (List (U.El ((.pair (.int .i64) (.pair (.int .i64) .unit))))) := hold n (cond (decide (0 ≤ a1) && decide (a1 ≤ (a0.length : Int)) && decide (a0.length ≤ 1000000) && Nat.beq a2.length 1) (some (a0.take a1.toNat ++ a2 ++ a0.drop a1.toNat)) none)
def slices_Insert_Sample.spec : Ctr := ⟨144, [.g (.sl false ((.pair (.int .i64) (.pair (.int .i64) .unit)))), .v (.int .i64), .g (.sl false ((.pair (.int .i64) (.pair (.int .i64) .unit))))], [.sl false ((.pair (.int .i64) (.pair (.int .i64) .unit)))], [], none, fun n x => slices_Insert_Sample n x.1 x.2.1 x.2.2.1⟩
section
open Go.Proofs Go.RowKit Go.Lib
theorem insSample.ty : TyOK Go.Proofs.Try.prog 127 (.sl false ((.pair (.int .i64) (.pair (.int .i64) .unit)))) := tyB_ok (by kernel_rfl)
theorem insSample.el (w : World) : ∃ i z, Go.Proofs.Try.prog.info? 140 = some i ∧ i.size = 2 ∧ i.bytes ≤ 140000 ∧ i.zero = some z ∧ z.cells.size = 2 := by
  obtain ⟨d, hd, hsh⟩ := insSample.ty.d
  obtain ⟨el, rfl, hel, _⟩ := hsh
  rw [Go.Proofs.Try.underlying127] at hd
  cases hd
  obtain ⟨i, z, h1, h2, h3, h4, h5⟩ := hel.i
  exact ⟨i, z, h1, h2, h3, h4, by have := Rep.length (zero_Rep (w := w) rfl h5); simpa [U.sz] using this⟩
set_option maxHeartbeats 4000000 in
set_option maxRecDepth 100000 in
theorem insSample.endRoom (w : World) (g n cap vb vc : Nat) (cc : Array Value) (ct : TypeId) (fz : Nat × Nat) (X : List Value) (hh : w.heap[g]? = some (.cells cc ct fz)) (hX : X.length = 2) (hXc : ∀ j v, X[j]? = some v → w.cell? ((⟨vb, 0, none⟩ : Addr).add j) = some v) (h1 : ∀ v ∈ X, v.oneCell' = true)
    (hf : ∀ j, j < cc.size → ¬ (fz.1 ≤ j ∧ j < fz.2)) (hroom : n + 1 ≤ cap) (hcap : cap ≤ 9223372036854775807) (hcs : cc.size = cap * 2) :
    Calls Go.Proofs.Try.prog 144 #[.slice (some ⟨g, 0, none⟩) n cap, .int .i64 n, .slice (some ⟨vb, 0, none⟩) 1 vc] w fun e w' => e = .returned (.slice (some ⟨g, 0, none⟩) (n + 1) cap) ∧ w' = putB w g (.cells (splice cc.toList (n * 2) X).toArray ct fz) := by
  obtain ⟨i0, z0, hi0, hzs, hzb, hzz, hzl⟩ := insSample.el w
  have hrun : ∀ ty, (Builtin.append_ #[127, 127] ty #[.slice (some ⟨g, 0, none⟩) n cap, .slice (some ⟨vb, 0, none⟩) 1 vc]).run Go.Proofs.Try.prog w = .ok (.slice (some ⟨g, 0, none⟩) (n + 1) cap) (putB w g (.cells (splice cc.toList (n * 2) X).toArray ct fz)) := fun ty => by
    have := run_append_in (P := Go.Proofs.Try.prog) (W := w) (ty := ty) (c := vc) (t := 127) Go.Proofs.Try.underlying127 hi0 (b := ⟨g, 0, none⟩) (n := n) (m := 1) (cap := cap) rfl rfl hh (by rw [hX, hzs]) hXc h1 hf hroom (by rw [hzs, hX, hcs]; omega)
    rw [hzs] at this
    exact this
  go_enter Go.Proofs.Try.func144, Go.Proofs.Try.ntmps144
  go_wp2_with (at_builtin; refine Lib.wpList_append_run _ rfl _ _ _ _ rfl _ _ rfl rfl _ _ (hrun _) ?_)
  go_ret
  exact ⟨rfl, rfl⟩
set_option maxHeartbeats 4000000 in
set_option maxRecDepth 100000 in
theorem insSample.endGrow (w : World) (g n cap vb vc : Nat) (m X : List Value) (hm : m.length = n * 2) (hmc : ∀ j v, m[j]? = some v → w.cell? ((⟨g, 0, none⟩ : Addr).add j) = some v) (hX : X.length = 2) (hXc : ∀ j v, X[j]? = some v → w.cell? ((⟨vb, 0, none⟩ : Addr).add j) = some v)
    (hroom : cap < n + 1) (hnc : n ≤ cap) (hn : n ≤ 1000000) :
    Calls Go.Proofs.Try.prog 144 #[.slice (some ⟨g, 0, none⟩) n cap, .int .i64 n, .slice (some ⟨vb, 0, none⟩) 1 vc] w fun e w' => ∃ c q, e = .returned (.slice (some ⟨w.heap.size, 0, none⟩) (n + 1) c) ∧ w' = w.drew.alloc (.cells (m ++ X ++ q).toArray 140) ∧ n + 1 ≤ c ∧ c ≤ maxLen ∧ (m ++ X ++ q).length = c * 2 := by
  obtain ⟨i0, z0, hi0, hzs, hzb, hzz, hzl⟩ := insSample.el w
  have hby : (n + 1) * i0.bytes ≤ 140737488355328 := Nat.le_trans (Nat.mul_le_mul_left _ hzb) (by omega)
  have hrun := fun ty => run_append_grow (P := Go.Proofs.Try.prog) w 127 ty 140 i0 z0 Go.Proofs.Try.underlying127 hi0 hzz ⟨g, 0, none⟩ n cap m (by rw [hm, hzs]) hmc ⟨vb, 0, none⟩ 1 vc X (by rw [hX, hzs]) hXc hroom (by omega) (growslice_fits hroom hby)
  have hge := grownCap_ge w (n + 1) cap 140
  have hle := grownCap_le_maxLen w (n + 1) cap 140 (by simp only [maxLen]; omega)
  generalize grownCap w (n + 1) cap 140 = C at hrun hge hle
  have hrow : (m.toArray ++ X.toArray ++ Builtin.zeroCells z0.cells (C - (n + 1))) = (m ++ X ++ (Builtin.zeroCells z0.cells (C - (n + 1))).toList).toArray := by apply Array.toList_inj.1; simp
  have hql : (Builtin.zeroCells z0.cells (C - (n + 1))).toList.length = (C - (n + 1)) * 2 := by rw [Array.length_toList, size_zeroCells, hzl]
  rw [hrow] at hrun
  generalize (Builtin.zeroCells z0.cells (C - (n + 1))).toList = q at hrun hql
  go_enter Go.Proofs.Try.func144, Go.Proofs.Try.ntmps144
  go_wp2_with (at_builtin; refine Lib.wpList_append_run _ rfl _ _ _ _ rfl _ _ rfl rfl _ _ (hrun _) ?_)
  go_ret
  exact ⟨C, q, rfl, by first | rfl | (rw [List.append_assoc]; rfl), hge, hle, by simp only [List.length_append, hm, hX, hql]; omega⟩
set_option maxHeartbeats 4000000 in
set_option maxRecDepth 100000 in
theorem insSample.endNil (w : World) (vb vc : Nat) (X : List Value) (hX : X.length = 2) (hXc : ∀ j v, X[j]? = some v → w.cell? ((⟨vb, 0, none⟩ : Addr).add j) = some v) :
    Calls Go.Proofs.Try.prog 144 #[.slice none 0 0, .int .i64 0, .slice (some ⟨vb, 0, none⟩) 1 vc] w fun e w' => ∃ c q, e = .returned (.slice (some ⟨w.heap.size, 0, none⟩) 1 c) ∧ w' = w.drew.alloc (.cells (X ++ q).toArray 140) ∧ 1 ≤ c ∧ c ≤ maxLen ∧ (X ++ q).length = c * 2 := by
  obtain ⟨i0, z0, hi0, hzs, hzb, hzz, hzl⟩ := insSample.el w
  have hrun := fun ty => run_append_nil (P := Go.Proofs.Try.prog) w 127 ty 140 i0 z0 Go.Proofs.Try.underlying127 hi0 hzz ⟨vb, 0, none⟩ 1 vc X (by rw [hX, hzs]) hXc (by omega) (by omega) (by omega)
  have hge := grownCap_ge w 1 0 140
  have hle := grownCap_le_maxLen w 1 0 140 (by simp only [maxLen]; omega)
  generalize grownCap w 1 0 140 = C at hrun hge hle
  have hrow : (X.toArray ++ Builtin.zeroCells z0.cells (C - 1)) = (X ++ (Builtin.zeroCells z0.cells (C - 1)).toList).toArray := by apply Array.toList_inj.1; simp
  have hql : (Builtin.zeroCells z0.cells (C - 1)).toList.length = (C - 1) * 2 := by rw [Array.length_toList, size_zeroCells, hzl]
  rw [hrow] at hrun
  generalize (Builtin.zeroCells z0.cells (C - 1)).toList = q at hrun hql
  go_enter Go.Proofs.Try.func144, Go.Proofs.Try.ntmps144
  go_wp2_with (at_builtin; refine Lib.wpList_append_run _ rfl _ _ _ _ rfl _ _ rfl rfl _ _ (hrun _) ?_)
  go_ret
  exact ⟨C, q, rfl, rfl, hge, hle, by simp only [List.length_append, hX, hql]; omega⟩
set_option maxHeartbeats 4000000 in
set_option maxRecDepth 100000 in
theorem insSample.shift (w : World) (g n cap i vb vc : Nat) (cc cv : Array Value) (ct tv : TypeId) (fz fv : Nat × Nat) (m q X : List Value) (hh : w.heap[g]? = some (.cells cc ct fz)) (hc : cc.toList = m ++ q) (hm : m.length = n * 2) (h1m : ∀ v ∈ m, v.oneCell' = true)
    (hX : X.length = 2) (hXc : ∀ j v, X[j]? = some v → w.cell? ((⟨vb, 0, none⟩ : Addr).add j) = some v) (h1 : ∀ v ∈ X, v.oneCell' = true) (hf : ∀ j, j < cc.size → ¬ (fz.1 ≤ j ∧ j < fz.2)) (hi : i < n) (hroom : n + 1 ≤ cap) (hcap : cap ≤ 9223372036854775807) (hcs : cc.size = cap * 2)
    (hvb : vb ≠ g) (hvh : w.heap[vb]? = some (.cells cv tv fv)) (hfv : ∀ j, j < cv.size + 1 → ¬ (fv.1 ≤ j ∧ j < fv.2)) :
    Calls Go.Proofs.Try.prog 144 #[.slice (some ⟨g, 0, none⟩) n cap, .int .i64 i, .slice (some ⟨vb, 0, none⟩) 1 vc] w fun e w' => e = .returned (.slice (some ⟨g, 0, none⟩) (n + 1) cap) ∧ w' = putB w.drew g (.cells (splice (splice cc.toList ((i + 1) * 2) (m.drop (i * 2))) (i * 2) X).toArray ct fz) := by
  obtain ⟨i0, z0, hi0, hzs, hzb, hzz, hzl⟩ := insSample.el w
  have hz2 : ¬ ((i : Int) = (n : Int)) := by omega
  have mixed : Go.Proofs.Try.prog.follows .mixedOrders = true := by kernel_rfl
  have hgl : g < w.heap.size := lt_of_heap hh
  have hov : ∀ o lb cb, (callFunc 192 #[.slice (some ⟨vb, 0, none⟩) 1 vc, .slice (some ⟨g, o, none⟩) lb cb]).run Go.Proofs.Try.prog w = .ok (.value (.bool false)) w := fun o lb cb => by
    rw [run_callFunc_extern (fn := Go.Proofs.Try.f192) (f := 192) (by kernel_rfl) (by kernel_rfl) (by kernel_rfl) (by kernel_rfl) (e := Extern.SlicesOverlaps.overlaps #[127, 127] #[4]) (by kernel_rfl),
      Lib.run_overlaps_apart w 127 4 140 Go.Proofs.Try.underlying127 2 Go.Proofs.Try.sizeOf140 ⟨vb, 0, none⟩ ⟨g, o, none⟩ 1 vc lb cb hvb tv ct cv.size cc.size (by simp [World.shape?, hvh]) (by simp [World.shape?, hh]) (by omega)
        (by have := hfv 0 (by omega); simp [World.frozen?, hvh]; omega) (by have := hfv cv.size (by omega); simp [World.frozen?, hvh]; omega)]
    rfl
  have hone : ∀ v ∈ m.drop (i * 2), v.oneCell' = true := fun v hv => h1m v (List.mem_of_mem_drop hv)
  have hcell : ∀ j v, (m.drop (i * 2))[j]? = some v → w.cell? ((⟨g, i * 2, none⟩ : Addr).add j) = some v :=
    cells_at (d := ⟨g, i * 2, none⟩) (p := m.take (i * 2)) (q := q) rfl hh (by rw [hc, List.take_append_drop]) (by rw [List.length_take]; show _ = i * 2; omega)
  have hdl : (m.drop (i * 2)).length = (n - i) * 2 := by rw [List.length_drop, hm]; omega
  have hql : m.length + q.length = cc.size := by rw [← Array.length_toList, hc, List.length_append]
  have hcp1 : ∀ ty dc sc, (Builtin.copy_ #[127, 127] ty #[.slice (some ⟨g, (i + 1) * 2, none⟩) (n - i) dc, .slice (some ⟨g, i * 2, none⟩) (n + 1 - i) sc]).run Go.Proofs.Try.prog w.drew = .ok (goInt ((n - i : Nat) : Int)) (putB w.drew g (.cells (splice cc.toList ((i + 1) * 2) (m.drop (i * 2))).toArray ct fz)) := fun ty dc sc =>
    run_copy_put Go.Proofs.Try.underlying127 hi0 (by simp only [Nat.min_def]; split <;> omega) (by rw [hdl, hzs]) (show w.drew.heap[g]? = _ from hh) (fun j v h => hcell j v h) hone hf (by rw [hdl]; omega)
  obtain ⟨W1, hW1⟩ : ∃ W1, W1 = putB w.drew g (.cells (splice cc.toList ((i + 1) * 2) (m.drop (i * 2))).toArray ct fz) := ⟨_, rfl⟩
  have hl1 : (splice cc.toList ((i + 1) * 2) (m.drop (i * 2))).length = cc.size := by rw [splice_len (by rw [hdl, Array.length_toList]; omega), Array.length_toList]
  have hcp2 : ∀ (W : World), W.heap = W1.heap → ∀ ty dc, (Builtin.copy_ #[127, 127] ty #[.slice (some ⟨g, i * 2, none⟩) (n + 1 - i) dc, .slice (some ⟨vb, 0, none⟩) 1 vc]).run Go.Proofs.Try.prog W = .ok (goInt ((1 : Nat) : Int)) (putB W g (.cells (splice (splice cc.toList ((i + 1) * 2) (m.drop (i * 2))) (i * 2) X).toArray ct fz)) := fun W hW ty dc => by
    have hWg : W.heap[g]? = some (.cells (splice cc.toList ((i + 1) * 2) (m.drop (i * 2))).toArray ct fz) := by rw [hW, hW1]; exact putB_same hgl
    exact run_copy_put Go.Proofs.Try.underlying127 hi0 (by simp only [Nat.min_def]; split <;> omega) (by rw [hX, hzs]) hWg (fun j v h => by
      have h2 := hXc j v h
      rw [Addr.add_lit] at h2 ⊢
      rw [← h2]
      have hne : W.heap[vb]? = w.heap[vb]? := by rw [hW, hW1]; exact putB_other hvb
      simp only [World.cell?, hne]) h1 (fun j hj => hf j (Nat.lt_of_lt_of_eq hj hl1)) (Nat.le_trans (show i * 2 + X.length ≤ cc.size by rw [hX]; omega) (Nat.le_of_eq hl1.symm))
  rw [← hW1] at hcp1
  have hw1 : IntKind.i64.wrap ((i : Int) + 1) = (i : Int) + 1 := by rw [IntKind.wrap_i64]; omega
  have hb1 : (0 : Int) ≤ (i : Int) + 1 := by omega
  have hin : i ≤ n := by omega
  have htn : ((i : Int) + 1).toNat = i + 1 := by omega
  have hb2 : ¬ (cap = i + 1) := by omega
  have hb3 : (i : Int) ≤ (n : Int) + 1 := by omega
  have hb4 : ¬ (cap = i) := by omega
  go_enter Go.Proofs.Try.func144, Go.Proofs.Try.ntmps144
  go_wp2_with (simp only [hov])
  go_region_law_o (refine step_copy_runI rfl _ _ 127 127 rfl _ _ (by simp [Act.eval, Act.put]) (by simp [Act.eval, Act.put]) (hcp1 _ _ _) ?_)
  go_wp2_with (at_builtin; refine wpList_copy_runI _ rfl _ _ 127 127 rfl _ _ rfl rfl (hcp2 _ rfl _ _) ?_)
  go_ret
  exact ⟨rfl, by first | (rw [hW1, putB_putB]; done) | rw [hc, putB_putB]⟩
set_option maxHeartbeats 4000000 in
set_option maxRecDepth 100000 in
theorem insSample.midGrow (w : World) (g n cap i vb vc : Nat) (m X : List Value) (hm : m.length = n * 2) (hmc : ∀ j v, m[j]? = some v → w.cell? ((⟨g, 0, none⟩ : Addr).add j) = some v) (h1m : ∀ v ∈ m, v.oneCell' = true) (hX : X.length = 2) (hXc : ∀ j v, X[j]? = some v → w.cell? ((⟨vb, 0, none⟩ : Addr).add j) = some v) (h1 : ∀ v ∈ X, v.oneCell' = true)
    (hi : i < n) (hroom : cap < n + 1) (hnc : n ≤ cap) (hn : n ≤ 1000000) (hgl : g < w.heap.size) (hvl : vb < w.heap.size) :
    Calls Go.Proofs.Try.prog 144 #[.slice (some ⟨g, 0, none⟩) n cap, .int .i64 i, .slice (some ⟨vb, 0, none⟩) 1 vc] w fun e w' => ∃ c q, e = .returned (.slice (some ⟨w.heap.size, 0, none⟩) (n + 1) c) ∧ n + 1 ≤ c ∧ c ≤ maxLen ∧ ((m.take (i * 2) ++ X ++ m.drop (i * 2)) ++ q).length = c * 2 ∧
      w'.os = w.os ∧ w'.tape = w.tape ∧ w'.output = w.output ∧ w'.heap.size = w.heap.size + 1 ∧ (∀ k, k < w.heap.size → w'.heap[k]? = w.heap[k]?) ∧ w'.heap[w.heap.size]? = some (.cells ((m.take (i * 2) ++ X ++ m.drop (i * 2)) ++ q).toArray 140 (0, 0)) := by
  obtain ⟨i0, z0, hi0, hzs, hzb, hzz, hzl⟩ := insSample.el w
  have hz2 : ¬ ((i : Int) = (n : Int)) := by omega
  have hz3 : (cap : Int) < (n : Int) + 1 := by omega
  have mixed : Go.Proofs.Try.prog.follows .mixedOrders = true := by kernel_rfl
  have hby : (n + 1) * i0.bytes ≤ 140737488355328 := Nat.le_trans (Nat.mul_le_mul_left _ hzb) (by omega)
  have hby2 : (n + 1 - i) * i0.bytes ≤ 140737488355328 := Nat.le_trans (Nat.mul_le_mul_right _ (by omega)) hby
  have hkk : (n : Int) + 1 - (i : Int) = ((n + 1 - i : Nat) : Int) := by omega
  have hik : i + (n + 1 - i) = n + 1 := by omega
  have hold : (Builtin.firstCells i0.size i (.slice (some ⟨g, 0, none⟩) i cap)).run Go.Proofs.Try.prog w.drew = .ok (m.take (i * 2)).toArray w.drew :=
    run_firstCells_some w.drew i0.size i ⟨g, 0, none⟩ i cap (m.take (i * 2)) (by rw [List.length_take, hm, hzs]; omega) (fun j v hj => by
      rw [List.getElem?_take] at hj
      split at hj
      · exact hmc j v hj
      · cases hj)
  have hrz : ∀ ty, ∃ C, n + 1 ≤ C ∧ C ≤ maxLen ∧ True := fun _ => ⟨n + 1, Nat.le_refl _, by simp only [maxLen]; omega, trivial⟩
  have hge := grownCap_ge w (n + 1) cap 140
  have hle := grownCap_le_maxLen w (n + 1) cap 140 (by simp only [maxLen]; omega)
  have hrun : ∀ ty, (Builtin.append_ #[127, 3] ty #[.slice (some ⟨g, 0, none⟩) i cap, .int .i64 ((n : Int) + 1 - (i : Int))]).run Go.Proofs.Try.prog w =
      .ok (.slice (some ⟨w.heap.size, 0, none⟩) (n + 1) (grownCap w (n + 1) cap 140)) (w.drew.alloc (.cells ((m.take (i * 2)).toArray ++ Builtin.zeroCells z0.cells (n + 1 - i) ++ Builtin.zeroCells z0.cells (grownCap w (n + 1) cap 140 - (n + 1))) 140)) := fun ty => by
    have h := Lib.run_append_grow_zeros w 127 3 ty 140 i0 z0 .i64 .i64 Go.Proofs.Try.underlying127 Go.Proofs.Try.underlying3 hi0 hzz (some ⟨g, 0, none⟩) i cap (m.take (i * 2)) hold (n + 1 - i) (by omega) (by omega) (by omega) (by omega) (by omega) (by rw [hik]; exact growslice_fits hroom hby)
    rw [hik] at h
    rw [hkk]
    exact h
  generalize grownCap w (n + 1) cap 140 = C at hrun hge hle
  have hrow : ((m.take (i * 2)).toArray ++ Builtin.zeroCells z0.cells (n + 1 - i) ++ Builtin.zeroCells z0.cells (C - (n + 1))) = (m.take (i * 2) ++ ((Builtin.zeroCells z0.cells (n + 1 - i)).toList ++ (Builtin.zeroCells z0.cells (C - (n + 1))).toList)).toArray := by apply Array.toList_inj.1; simp
  have hql : ((Builtin.zeroCells z0.cells (n + 1 - i)).toList ++ (Builtin.zeroCells z0.cells (C - (n + 1))).toList).length = (C - i) * 2 := by rw [List.length_append, Array.length_toList, Array.length_toList, size_zeroCells, size_zeroCells, hzl]; omega
  rw [hrow] at hrun
  generalize (Builtin.zeroCells z0.cells (n + 1 - i)).toList ++ (Builtin.zeroCells z0.cells (C - (n + 1))).toList = Z at hrun hql
  clear hrow hrz
  obtain ⟨ROW, hROW⟩ : ∃ ROW, ROW = m.take (i * 2) ++ Z := ⟨_, rfl⟩
  rw [← hROW] at hrun
  have htl : (m.take (i * 2)).length = i * 2 := by rw [List.length_take, hm]; omega
  have hdl : (m.drop (i * 2)).length = (n - i) * 2 := by rw [List.length_drop, hm]; omega
  have hRl : ROW.length = C * 2 := by rw [hROW, List.length_append, htl, hql]; omega
  obtain ⟨W1, hW1⟩ : ∃ W1, W1 = w.drew.alloc (.cells ROW.toArray 140) := ⟨_, rfl⟩
  rw [← hW1] at hrun
  have hN1 : W1.heap[w.heap.size]? = some (.cells ROW.toArray 140 (0, 0)) := by rw [hW1]; exact alloc_new w.drew _
  have hO1 : ∀ k, k < w.heap.size → W1.heap[k]? = w.heap[k]? := fun k hk => by rw [hW1]; exact alloc_old w.drew _ hk
  have hs1 : W1.heap.size = w.heap.size + 1 := by rw [hW1]; exact alloc_sz w.drew _
  have hNl : w.heap.size < W1.heap.size := by omega
  have hcpA : ∀ (W : World), W.heap = W1.heap → ∀ ty dc, (Builtin.copy_ #[127, 127] ty #[.slice (some ⟨w.heap.size, i * 2, none⟩) (n + 1 - i) dc, .slice (some ⟨vb, 0, none⟩) 1 vc]).run Go.Proofs.Try.prog W = .ok (goInt ((1 : Nat) : Int)) (putB W w.heap.size (.cells (splice ROW (i * 2) X).toArray 140 (0, 0))) := fun W hW ty dc =>
    run_copy_put Go.Proofs.Try.underlying127 hi0 (by simp only [Nat.min_def]; split <;> omega) (by rw [hX, hzs]) (by rw [hW]; exact hN1) (fun j v h => by
      have h2 := hXc j v h
      rw [Addr.add_lit] at h2 ⊢
      rw [← h2]
      have hne : W.heap[vb]? = w.heap[vb]? := by rw [hW]; exact hO1 _ hvl
      simp only [World.cell?, hne]) h1 (fun j _ h => by simp at h) (by show i * 2 + X.length ≤ ROW.length; omega)
  have hl1 : (splice ROW (i * 2) X).length = C * 2 := by rw [splice_len (by omega), hRl]
  obtain ⟨W2, hW2⟩ : ∃ W2, W2 = putB W1 w.heap.size (.cells (splice ROW (i * 2) X).toArray 140 (0, 0)) := ⟨_, rfl⟩
  have hN2 : W2.heap[w.heap.size]? = some (.cells (splice ROW (i * 2) X).toArray 140 (0, 0)) := by rw [hW2]; exact putB_same hNl
  have hO2 : ∀ k, k < w.heap.size → W2.heap[k]? = w.heap[k]? := fun k hk => by rw [hW2, putB_other (by omega)]; exact hO1 k hk
  have hcpB : ∀ (W : World), W.heap = W2.heap → ∀ ty dc sc, (Builtin.copy_ #[127, 127] ty #[.slice (some ⟨w.heap.size, (i + 1) * 2, none⟩) (n - i) dc, .slice (some ⟨g, i * 2, none⟩) (n - i) sc]).run Go.Proofs.Try.prog W = .ok (goInt ((n - i : Nat) : Int)) (putB W w.heap.size (.cells (splice (splice ROW (i * 2) X) ((i + 1) * 2) (m.drop (i * 2))).toArray 140 (0, 0))) := fun W hW ty dc sc =>
    run_copy_put Go.Proofs.Try.underlying127 hi0 (by simp only [Nat.min_def]; split <;> omega) (by rw [hdl, hzs]) (by rw [hW]; exact hN2) (fun j v h => by
      rw [List.getElem?_drop] at h
      have h2 := hmc (i * 2 + j) v h
      rw [Addr.add_lit] at h2 ⊢
      rw [← h2]
      have hne : W.heap[g]? = w.heap[g]? := by rw [hW]; exact hO2 _ hgl
      simp only [World.cell?, hne, Nat.zero_add]) (fun v hv => h1m v (List.mem_of_mem_drop hv)) (fun j _ h => by simp at h) (Nat.le_trans (show (i + 1) * 2 + (m.drop (i * 2)).length ≤ C * 2 by rw [hdl]; omega) (Nat.le_of_eq hl1.symm))
  have hfin : splice (splice ROW (i * 2) X) ((i + 1) * 2) (m.drop (i * 2)) = (m.take (i * 2) ++ X ++ m.drop (i * 2)) ++ Z.drop (X.length + (m.drop (i * 2)).length) := by
    rw [hROW, show (i + 1) * 2 = i * 2 + X.length by rw [hX]; omega]
    exact splice_fill htl.symm (by rw [hX, hdl, hql]; omega)
  have hw1 : IntKind.i64.wrap ((i : Int) + 1) = (i : Int) + 1 := by rw [IntKind.wrap_i64]; omega
  have hb1 : (0 : Int) ≤ (i : Int) + 1 := by omega
  have hin : i ≤ n := by omega
  have htn : ((i : Int) + 1).toNat = i + 1 := by omega
  have hb3 : (i : Int) ≤ (n : Int) := by omega
  have hC63 : C ≤ 9223372036854775807 := by simp only [maxLen] at hle; omega
  have hb2 : ¬ (C = i + 1) := by omega
  have hb4 : ¬ (cap = i) := by omega
  have hb5 : ¬ (C = i) := by omega
  have hW2' : W2.heap = (putB (w.alloc (.cells ROW.toArray 140)).drew w.heap.size (.cells (splice ROW (i * 2) X).toArray 140 (0, 0))).drew.heap := by rw [hW2, hW1]; rfl
  have hW1' : (w.alloc (.cells ROW.toArray 140)).drew.heap = W1.heap := by rw [hW1]; rfl
  have hres' : ∀ W : World, W.heap = (putB W2 w.heap.size (.cells (splice (splice ROW (i * 2) X) ((i + 1) * 2) (m.drop (i * 2))).toArray 140 (0, 0))).heap → W.os = w.os → W.tape = w.tape → W.output = w.output → True := fun _ _ _ _ _ => trivial
  rw [hW1] at hrun
  have hP : ∀ (W : World) (o : Obj), W.heap = W2.heap → (putB W w.heap.size o).heap = (putB W2 w.heap.size o).heap := fun W o h => by simp only [putB, h]
  have hres : ∀ W : World, W.heap = (putB W2 w.heap.size (.cells (splice (splice ROW (i * 2) X) ((i + 1) * 2) (m.drop (i * 2))).toArray 140 (0, 0))).heap → W.os = w.os → W.tape = w.tape → W.output = w.output → ∃ q, ((m.take (i * 2) ++ X ++ m.drop (i * 2)) ++ q).length = C * 2 ∧
      W.os = w.os ∧ W.tape = w.tape ∧ W.output = w.output ∧ W.heap.size = w.heap.size + 1 ∧ (∀ k, k < w.heap.size → W.heap[k]? = w.heap[k]?) ∧ W.heap[w.heap.size]? = some (.cells ((m.take (i * 2) ++ X ++ m.drop (i * 2)) ++ q).toArray 140 (0, 0)) := fun W hW a1 a2 a3 => by
    refine ⟨Z.drop (X.length + (m.drop (i * 2)).length), ?_, a1, a2, a3, ?_, fun k hk => ?_, ?_⟩
    · rw [← hfin, splice_len (by rw [hl1, hdl]; omega), hl1]
    · rw [hW, putB_sz, hW2, putB_sz, hs1]
    · rw [hW, putB_other (by omega)]; exact hO2 k hk
    · rw [hW, putB_same (by rw [hW2, putB_sz]; exact hNl), hfin]
  have hos1 : W1.os = w.os ∧ W1.tape = w.tape ∧ W1.output = w.output := by rw [hW1]; exact ⟨rfl, rfl, rfl⟩
  clear hW1 hW2 hROW hres' hfin hold hmc hXc hik hkk hby hby2
  go_enter Go.Proofs.Try.func144, Go.Proofs.Try.ntmps144
  go_wp2_with (first
    | (at_builtin; refine Lib.wpList_append_run _ rfl _ _ _ _ rfl _ _ rfl rfl _ _ (hrun _) ?_)
    | (at_builtin; refine wpList_copy_runI _ rfl _ _ 127 127 rfl _ _ rfl rfl (hcpA _ hW1' _ _) ?_))
  go_region_law_o (refine step_copy_runI rfl _ _ 127 127 rfl _ _ (by simp [Act.eval, Act.put]) (by simp [Act.eval, Act.put]) (hcpB _ hW2'.symm _ _ _) ?_)
  go_wp2
  go_ret
  obtain ⟨q, r1, r2⟩ := hres _ (hP _ _ hW2'.symm) rfl rfl rfl
  refine ⟨C, q, rfl, hge, hle, ?_⟩
  have r := And.intro r1 r2
  simpa only [List.append_assoc] using r
end
theorem slices_Insert_Sample.ok : CtrOK Go.Proofs.Try.prog gl slices_Insert_Sample.spec := by
  refine fun n => ⟨⟨Go.Proofs.Try.f144, by kernel_rfl, by kernel_rfl, by decide +kernel⟩, ?_⟩
  intro inst
  rintro ⟨a0, a1, a2, ⟨⟩⟩ y hy
  have hy := hold_some hy
  cases hb : (decide (0 ≤ a1) && decide (a1 ≤ (a0.length : Int)) && decide (a0.length ≤ 1000000) && Nat.beq a2.length 1) with
  | false => rw [hb] at hy; cases hy
  | true =>
    rw [hb] at hy
    obtain rfl := Option.some.inj hy
    simp only [Bool.and_eq_true, decide_eq_true_eq, Nat.beq_eq] at hb
    obtain ⟨⟨⟨b0, b1⟩, b2⟩, b3⟩ := hb
    obtain ⟨i, rfl⟩ : ∃ i : Nat, a1 = (i : Int) := ⟨a1.toNat, (Int.toNat_of_nonneg b0).symm⟩
    have b1 : i ≤ a0.length := Int.ofNat_le.1 b1
    obtain ⟨x, rfl⟩ : ∃ x, a2 = [x] := List.length_eq_one_iff.1 b3
    have hz : U.sz ((.pair (.int .i64) (.pair (.int .i64) .unit))) = 2 := rfl
    intro w vs S L harg _ hL hSL hG
    change ArgsRep w [Arg.g (.sl false ((.pair (.int .i64) (.pair (.int .i64) .unit)))) a0, Arg.v (.int .i64) (i : Int), Arg.g (.sl false ((.pair (.int .i64) (.pair (.int .i64) .unit)))) [x]] vs S L at harg
    unfold ArgsRep at harg
    obtain ⟨v0, vr, S1, S2, L1, L2, rfl, rfl, rfl, h1, harg⟩ := harg
    unfold ArgsRep at harg
    obtain ⟨v1, vr, S3, S4, L3, L4, rfl, rfl, rfl, h2, harg⟩ := harg
    unfold ArgsRep at harg
    obtain ⟨v2, vr, S5, S6, L5, L6, rfl, rfl, rfl, h3, harg⟩ := harg
    unfold ArgsRep at harg
    obtain ⟨rfl, rfl, rfl⟩ := harg
    unfold ArgRep at h1 h2 h3
    obtain ⟨_, rfl, cs1, rfl, c1, rfl, h1⟩ := h1
    obtain ⟨_, ⟨cs2, rfl, rfl, rfl⟩, rfl⟩ := h2
    obtain ⟨_, rfl, cs3, rfl, c3, rfl, h3⟩ := h3
    have h1 := h1.resolve_right (fun h => bare_no h)
    have h3 := h3.resolve_right (fun h => bare_no h)
    rw [hz] at h1 h3
    have key : Calls Go.Proofs.Try.prog 144 #[c1, .int .i64 i, c3] w fun e w' => ∃ v', e = .returned v' ∧ InsFin w w' ((.pair (.int .i64) (.pair (.int .i64) .unit))) (insL a0 i x) v' (L1 ++ ([] ++ (L5 ++ []))) := by
      rcases h3 with ⟨_, h, _⟩ | ⟨⟨vb, vo, vsp⟩, vc, cv, tv, fv, pv, mv, qv, Gv, rfl, hsp3, _, hl3, hh3, hc3, hp3, hr3, rfl, how3⟩
      · cases h
      obtain ⟨hof3, hfz3, hcs3, hcm3⟩ := how3 rfl
      dsimp only at hsp3 hof3 hh3 hp3
      subst hsp3 hof3
      obtain rfl : pv = [] := List.eq_nil_of_length_eq_zero hp3
      obtain ⟨X, d3, GX, G3, rfl, rfl, hx, rfl, rfl⟩ := hr3
      have hX : X.length = 2 := by rw [Rep.length hx]; exact hz
      have hXc : ∀ j v, X[j]? = some v → w.cell? ((⟨vb, 0, none⟩ : Addr).add j) = some v := cells_at (d := ⟨vb, 0, none⟩) (p := []) (q := qv) rfl hh3 (by rw [hc3]; simp) rfl
      have hX1 := Rep.one hx
      have hvl : vb < w.heap.size := lt_of_heap hh3
      simp only [List.append_nil, List.nil_append] at hL ⊢
      obtain ⟨nA, nB, nC⟩ := List.nodup_append.1 hL
      obtain ⟨nB1, nB2⟩ := List.nodup_cons.1 nB
      have hGXl : ∀ b ∈ GX, b < w.heap.size := Rep.block_lt hx
      rcases h1 with ⟨rfl, rfl, rfl⟩ | ⟨⟨g, go, gsp⟩, cap, cc, ct, fz, pp, m, q, G, rfl, hsp, _, hlc, hh, hc, hp, hr, rfl, how⟩
      · obtain rfl : i = 0 := by simpa using b1
        refine (insSample.endNil w vb vc X hX hXc).mono ?_
        rintro e w' ⟨C, q, rfl, rfl, k1, k2, k3⟩
        refine ⟨_, rfl, ins_row (l := []) (x := x) (i := 0) (g := w.heap.size) (cap := C) (cc' := (X ++ q).toArray) (fz := (0, 0)) (m := []) (q' := q) (X := X) (G := []) (GX := GX) (Nat.zero_le _) k1 (alloc_new w.drew _) (by simp) ⟨rfl, rfl⟩ hx (fun j _ h => by simp at h) (by rw [hz]; simpa using k3) k2 (fun h => absurd h (Nat.lt_irrefl _)) (fun b hb => by simp at hb; simp [hb]) (fun hb => by simp at hb; exact absurd (hGXl _ hb) (Nat.lt_irrefl _)) (by simpa using nB2) (fun k hk _ => alloc_old w.drew _ hk) (by rw [alloc_sz]; exact Nat.le_succ _) rfl rfl rfl⟩
      · obtain ⟨hof, hfz, hcs, hcm⟩ := how rfl
        dsimp only at hsp hof hh hp
        subst hsp hof
        obtain rfl : pp = [] := List.eq_nil_of_length_eq_zero hp
        rw [List.nil_append] at hc
        have hm : m.length = a0.length * 2 := by rw [RepL.length (fun _ _ _ => Rep.length) hr, hz]
        have hmc : ∀ j v, m[j]? = some v → w.cell? ((⟨g, 0, none⟩ : Addr).add j) = some v := cells_at (d := ⟨g, 0, none⟩) (p := []) (q := q) rfl hh (by rw [hc]; simp) rfl
        have hm1 := RepL.one hr
        have hgl : g < w.heap.size := lt_of_heap hh
        obtain ⟨nA1, nA2⟩ := List.nodup_cons.1 nA
        have hGl : ∀ b ∈ G, b < w.heap.size := RepL.block_lt (fun h => Rep.block_lt h) hr
        have hvg : vb ≠ g := fun e => nC g (List.mem_cons_self ..) vb (List.mem_cons_self ..) e.symm
        have hnd : (G ++ GX).Nodup := by
          rw [List.nodup_append]
          exact ⟨nA2, nB2, fun a ha b hb => nC a (List.mem_cons_of_mem _ ha) b (List.mem_cons_of_mem _ hb)⟩
        have hGL : ∀ b ∈ G ++ GX, b ∈ g :: G ++ vb :: GX := fun b hb => by
          simp only [List.mem_append, List.mem_cons] at hb ⊢
          rcases hb with hb | hb <;> simp [hb]
        have hng : g ∉ G ++ GX := fun hb => by
          rcases List.mem_append.1 hb with hb | hb
          · exact nA1 hb
          · exact nC g (List.mem_cons_self ..) g (List.mem_cons_of_mem _ hb) rfl
        have hnN : w.heap.size ∉ G ++ GX := fun hb => by
          rcases List.mem_append.1 hb with hb | hb
          · exact Nat.lt_irrefl _ (hGl _ hb)
          · exact Nat.lt_irrefl _ (hGXl _ hb)
        have hf : ∀ j, j < cc.size → ¬ (fz.1 ≤ j ∧ j < fz.2) := fun j hj => hfz j (by omega)
        have hc63 : cap ≤ 9223372036854775807 := by simp only [maxLen] at hcm; omega
        have hccl : cc.toList.length = cc.size := Array.length_toList
        have hcl : m.length + q.length = cap * 2 := by rw [← hcs, ← Array.length_toList, hc, List.length_append]
        rcases Nat.eq_or_lt_of_le b1 with rfl | hi
        · rcases Nat.lt_or_ge cap (a0.length + 1) with hg | hg
          · refine (insSample.endGrow w g a0.length cap vb vc m X hm hmc hX hXc hg hlc b2).mono ?_
            rintro e w' ⟨C, q', rfl, rfl, k1, k2, k3⟩
            refine ⟨_, rfl, ins_row (l := a0) (x := x) (i := a0.length) (g := w.heap.size) (cap := C) (cc' := (m ++ X ++ q').toArray) (fz := (0, 0)) (m := m) (q' := q') (X := X) (G := G) (GX := GX) (Nat.le_refl _) k1 (alloc_new w.drew _) (by rw [hz, ← hm, List.take_of_length_le (Nat.le_refl _), List.drop_eq_nil_of_le (Nat.le_refl _), List.append_nil]) hr hx (fun j _ h => by simp at h) (by rw [hz]; simpa using k3) k2 (fun h => absurd h (Nat.lt_irrefl _)) hGL hnN hnd (fun k hk _ => alloc_old w.drew _ hk) (by rw [alloc_sz]; exact Nat.le_succ _) rfl rfl rfl⟩
          · refine (insSample.endRoom w g a0.length cap vb vc cc ct fz X hh hX hXc hX1 hf hg hc63 hcs).mono ?_
            rintro e w' ⟨rfl, rfl⟩
            have hsl : (splice cc.toList (a0.length * 2) X).length = cc.size := by rw [splice_len (by omega)]; exact hccl
            refine ⟨_, rfl, ins_row (l := a0) (x := x) (i := a0.length) (g := g) (cap := cap) (cc' := (splice cc.toList (a0.length * 2) X).toArray) (fz := fz) (m := m) (q' := q.drop X.length) (X := X) (G := G) (GX := GX) (Nat.le_refl _) hg (putB_same hgl) (by rw [hz, hc]; exact splice_end hm.symm (by omega)) hr hx (fun j hj => hfz j (by rw [List.size_toArray, hsl] at hj; exact hj)) (by rw [hz, List.size_toArray, hsl]; exact hcs) hcm (fun _ => List.mem_append_left _ (List.mem_cons_self ..)) hGL hng hnd (fun k _ hk => putB_other hk) (by rw [putB_sz]; exact Nat.le_refl _) rfl rfl rfl⟩
        · rcases Nat.lt_or_ge cap (a0.length + 1) with hg | hg
          · refine (insSample.midGrow w g a0.length cap i vb vc m X hm hmc hm1 hX hXc hX1 hi hg hlc b2 hgl hvl).mono ?_
            rintro e w' ⟨C, q', rfl, k1, k2, k3, k4, k5, k6, k7, k8, k9⟩
            refine ⟨_, rfl, ins_row (l := a0) (x := x) (i := i) (g := w.heap.size) (cap := C) (fz := (0, 0)) (m := m) (q' := q') (X := X) (G := G) (GX := GX) b1 k1 k9 (by rw [hz]) hr hx (fun j _ h => by simp at h) (by rw [hz]; simpa using k3) k2 (fun h => absurd h (Nat.lt_irrefl _)) hGL hnN hnd (fun k hk _ => k8 k hk) (by omega) k4 k5 k6⟩
          · refine (insSample.shift w g a0.length cap i vb vc cc cv ct tv fz fv m q X hh hc hm hm1 hX hXc hX1 hf hi hg hc63 hcs hvg hh3 (fun j hj => hfz3 j (by omega))).mono ?_
            rintro e w' ⟨rfl, rfl⟩
            have hdl : (m.drop (i * 2)).length = (a0.length - i) * 2 := by rw [List.length_drop, hm]; omega
            have hs1 : (splice cc.toList ((i + 1) * 2) (m.drop (i * 2))).length = cc.size := by rw [splice_len (by omega)]; exact hccl
            have hsl : (splice (splice cc.toList ((i + 1) * 2) (m.drop (i * 2))) (i * 2) X).length = cc.size := by rw [splice_len (by omega)]; exact hs1
            refine ⟨_, rfl, ins_row (l := a0) (x := x) (i := i) (g := g) (cap := cap) (cc' := (splice (splice cc.toList ((i + 1) * 2) (m.drop (i * 2))) (i * 2) X).toArray) (fz := fz) (m := m) (q' := q.drop 2) (X := X) (G := G) (GX := GX) b1 hg (putB_same hgl) (by rw [hz, hc, show (i + 1) * 2 = i * 2 + 2 by omega]; exact splice_shift (by omega) hX (by omega)) hr hx (fun j hj => hfz j (by rw [List.size_toArray, hsl] at hj; exact hj)) (by rw [hz, List.size_toArray, hsl]; exact hcs) hcm (fun _ => List.mem_append_left _ (List.mem_cons_self ..)) hGL hng hnd (fun k _ hk => putB_other hk) (by rw [putB_sz]; exact Nat.le_refl _) rfl rfl rfl⟩
    refine key.mono ?_
    rintro e w' ⟨v', rfl, F, hs, hnd, hblk, hos, htp, hot, hsz, hfr⟩
    have hval : (a0.take (i : Int).toNat ++ [x] ++ a0.drop (i : Int).toNat) = insL a0 i x := by simp [insL]
    refine ⟨[v'], F, [], rfl, ⟨[v'], [], F, [], rfl, by simp, rfl, ⟨v', rfl, .inl ?_⟩, rfl, rfl⟩, ?_, by simpa using hnd, by simpa using hblk, hos, htp, hot, hsz, hfr⟩
    · show SlRep w' true false (U.sz ((.pair (.int .i64) (.pair (.int .i64) .unit)))) (Rep w' true ((.pair (.int .i64) (.pair (.int .i64) .unit)))) (a0.take (i : Int).toNat ++ [x] ++ a0.drop (i : Int).toNat) v' F
      rw [hval]; exact hs
    · change OutsRep _ w' [Arg.g (.sl false ((.pair (.int .i64) (.pair (.int .i64) .unit)))) a0, Arg.v (.int .i64) (i : Int), Arg.g (.sl false ((.pair (.int .i64) (.pair (.int .i64) .unit)))) [x]] _ _ _
      simp only [OutsRep, OutRep]
      exact ⟨_, _, [], [], [], [], rfl, rfl, rfl, ⟨rfl, rfl⟩, _, _, [], [], [], [], rfl, rfl, rfl, ⟨rfl, rfl⟩, _, _, [], [], [], [], rfl, rfl, rfl, ⟨rfl, rfl⟩, rfl, rfl⟩


/-! loop.example/g00039/impl.put -/
def impl_put.T : List Ctr := [impl_isTime.spec, impl_GoodLabels.spec, impl_valueOf.spec, slices_Clone_Label.spec, impl_findSeries.spec, slices_Insert_Series.spec, impl_findSample.spec, slices_Insert_Sample.spec]
def impl_put.md : List (Nat × List Md) := [(142, [.g (.sl false (.pair (.sl false (.pair .str (.pair .str .unit))) (.pair (.sl false (.pair (.int .i64) (.pair (.int .i64) .unit))) .unit))), .v, .g (.sl false (.pair (.sl false (.pair .str (.pair .str .unit))) (.pair (.sl false (.pair (.int .i64) (.pair (.int .i64) .unit))) .unit)))]), (144, [.g (.sl false (.pair (.int .i64) (.pair (.int .i64) .unit))), .v, .g (.sl false (.pair (.int .i64) (.pair (.int .i64) .unit)))])]
noncomputable def impl_put.F : Fun := ⟨(Go.Proofs.Try.f87.body).getD .skip, [.p (.pair (.int .i64) (.pair (.int .i64) (.pair (.int .i64) (.pair (.sl false (.pair (.sl false (.pair .str (.pair .str .unit))) (.pair (.sl false (.pair (.int .i64) (.pair (.int .i64) .unit))) .unit))) .unit)))), .v (.pair (.sl false (.pair .str (.pair .str .unit))) (.pair (.int .i64) (.pair (.int .i64) .unit))), .v (.int .i64)], [(.tmp 6, (.int .i64))], [some (.pair (.int .i64) (.pair (.int .i64) (.pair (.int .i64) (.pair (.sl false (.pair (.sl false (.pair .str (.pair .str .unit))) (.pair (.sl false (.pair (.int .i64) (.pair (.int .i64) .unit))) .unit))) .unit))))], 1, [(4, ⟨[0, 2, 4, 20], [], [(4, 0, (.pair .str (.pair .str .unit)))], false⟩), (20, ⟨[0, 4, 42], [], [(4, 0, (.pair .str (.pair .str .unit)))], false⟩), (29, ⟨[0, 4, 7], [], [(4, 0, (.pair .str (.pair .str .unit)))], false⟩), (49, ⟨[0, 4, 8, 9, 10, 95], [], [(4, 0, (.pair .str (.pair .str .unit)))], false⟩)]⟩
inductive impl_put.Pt where
  | p0 (a0 : (Int) × ((Int) × ((Int) × ((List ((List ((ByteArray) × ((ByteArray) × (Unit)))) × ((List ((Int) × ((Int) × (Unit)))) × (Unit)))) × (Unit))))) (a1 : (List ((ByteArray) × ((ByteArray) × (Unit)))) × ((Int) × ((Int) × (Unit)))) (a2 : Int)
  | p4 (y1 : Int) (y2 : Bool) (y3 : Int) (y4 : Int) (y5 : Int) (y6 : List ((ByteArray) × ((ByteArray) × (Unit)))) (y7 : Int) (y8 : Int) (y9 : List ((List ((ByteArray) × ((ByteArray) × (Unit)))) × ((List ((Int) × ((Int) × (Unit)))) × (Unit))))
  | p20 (y1 : Bool) (y2 : Int) (y3 : Int) (y4 : Int) (y5 : List ((ByteArray) × ((ByteArray) × (Unit)))) (y6 : Int) (y7 : Int) (y8 : List ((List ((ByteArray) × ((ByteArray) × (Unit)))) × ((List ((Int) × ((Int) × (Unit)))) × (Unit))))
  | p29 (y1 : Int) (y2 : Int) (y3 : Int) (y4 : Int) (y5 : List ((ByteArray) × ((ByteArray) × (Unit)))) (y6 : Int) (y7 : Int) (y8 : List ((List ((ByteArray) × ((ByteArray) × (Unit)))) × ((List ((Int) × ((Int) × (Unit)))) × (Unit))))
  | p49 (y1 : Bool) (y2 : Nat) (y3 : Int) (y4 : Bool) (y5 : Int) (y6 : Int) (y7 : Int) (y8 : List ((ByteArray) × ((ByteArray) × (Unit)))) (y9 : Int) (y10 : Int) (y11 : List ((List ((ByteArray) × ((ByteArray) × (Unit)))) × ((List ((Int) × ((Int) × (Unit)))) × (Unit))))
def impl_put.lb : impl_put.Pt → Nat
  | .p0 _ _ _ => 0
  | .p4 _ _ _ _ _ _ _ _ _ => 4
  | .p20 _ _ _ _ _ _ _ _ => 20
  | .p29 _ _ _ _ _ _ _ _ => 29
  | .p49 _ _ _ _ _ _ _ _ _ _ _ => 49
def impl_put.st : impl_put.Pt → St
  | .p0 a0 a1 a2 => enter [.p (.pair (.int .i64) (.pair (.int .i64) (.pair (.int .i64) (.pair (.sl false (.pair (.sl false (.pair .str (.pair .str .unit))) (.pair (.sl false (.pair (.int .i64) (.pair (.int .i64) .unit))) .unit))) .unit)))) a0, .v (.pair (.sl false (.pair .str (.pair .str .unit))) (.pair (.int .i64) (.pair (.int .i64) .unit))) a1, .v (.int .i64) a2] 1
  | .p4 y1 y2 y3 y4 y5 y6 y7 y8 y9 => ⟨[(0, .po 0 0), (2, .im (.int .i64) y1), (4, .po 1 0), (20, .im .bool y2)], [(0, .obj [.im (.int .i64) y3, .im (.int .i64) y4, .im (.int .i64) y5, .hs 2 [] none 0]), (1, .obj [.im (.sl false (.pair .str (.pair .str .unit))) y6, .im (.int .i64) y7, .im (.int .i64) y8]), (2, .arr false (.pair (.sl false (.pair .str (.pair .str .unit))) (.pair (.sl false (.pair (.int .i64) (.pair (.int .i64) .unit))) .unit)) y9 0)], 3⟩
  | .p20 y1 y2 y3 y4 y5 y6 y7 y8 => ⟨[(0, .po 0 0), (4, .po 1 0), (42, .im .bool y1)], [(0, .obj [.im (.int .i64) y2, .im (.int .i64) y3, .im (.int .i64) y4, .hs 2 [] none 0]), (1, .obj [.im (.sl false (.pair .str (.pair .str .unit))) y5, .im (.int .i64) y6, .im (.int .i64) y7]), (2, .arr false (.pair (.sl false (.pair .str (.pair .str .unit))) (.pair (.sl false (.pair (.int .i64) (.pair (.int .i64) .unit))) .unit)) y8 0)], 3⟩
  | .p29 y1 y2 y3 y4 y5 y6 y7 y8 => ⟨[(0, .po 0 0), (4, .po 1 0), (7, .im (.int .i64) y1)], [(0, .obj [.im (.int .i64) y2, .im (.int .i64) y3, .im (.int .i64) y4, .hs 2 [] none 0]), (1, .obj [.im (.sl false (.pair .str (.pair .str .unit))) y5, .im (.int .i64) y6, .im (.int .i64) y7]), (2, .arr false (.pair (.sl false (.pair .str (.pair .str .unit))) (.pair (.sl false (.pair (.int .i64) (.pair (.int .i64) .unit))) .unit)) y8 0)], 3⟩
  | .p49 y1 y2 y3 y4 y5 y6 y7 y8 y9 y10 y11 => ⟨[(0, .po 0 0), (4, .po 1 0), (8, .im .bool y1), (9, .pe 2 [] 0 y2 0), (10, .im (.int .i64) y3), (95, .im .bool y4)], [(0, .obj [.im (.int .i64) y5, .im (.int .i64) y6, .im (.int .i64) y7, .hs 2 [] none 0]), (1, .obj [.im (.sl false (.pair .str (.pair .str .unit))) y8, .im (.int .i64) y9, .im (.int .i64) y10]), (2, .arr false (.pair (.sl false (.pair .str (.pair .str .unit))) (.pair (.sl false (.pair (.int .i64) (.pair (.int .i64) .unit))) .unit)) y11 0)], 3⟩
def impl_put.step (n : Nat) (K : impl_put.Pt → Option (Tup [(.int .i64), (.pair (.int .i64) (.pair (.int .i64) (.pair (.int .i64) (.pair (.sl false (.pair (.sl false (.pair .str (.pair .str .unit))) (.pair (.sl false (.pair (.int .i64) (.pair (.int .i64) .unit))) .unit))) .unit))))])) : impl_put.Pt → Option (Tup [(.int .i64), (.pair (.int .i64) (.pair (.int .i64) (.pair (.int .i64) (.pair (.sl false (.pair (.sl false (.pair .str (.pair .str .unit))) (.pair (.sl false (.pair (.int .i64) (.pair (.int .i64) .unit))) .unit))) .unit))))])
  | .p0 a0 a1 a2 => (impl_GoodLabels n a1.1).bind fun r6 => cond (!r6) (K (.p4 a2 true a0.1 a0.2.1 a0.2.2.1 a1.1 a1.2.1 a1.2.2.1 a0.2.2.2.1)) ((impl_valueOf n a1.1 (⟨#[95, 110, 97, 109, 101]⟩ : ByteArray)).bind fun r7 => K (.p4 a2 (seq r7 (⟨#[]⟩ : ByteArray)) a0.1 a0.2.1 a0.2.2.1 a1.1 a1.2.1 a1.2.2.1 a0.2.2.2.1))
  | .p4 y1 y2 y3 y4 y5 y6 y7 y8 y9 => cond y2 (some ((1 : Int), (y3, (y4, (y5, (y9, ())))))) ((impl_isTime n y7).bind fun r12 => cond (!r12) (some ((2 : Int), (y3, (y4, (y5, (y9, ())))))) (cond (decide (y7 < (IntKind.wrap .i64 (y5 - y3)))) (K (.p20 true y3 y4 y5 y6 y7 y8 y9)) (K (.p20 (decide (y7 < y1)) y3 y4 y5 y6 y7 y8 y9))))
  | .p20 y1 y2 y3 y4 y5 y6 y7 y8 => cond y1 (some ((3 : Int), (y2, (y3, (y4, (y8, ())))))) ((impl_findSeries n y8 y5).bind fun r11 => cond (!r11.2) (cond (decide (y3 ≤ ((List.length y8) : Int))) (some ((4 : Int), (y2, (y3, (y4, (y8, ())))))) ((slices_Clone_Label n y5).bind fun r12 => (slices_Insert_Series n y8 r11.1 [(r12, (([] : List ((Int) × ((Int) × (Unit)))), ()))]).bind fun r13 => K (.p29 r11.1 y2 y3 y4 y5 y6 y7 r13))) (K (.p29 r11.1 y2 y3 y4 y5 y6 y7 y8)))
  | .p29 y1 y2 y3 y4 y5 y6 y7 y8 => cond (inB y1 (List.length y8)) ((impl_findSample n (List.getD y8 (0 + (Int.toNat y1)) default).2.1 y6).bind fun r11 => cond r11.2 (cond (inB r11.1 (List.length (List.getD y8 (0 + (Int.toNat y1)) default).2.1)) (K (.p49 r11.2 (0 + (Int.toNat y1)) r11.1 (decide ((List.getD (List.getD y8 (0 + (Int.toNat y1)) default).2.1 (0 + (Int.toNat r11.1)) default).2.1 = y7)) y2 y3 y4 y5 y6 y7 y8)) (none)) (K (.p49 r11.2 (0 + (Int.toNat y1)) r11.1 false y2 y3 y4 y5 y6 y7 y8))) (none)
  | .p49 y1 y2 y3 y4 y5 y6 y7 y8 y9 y10 y11 => cond y4 (some ((6 : Int), (y5, (y6, (y7, (y11, ())))))) (cond y1 (some ((5 : Int), (y5, (y6, (y7, (y11, ())))))) (cond (decide ((2000 : Int) ≤ ((List.length (List.getD y11 y2 default).2.1) : Int))) (some ((7 : Int), (y5, (y6, (y7, (y11, ())))))) ((slices_Insert_Sample n (List.getD y11 y2 default).2.1 y3 [(y9, (y10, ()))]).bind fun r14 => cond (Nat.beq y2 y2) (some ((0 : Int), (y5, (y6, ((max y7 y9), ((List.set y11 y2 ((List.getD y11 y2 default).1, (r14, (List.getD y11 y2 default).2.2))), ())))))) (none))))
def impl_put (n : Nat) (a0 : (Int) × ((Int) × ((Int) × ((List ((List ((ByteArray) × ((ByteArray) × (Unit)))) × ((List ((Int) × ((Int) × (Unit)))) × (Unit)))) × (Unit))))) (a1 : (List ((ByteArray) × ((ByteArray) × (Unit)))) × ((Int) × ((Int) × (Unit)))) (a2 : Int) : Option (Tup [(.int .i64), (.pair (.int .i64) (.pair (.int .i64) (.pair (.int .i64) (.pair (.sl false (.pair (.sl false (.pair .str (.pair .str .unit))) (.pair (.sl false (.pair (.int .i64) (.pair (.int .i64) .unit))) .unit))) .unit))))]) := goRec impl_put.step n (.p0 a0 a1 a2)
def impl_put.spec : Ctr := ⟨87, [.p (.pair (.int .i64) (.pair (.int .i64) (.pair (.int .i64) (.pair (.sl false (.pair (.sl false (.pair .str (.pair .str .unit))) (.pair (.sl false (.pair (.int .i64) (.pair (.int .i64) .unit))) .unit))) .unit)))), .v (.pair (.sl false (.pair .str (.pair .str .unit))) (.pair (.int .i64) (.pair (.int .i64) .unit))), .v (.int .i64)], [(.int .i64)], [(.pair (.int .i64) (.pair (.int .i64) (.pair (.int .i64) (.pair (.sl false (.pair (.sl false (.pair .str (.pair .str .unit))) (.pair (.sl false (.pair (.int .i64) (.pair (.int .i64) .unit))) .unit))) .unit))))], none, fun n x => impl_put n x.1 x.2.1 x.2.2.1⟩
theorem impl_put.seg_eq : SegEq ty gl impl_put.F impl_put.md impl_put.T impl_put.spec impl_put.lb impl_put.st impl_put.step := by
  intro n goto y; cases y <;> kernel_rfl
theorem impl_put.text : Text Go.Proofs.Try.prog impl_put.F impl_put.spec := textOf Go.Proofs.Try.f87
theorem impl_put.ok : CtrOK Go.Proofs.Try.prog gl impl_put.spec :=
  ctr_okS tabs impl_put.text impl_put.seg_eq (fun n x => ⟨.p0 x.1 x.2.1 x.2.2.1, rfl, rfl, rfl⟩) (consC impl_isTime.ok (consC impl_GoodLabels.ok (consC impl_valueOf.ok (consC slices_Clone_Label.ok (consC impl_findSeries.ok (consC slices_Insert_Series.ok (consC impl_findSample.ok (consC slices_Insert_Sample.ok (nilC)))))))))

/-! loop.example/g00039/impl.PutAll -/
def impl_PutAll.T : List Ctr := [impl_GoodHead.spec, impl_ownSeries.spec, impl_put.spec]
def impl_PutAll.md : List (Nat × List Md) := [(87, [.p (.pair (.int .i64) (.pair (.int .i64) (.pair (.int .i64) (.pair (.sl false (.pair (.sl false (.pair .str (.pair .str .unit))) (.pair (.sl false (.pair (.int .i64) (.pair (.int .i64) .unit))) .unit))) .unit)))), .v, .v])]
noncomputable def impl_PutAll.F : Fun := ⟨(Go.Proofs.Try.f36.body).getD .skip, [.v (.pair (.int .i64) (.pair (.int .i64) (.pair (.int .i64) (.pair (.sl false (.pair (.sl false (.pair .str (.pair .str .unit))) (.pair (.sl false (.pair (.int .i64) (.pair (.int .i64) .unit))) .unit))) .unit)))), .v (.sl false (.pair (.sl false (.pair .str (.pair .str .unit))) (.pair (.int .i64) (.pair (.int .i64) .unit))))], [(.cell 4 62, (.pair (.int .i64) (.pair (.int .i64) (.pair (.int .i64) (.pair (.sl false (.pair (.sl false (.pair .str (.pair .str .unit))) (.pair (.sl false (.pair (.int .i64) (.pair (.int .i64) .unit))) .unit))) .unit))))), (.tmp 5, (.sl false (.int .i64)))], [], 0, [(4, ⟨[1, 2, 4, 16], [], [(2, 3, (.pair (.sl false (.pair .str (.pair .str .unit))) (.pair (.sl false (.pair (.int .i64) (.pair (.int .i64) .unit))) .unit))), (4, 3, (.pair (.sl false (.pair .str (.pair .str .unit))) (.pair (.sl false (.pair (.int .i64) (.pair (.int .i64) .unit))) .unit)))], false⟩), (19, ⟨[2, 4, 6, 22, 23, 24], [(6, (.int .i64)), (22, (.pair (.sl false (.pair .str (.pair .str .unit))) (.pair (.int .i64) (.pair (.int .i64) .unit))))], [(2, 3, (.pair (.sl false (.pair .str (.pair .str .unit))) (.pair (.sl false (.pair (.int .i64) (.pair (.int .i64) .unit))) .unit))), (4, 3, (.pair (.sl false (.pair .str (.pair .str .unit))) (.pair (.sl false (.pair (.int .i64) (.pair (.int .i64) .unit))) .unit)))], false⟩)]⟩
inductive impl_PutAll.Pt where
  | p0 (a0 : (Int) × ((Int) × ((Int) × ((List ((List ((ByteArray) × ((ByteArray) × (Unit)))) × ((List ((Int) × ((Int) × (Unit)))) × (Unit)))) × (Unit))))) (a1 : List ((List ((ByteArray) × ((ByteArray) × (Unit)))) × ((Int) × ((Int) × (Unit)))))
  | p4 (y1 : List ((List ((ByteArray) × ((ByteArray) × (Unit)))) × ((Int) × ((Int) × (Unit))))) (y2 : Bool) (y3 : Int) (y4 : Int) (y5 : Int) (y6 : List ((List ((ByteArray) × ((ByteArray) × (Unit)))) × ((List ((Int) × ((Int) × (Unit)))) × (Unit)))) (y7 : Int) (y8 : Int) (y9 : Int) (y10 : List ((List ((ByteArray) × ((ByteArray) × (Unit)))) × ((List ((Int) × ((Int) × (Unit)))) × (Unit))))
  | p19 (y1 : List ((List ((ByteArray) × ((ByteArray) × (Unit)))) × ((Int) × ((Int) × (Unit))))) (y2 : Int) (y3 : Int) (y4 : Int) (y5 : Int) (y6 : Int) (y7 : Int) (y8 : Int) (y9 : Int) (y10 : List (Int)) (y11 : List ((List ((ByteArray) × ((ByteArray) × (Unit)))) × ((List ((Int) × ((Int) × (Unit)))) × (Unit)))) (y12 : List ((List ((ByteArray) × ((ByteArray) × (Unit)))) × ((List ((Int) × ((Int) × (Unit)))) × (Unit))))
def impl_PutAll.lb : impl_PutAll.Pt → Nat
  | .p0 _ _ => 0
  | .p4 _ _ _ _ _ _ _ _ _ _ => 4
  | .p19 _ _ _ _ _ _ _ _ _ _ _ _ => 19
def impl_PutAll.st : impl_PutAll.Pt → St
  | .p0 a0 a1 => enter [.v (.pair (.int .i64) (.pair (.int .i64) (.pair (.int .i64) (.pair (.sl false (.pair (.sl false (.pair .str (.pair .str .unit))) (.pair (.sl false (.pair (.int .i64) (.pair (.int .i64) .unit))) .unit))) .unit)))) a0, .v (.sl false (.pair (.sl false (.pair .str (.pair .str .unit))) (.pair (.int .i64) (.pair (.int .i64) .unit)))) a1] 0
  | .p4 y1 y2 y3 y4 y5 y6 y7 y8 y9 y10 => ⟨[(1, .im (.sl false (.pair (.sl false (.pair .str (.pair .str .unit))) (.pair (.int .i64) (.pair (.int .i64) .unit)))) y1), (2, .po 0 0), (4, .po 1 0), (16, .im .bool y2)], [(0, .obj [.im (.int .i64) y3, .im (.int .i64) y4, .im (.int .i64) y5, .im (.sl false (.pair (.sl false (.pair .str (.pair .str .unit))) (.pair (.sl false (.pair (.int .i64) (.pair (.int .i64) .unit))) .unit))) y6]), (1, .obj [.im (.int .i64) y7, .im (.int .i64) y8, .im (.int .i64) y9, .hs 2 [] none 0]), (2, .arr true (.pair (.sl false (.pair .str (.pair .str .unit))) (.pair (.sl false (.pair (.int .i64) (.pair (.int .i64) .unit))) .unit)) y10 0)], 3⟩
  | .p19 y1 y2 y3 y4 y5 y6 y7 y8 y9 y10 y11 y12 => ⟨[(2, .po 0 0), (4, .po 1 0), (6, .hs 2 [] none 0), (22, .im (.sl false (.pair (.sl false (.pair .str (.pair .str .unit))) (.pair (.int .i64) (.pair (.int .i64) .unit)))) y1), (23, .im (.int .i64) y2), (24, .im (.int .i64) y3)], [(0, .obj [.im (.int .i64) y4, .im (.int .i64) y5, .im (.int .i64) y6, .hs 3 [] none 0]), (1, .obj [.im (.int .i64) y7, .im (.int .i64) y8, .im (.int .i64) y9, .hs 4 [] none 0]), (2, .arr true (.int .i64) y10 0), (3, .arr false (.pair (.sl false (.pair .str (.pair .str .unit))) (.pair (.sl false (.pair (.int .i64) (.pair (.int .i64) .unit))) .unit)) y11 0), (4, .arr true (.pair (.sl false (.pair .str (.pair .str .unit))) (.pair (.sl false (.pair (.int .i64) (.pair (.int .i64) .unit))) .unit)) y12 0)], 5⟩
def impl_PutAll.step (n : Nat) (K : impl_PutAll.Pt → Option (Tup [(.pair (.int .i64) (.pair (.int .i64) (.pair (.int .i64) (.pair (.sl false (.pair (.sl false (.pair .str (.pair .str .unit))) (.pair (.sl false (.pair (.int .i64) (.pair (.int .i64) .unit))) .unit))) .unit)))), (.sl false (.int .i64))])) : impl_PutAll.Pt → Option (Tup [(.pair (.int .i64) (.pair (.int .i64) (.pair (.int .i64) (.pair (.sl false (.pair (.sl false (.pair .str (.pair .str .unit))) (.pair (.sl false (.pair (.int .i64) (.pair (.int .i64) .unit))) .unit))) .unit)))), (.sl false (.int .i64))])
  | .p0 a0 a1 => (impl_GoodHead n a0).bind fun r5 => cond (!r5) (K (.p4 a1 true a0.1 a0.2.1 a0.2.2.1 a0.2.2.2.1 (default : Int) (default : Int) (default : Int) ([] : List ((List ((ByteArray) × ((ByteArray) × (Unit)))) × ((List ((Int) × ((Int) × (Unit)))) × (Unit)))))) (K (.p4 a1 (decide ((500 : Int) < ((List.length a1) : Int))) a0.1 a0.2.1 a0.2.2.1 a0.2.2.2.1 (default : Int) (default : Int) (default : Int) ([] : List ((List ((ByteArray) × ((ByteArray) × (Unit)))) × ((List ((Int) × ((Int) × (Unit)))) × (Unit))))))
  | .p4 y1 y2 y3 y4 y5 y6 y7 y8 y9 y10 => cond y2 (some ((default : (Int) × ((Int) × ((Int) × ((List ((List ((ByteArray) × ((ByteArray) × (Unit)))) × ((List ((Int) × ((Int) × (Unit)))) × (Unit)))) × (Unit))))), ([] : List (Int)))) ((impl_ownSeries n y6).bind fun r13 => K (.p19 y1 ((List.length y1) : Int) (0 : Int) y3 y4 y5 y7 y8 y9 ([] : List (Int)) r13 y10))
  | .p19 y1 y2 y3 y4 y5 y6 y7 y8 y9 y10 y11 y12 => cond (decide (y3 < y2)) (cond (inB y3 (List.length y1)) ((impl_put n (y4, (y5, (y6, (y11, ())))) ((List.getD y1 (Int.toNat y3) default).1, (List.getD y1 (Int.toNat y3) default).2) (0 : Int)).bind fun r15 => cond (room ((List.length y10) + (List.length [r15.1]))) (K (.p19 y1 y2 (IntKind.wrap .i64 (y3 + (1 : Int))) r15.2.1 r15.2.2.1 r15.2.2.2.1 y7 y8 y9 (y10 ++ [r15.1]) r15.2.2.2.2.1 y12)) (none)) (none)) (some ((y4, (y5, (y6, (y11, ())))), y10))
def impl_PutAll (n : Nat) (a0 : (Int) × ((Int) × ((Int) × ((List ((List ((ByteArray) × ((ByteArray) × (Unit)))) × ((List ((Int) × ((Int) × (Unit)))) × (Unit)))) × (Unit))))) (a1 : List ((List ((ByteArray) × ((ByteArray) × (Unit)))) × ((Int) × ((Int) × (Unit))))) : Option (Tup [(.pair (.int .i64) (.pair (.int .i64) (.pair (.int .i64) (.pair (.sl false (.pair (.sl false (.pair .str (.pair .str .unit))) (.pair (.sl false (.pair (.int .i64) (.pair (.int .i64) .unit))) .unit))) .unit)))), (.sl false (.int .i64))]) := goRec impl_PutAll.step n (.p0 a0 a1)
def impl_PutAll.spec : Ctr := ⟨36, [.v (.pair (.int .i64) (.pair (.int .i64) (.pair (.int .i64) (.pair (.sl false (.pair (.sl false (.pair .str (.pair .str .unit))) (.pair (.sl false (.pair (.int .i64) (.pair (.int .i64) .unit))) .unit))) .unit)))), .v (.sl false (.pair (.sl false (.pair .str (.pair .str .unit))) (.pair (.int .i64) (.pair (.int .i64) .unit))))], [(.pair (.int .i64) (.pair (.int .i64) (.pair (.int .i64) (.pair (.sl false (.pair (.sl false (.pair .str (.pair .str .unit))) (.pair (.sl false (.pair (.int .i64) (.pair (.int .i64) .unit))) .unit))) .unit)))), (.sl false (.int .i64))], [], none, fun n x => impl_PutAll n x.1 x.2.1⟩
theorem impl_PutAll.seg_eq : SegEq ty gl impl_PutAll.F impl_PutAll.md impl_PutAll.T impl_PutAll.spec impl_PutAll.lb impl_PutAll.st impl_PutAll.step := by
  intro n goto y; cases y <;> kernel_rfl
theorem impl_PutAll.text : Text Go.Proofs.Try.prog impl_PutAll.F impl_PutAll.spec := textOf Go.Proofs.Try.f36
theorem impl_PutAll.ok : CtrOK Go.Proofs.Try.prog gl impl_PutAll.spec :=
  ctr_okS tabs impl_PutAll.text impl_PutAll.seg_eq (fun n x => ⟨.p0 x.1 x.2.1, rfl, rfl, rfl⟩) (consC impl_GoodHead.ok (consC impl_ownSeries.ok (consC impl_put.ok (nilC))))

/-! loop.example/g00039/spec.GoodSamples -/
def spec_GoodSamples.T : List Ctr := [spec_l3Time.spec]
def spec_GoodSamples.md : List (Nat × List Md) := []
noncomputable def spec_GoodSamples.F : Fun := ⟨(Go.Proofs.Try.f150.body).getD .skip, [.v (.sl false (.pair (.int .i64) (.pair (.int .i64) .unit)))], [(.tmp 2, .bool)], [], 0, [(7, ⟨[0, 5, 6, 7], [(5, (.pair (.int .i64) (.pair (.int .i64) .unit)))], [], false⟩), (18, ⟨[0, 5, 6, 7, 30], [(5, (.pair (.int .i64) (.pair (.int .i64) .unit)))], [], false⟩)]⟩
inductive spec_GoodSamples.Pt where
  | p0 (a0 : List ((Int) × ((Int) × (Unit))))
  | p7 (y1 : List ((Int) × ((Int) × (Unit)))) (y2 : List ((Int) × ((Int) × (Unit)))) (y3 : Int) (y4 : Int)
  | p18 (y1 : List ((Int) × ((Int) × (Unit)))) (y2 : List ((Int) × ((Int) × (Unit)))) (y3 : Int) (y4 : Int) (y5 : Bool)
def spec_GoodSamples.lb : spec_GoodSamples.Pt → Nat
  | .p0 _ => 0
  | .p7 _ _ _ _ => 7
  | .p18 _ _ _ _ _ => 18
def spec_GoodSamples.st : spec_GoodSamples.Pt → St
  | .p0 a0 => enter [.v (.sl false (.pair (.int .i64) (.pair (.int .i64) .unit))) a0] 0
  | .p7 y1 y2 y3 y4 => ⟨[(0, .im (.sl false (.pair (.int .i64) (.pair (.int .i64) .unit))) y1), (5, .im (.sl false (.pair (.int .i64) (.pair (.int .i64) .unit))) y2), (6, .im (.int .i64) y3), (7, .im (.int .i64) y4)], [], 0⟩
  | .p18 y1 y2 y3 y4 y5 => ⟨[(0, .im (.sl false (.pair (.int .i64) (.pair (.int .i64) .unit))) y1), (5, .im (.sl false (.pair (.int .i64) (.pair (.int .i64) .unit))) y2), (6, .im (.int .i64) y3), (7, .im (.int .i64) y4), (30, .im .bool y5)], [], 0⟩
def spec_GoodSamples.step (n : Nat) (K : spec_GoodSamples.Pt → Option (Tup [.bool])) : spec_GoodSamples.Pt → Option (Tup [.bool])
  | .p0 a0 => K (.p7 a0 a0 ((List.length a0) : Int) (0 : Int))
  | .p7 y1 y2 y3 y4 => cond (decide (y4 < y3)) (cond (inB y4 (List.length y2)) ((spec_l3Time n (List.getD y2 (Int.toNat y4) default).1).bind fun r7 => cond (!r7) (K (.p18 y1 y2 y3 y4 true)) (cond (decide ((0 : Int) < y4)) (cond (inB (IntKind.wrap .i64 (y4 - (1 : Int))) (List.length y1)) (K (.p18 y1 y2 y3 y4 (decide ((List.getD y2 (Int.toNat y4) default).1 ≤ (List.getD y1 (Int.toNat (IntKind.wrap .i64 (y4 - (1 : Int)))) default).1)))) (none)) (K (.p18 y1 y2 y3 y4 false)))) (none)) (some (decide (((List.length y1) : Int) ≤ (2000 : Int))))
  | .p18 y1 y2 y3 y4 y5 => cond y5 (some false) (K (.p7 y1 y2 y3 (IntKind.wrap .i64 (y4 + (1 : Int)))))
def spec_GoodSamples (n : Nat) (a0 : List ((Int) × ((Int) × (Unit)))) : Option (Tup [.bool]) := goRec spec_GoodSamples.step n (.p0 a0)
def spec_GoodSamples.spec : Ctr := ⟨150, [.v (.sl false (.pair (.int .i64) (.pair (.int .i64) .unit)))], [.bool], [], none, fun n x => spec_GoodSamples n x.1⟩
theorem spec_GoodSamples.seg_eq : SegEq ty gl spec_GoodSamples.F spec_GoodSamples.md spec_GoodSamples.T spec_GoodSamples.spec spec_GoodSamples.lb spec_GoodSamples.st spec_GoodSamples.step := by
  intro n goto y; cases y <;> kernel_rfl
theorem spec_GoodSamples.text : Text Go.Proofs.Try.prog spec_GoodSamples.F spec_GoodSamples.spec := textOf Go.Proofs.Try.f150
theorem spec_GoodSamples.ok : CtrOK Go.Proofs.Try.prog gl spec_GoodSamples.spec :=
  ctr_okS tabs spec_GoodSamples.text spec_GoodSamples.seg_eq (fun n x => ⟨.p0 x.1, rfl, rfl, rfl⟩) (consC spec_l3Time.ok (nilC))

/-! loop.example/g00039/spec.GoodSeries -/
def spec_GoodSeries.T : List Ctr := [spec_l7Named.spec, spec_l2Cmp.spec, spec_GoodSamples.spec]
def spec_GoodSeries.md : List (Nat × List Md) := []
noncomputable def spec_GoodSeries.F : Fun := ⟨(Go.Proofs.Try.f91.body).getD .skip, [.v (.sl false (.pair (.sl false (.pair .str (.pair .str .unit))) (.pair (.sl false (.pair (.int .i64) (.pair (.int .i64) .unit))) .unit)))], [(.tmp 2, .bool)], [], 0, [(15, ⟨[0, 8, 9, 10], [(8, (.pair (.sl false (.pair .str (.pair .str .unit))) (.pair (.sl false (.pair (.int .i64) (.pair (.int .i64) .unit))) .unit)))], [], false⟩), (26, ⟨[0, 8, 9, 10, 46], [(8, (.pair (.sl false (.pair .str (.pair .str .unit))) (.pair (.sl false (.pair (.int .i64) (.pair (.int .i64) .unit))) .unit)))], [], false⟩)]⟩
inductive spec_GoodSeries.Pt where
  | p0 (a0 : List ((List ((ByteArray) × ((ByteArray) × (Unit)))) × ((List ((Int) × ((Int) × (Unit)))) × (Unit))))
  | p15 (y1 : List ((List ((ByteArray) × ((ByteArray) × (Unit)))) × ((List ((Int) × ((Int) × (Unit)))) × (Unit)))) (y2 : List ((List ((ByteArray) × ((ByteArray) × (Unit)))) × ((List ((Int) × ((Int) × (Unit)))) × (Unit)))) (y3 : Int) (y4 : Int)
  | p26 (y1 : List ((List ((ByteArray) × ((ByteArray) × (Unit)))) × ((List ((Int) × ((Int) × (Unit)))) × (Unit)))) (y2 : List ((List ((ByteArray) × ((ByteArray) × (Unit)))) × ((List ((Int) × ((Int) × (Unit)))) × (Unit)))) (y3 : Int) (y4 : Int) (y5 : Bool)
def spec_GoodSeries.lb : spec_GoodSeries.Pt → Nat
  | .p0 _ => 0
  | .p15 _ _ _ _ => 15
  | .p26 _ _ _ _ _ => 26
def spec_GoodSeries.st : spec_GoodSeries.Pt → St
  | .p0 a0 => enter [.v (.sl false (.pair (.sl false (.pair .str (.pair .str .unit))) (.pair (.sl false (.pair (.int .i64) (.pair (.int .i64) .unit))) .unit))) a0] 0
  | .p15 y1 y2 y3 y4 => ⟨[(0, .im (.sl false (.pair (.sl false (.pair .str (.pair .str .unit))) (.pair (.sl false (.pair (.int .i64) (.pair (.int .i64) .unit))) .unit))) y1), (8, .im (.sl false (.pair (.sl false (.pair .str (.pair .str .unit))) (.pair (.sl false (.pair (.int .i64) (.pair (.int .i64) .unit))) .unit))) y2), (9, .im (.int .i64) y3), (10, .im (.int .i64) y4)], [], 0⟩
  | .p26 y1 y2 y3 y4 y5 => ⟨[(0, .im (.sl false (.pair (.sl false (.pair .str (.pair .str .unit))) (.pair (.sl false (.pair (.int .i64) (.pair (.int .i64) .unit))) .unit))) y1), (8, .im (.sl false (.pair (.sl false (.pair .str (.pair .str .unit))) (.pair (.sl false (.pair (.int .i64) (.pair (.int .i64) .unit))) .unit))) y2), (9, .im (.int .i64) y3), (10, .im (.int .i64) y4), (46, .im .bool y5)], [], 0⟩
def spec_GoodSeries.step (n : Nat) (K : spec_GoodSeries.Pt → Option (Tup [.bool])) : spec_GoodSeries.Pt → Option (Tup [.bool])
  | .p0 a0 => cond (decide ((200 : Int) < ((List.length a0) : Int))) (some false) (K (.p15 a0 a0 ((List.length a0) : Int) (0 : Int)))
  | .p15 y1 y2 y3 y4 => cond (decide (y4 < y3)) (cond (inB y4 (List.length y2)) ((spec_l7Named n (List.getD y2 (Int.toNat y4) default).1).bind fun r7 => cond (!r7) (K (.p26 y1 y2 y3 y4 true)) ((spec_GoodSamples n (List.getD y2 (Int.toNat y4) default).2.1).bind fun r8 => cond (!r8) (K (.p26 y1 y2 y3 y4 true)) (cond (decide (((List.length (List.getD y2 (Int.toNat y4) default).2.1) : Int) = (0 : Int))) (K (.p26 y1 y2 y3 y4 true)) (cond (decide ((0 : Int) < y4)) (cond (inB (IntKind.wrap .i64 (y4 - (1 : Int))) (List.length y1)) ((spec_l2Cmp n (List.getD y1 (Int.toNat (IntKind.wrap .i64 (y4 - (1 : Int)))) default).1 (List.getD y2 (Int.toNat y4) default).1).bind fun (r9 : Int) => K (.p26 y1 y2 y3 y4 (decide ((0 : Int) ≤ r9)))) (none)) (K (.p26 y1 y2 y3 y4 false)))))) (none)) (some true)
  | .p26 y1 y2 y3 y4 y5 => cond y5 (some false) (K (.p15 y1 y2 y3 (IntKind.wrap .i64 (y4 + (1 : Int)))))
def spec_GoodSeries (n : Nat) (a0 : List ((List ((ByteArray) × ((ByteArray) × (Unit)))) × ((List ((Int) × ((Int) × (Unit)))) × (Unit)))) : Option (Tup [.bool]) := goRec spec_GoodSeries.step n (.p0 a0)
def spec_GoodSeries.spec : Ctr := ⟨91, [.v (.sl false (.pair (.sl false (.pair .str (.pair .str .unit))) (.pair (.sl false (.pair (.int .i64) (.pair (.int .i64) .unit))) .unit)))], [.bool], [], none, fun n x => spec_GoodSeries n x.1⟩
theorem spec_GoodSeries.seg_eq : SegEq ty gl spec_GoodSeries.F spec_GoodSeries.md spec_GoodSeries.T spec_GoodSeries.spec spec_GoodSeries.lb spec_GoodSeries.st spec_GoodSeries.step := by
  intro n goto y; cases y <;> kernel_rfl
theorem spec_GoodSeries.text : Text Go.Proofs.Try.prog spec_GoodSeries.F spec_GoodSeries.spec := textOf Go.Proofs.Try.f91
theorem spec_GoodSeries.ok : CtrOK Go.Proofs.Try.prog gl spec_GoodSeries.spec :=
  ctr_okS tabs spec_GoodSeries.text spec_GoodSeries.seg_eq (fun n x => ⟨.p0 x.1, rfl, rfl, rfl⟩) (consC spec_l7Named.ok (consC spec_l2Cmp.ok (consC spec_GoodSamples.ok (nilC))))

/-! loop.example/g00039/spec.GoodHead -/
def spec_GoodHead.T : List Ctr := [spec_l3Time.spec, spec_GoodSeries.spec]
def spec_GoodHead.md : List (Nat × List Md) := []
noncomputable def spec_GoodHead.F : Fun := ⟨(Go.Proofs.Try.f40.body).getD .skip, [.v (.pair (.int .i64) (.pair (.int .i64) (.pair (.int .i64) (.pair (.sl false (.pair (.sl false (.pair .str (.pair .str .unit))) (.pair (.sl false (.pair (.int .i64) (.pair (.int .i64) .unit))) .unit))) .unit))))], [(.tmp 2, .bool)], [], 0, [(4, ⟨[1, 42], [], [(1, 3, (.pair (.sl false (.pair .str (.pair .str .unit))) (.pair (.sl false (.pair (.int .i64) (.pair (.int .i64) .unit))) .unit)))], false⟩), (15, ⟨[1, 44, 45, 46], [(44, (.pair (.sl false (.pair .str (.pair .str .unit))) (.pair (.sl false (.pair (.int .i64) (.pair (.int .i64) .unit))) .unit)))], [(1, 3, (.pair (.sl false (.pair .str (.pair .str .unit))) (.pair (.sl false (.pair (.int .i64) (.pair (.int .i64) .unit))) .unit)))], false⟩)]⟩
inductive spec_GoodHead.Pt where
  | p0 (a0 : (Int) × ((Int) × ((Int) × ((List ((List ((ByteArray) × ((ByteArray) × (Unit)))) × ((List ((Int) × ((Int) × (Unit)))) × (Unit)))) × (Unit)))))
  | p4 (y1 : Bool) (y2 : Int) (y3 : Int) (y4 : Int) (y5 : List ((List ((ByteArray) × ((ByteArray) × (Unit)))) × ((List ((Int) × ((Int) × (Unit)))) × (Unit))))
  | p15 (y1 : List ((List ((ByteArray) × ((ByteArray) × (Unit)))) × ((List ((Int) × ((Int) × (Unit)))) × (Unit)))) (y2 : Int) (y3 : Int) (y4 : Int) (y5 : Int) (y6 : Int) (y7 : List ((List ((ByteArray) × ((ByteArray) × (Unit)))) × ((List ((Int) × ((Int) × (Unit)))) × (Unit))))
def spec_GoodHead.lb : spec_GoodHead.Pt → Nat
  | .p0 _ => 0
  | .p4 _ _ _ _ _ => 4
  | .p15 _ _ _ _ _ _ _ => 15
def spec_GoodHead.st : spec_GoodHead.Pt → St
  | .p0 a0 => enter [.v (.pair (.int .i64) (.pair (.int .i64) (.pair (.int .i64) (.pair (.sl false (.pair (.sl false (.pair .str (.pair .str .unit))) (.pair (.sl false (.pair (.int .i64) (.pair (.int .i64) .unit))) .unit))) .unit)))) a0] 0
  | .p4 y1 y2 y3 y4 y5 => ⟨[(1, .po 0 0), (42, .im .bool y1)], [(0, .obj [.im (.int .i64) y2, .im (.int .i64) y3, .im (.int .i64) y4, .im (.sl false (.pair (.sl false (.pair .str (.pair .str .unit))) (.pair (.sl false (.pair (.int .i64) (.pair (.int .i64) .unit))) .unit))) y5])], 1⟩
  | .p15 y1 y2 y3 y4 y5 y6 y7 => ⟨[(1, .po 0 0), (44, .im (.sl false (.pair (.sl false (.pair .str (.pair .str .unit))) (.pair (.sl false (.pair (.int .i64) (.pair (.int .i64) .unit))) .unit))) y1), (45, .im (.int .i64) y2), (46, .im (.int .i64) y3)], [(0, .obj [.im (.int .i64) y4, .im (.int .i64) y5, .im (.int .i64) y6, .im (.sl false (.pair (.sl false (.pair .str (.pair .str .unit))) (.pair (.sl false (.pair (.int .i64) (.pair (.int .i64) .unit))) .unit))) y7])], 1⟩
def spec_GoodHead.step (n : Nat) (K : spec_GoodHead.Pt → Option (Tup [.bool])) : spec_GoodHead.Pt → Option (Tup [.bool])
  | .p0 a0 => (spec_l3Time n a0.1).bind fun r4 => cond (!r4) (K (.p4 true a0.1 a0.2.1 a0.2.2.1 a0.2.2.2.1)) (cond (decide (a0.2.1 < (0 : Int))) (K (.p4 true a0.1 a0.2.1 a0.2.2.1 a0.2.2.2.1)) (cond (decide ((200 : Int) < a0.2.1)) (K (.p4 true a0.1 a0.2.1 a0.2.2.1 a0.2.2.2.1)) ((spec_GoodSeries n a0.2.2.2.1).bind fun r5 => cond (!r5) (K (.p4 true a0.1 a0.2.1 a0.2.2.1 a0.2.2.2.1)) (cond (decide (a0.2.1 < ((List.length a0.2.2.2.1) : Int))) (K (.p4 true a0.1 a0.2.1 a0.2.2.1 a0.2.2.2.1)) (cond (decide (a0.2.2.1 < (-(1 : Int)))) (K (.p4 true a0.1 a0.2.1 a0.2.2.1 a0.2.2.2.1)) (K (.p4 (decide ((1000000000000 : Int) < a0.2.2.1)) a0.1 a0.2.1 a0.2.2.1 a0.2.2.2.1)))))))
  | .p4 y1 y2 y3 y4 y5 => cond y1 (some false) (K (.p15 y5 ((List.length y5) : Int) (0 : Int) y2 y3 y4 y5))
  | .p15 y1 y2 y3 y4 y5 y6 y7 => cond (decide (y3 < y2)) (cond (inB y3 (List.length y1)) (cond (inB (IntKind.wrap .i64 (((List.length (List.getD y1 (Int.toNat y3) default).2.1) : Int) - (1 : Int))) (List.length (List.getD y1 (Int.toNat y3) default).2.1)) (cond (decide (y6 < (List.getD (List.getD y1 (Int.toNat y3) default).2.1 (Int.toNat (IntKind.wrap .i64 (((List.length (List.getD y1 (Int.toNat y3) default).2.1) : Int) - (1 : Int)))) default).1)) (some false) (K (.p15 y1 y2 (IntKind.wrap .i64 (y3 + (1 : Int))) y4 y5 y6 y7))) (none)) (none)) (some true)
def spec_GoodHead (n : Nat) (a0 : (Int) × ((Int) × ((Int) × ((List ((List ((ByteArray) × ((ByteArray) × (Unit)))) × ((List ((Int) × ((Int) × (Unit)))) × (Unit)))) × (Unit))))) : Option (Tup [.bool]) := goRec spec_GoodHead.step n (.p0 a0)
def spec_GoodHead.spec : Ctr := ⟨40, [.v (.pair (.int .i64) (.pair (.int .i64) (.pair (.int .i64) (.pair (.sl false (.pair (.sl false (.pair .str (.pair .str .unit))) (.pair (.sl false (.pair (.int .i64) (.pair (.int .i64) .unit))) .unit))) .unit))))], [.bool], [], none, fun n x => spec_GoodHead n x.1⟩
theorem spec_GoodHead.seg_eq : SegEq ty gl spec_GoodHead.F spec_GoodHead.md spec_GoodHead.T spec_GoodHead.spec spec_GoodHead.lb spec_GoodHead.st spec_GoodHead.step := by
  intro n goto y; cases y <;> kernel_rfl
theorem spec_GoodHead.text : Text Go.Proofs.Try.prog spec_GoodHead.F spec_GoodHead.spec := textOf Go.Proofs.Try.f40
theorem spec_GoodHead.ok : CtrOK Go.Proofs.Try.prog gl spec_GoodHead.spec :=
  ctr_okS tabs spec_GoodHead.text spec_GoodHead.seg_eq (fun n x => ⟨.p0 x.1, rfl, rfl, rfl⟩) (consC spec_l3Time.ok (consC spec_GoodSeries.ok (nilC)))

/-! loop.example/g00039/spec.l7CopySamples -/
def spec_l7CopySamples.T : List Ctr := []
def spec_l7CopySamples.md : List (Nat × List Md) := []
noncomputable def spec_l7CopySamples.F : Fun := ⟨(Go.Proofs.Try.f145.body).getD .skip, [.v (.sl false (.pair (.int .i64) (.pair (.int .i64) .unit)))], [(.tmp 2, (.sl false (.pair (.int .i64) (.pair (.int .i64) .unit))))], [], 0, []⟩
inductive spec_l7CopySamples.Pt where
  | p0 (a0 : List ((Int) × ((Int) × (Unit))))
def spec_l7CopySamples.lb : spec_l7CopySamples.Pt → Nat
  | .p0 _ => 0
def spec_l7CopySamples.st : spec_l7CopySamples.Pt → St
  | .p0 a0 => enter [.v (.sl false (.pair (.int .i64) (.pair (.int .i64) .unit))) a0] 0
def spec_l7CopySamples.step (n : Nat) (K : spec_l7CopySamples.Pt → Option (Tup [(.sl false (.pair (.int .i64) (.pair (.int .i64) .unit)))])) : spec_l7CopySamples.Pt → Option (Tup [(.sl false (.pair (.int .i64) (.pair (.int .i64) .unit)))])
  | .p0 a0 => cond (room ((List.length ([] : List ((Int) × ((Int) × (Unit))))) + (List.length a0))) (some (([] : List ((Int) × ((Int) × (Unit)))) ++ a0)) (none)
def spec_l7CopySamples (n : Nat) (a0 : List ((Int) × ((Int) × (Unit)))) : Option (Tup [(.sl false (.pair (.int .i64) (.pair (.int .i64) .unit)))]) := goRec spec_l7CopySamples.step n (.p0 a0)
def spec_l7CopySamples.spec : Ctr := ⟨145, [.v (.sl false (.pair (.int .i64) (.pair (.int .i64) .unit)))], [(.sl false (.pair (.int .i64) (.pair (.int .i64) .unit)))], [], none, fun n x => spec_l7CopySamples n x.1⟩
theorem spec_l7CopySamples.seg_eq : SegEq ty gl spec_l7CopySamples.F spec_l7CopySamples.md spec_l7CopySamples.T spec_l7CopySamples.spec spec_l7CopySamples.lb spec_l7CopySamples.st spec_l7CopySamples.step := by
  intro n goto y; cases y <;> kernel_rfl
theorem spec_l7CopySamples.text : Text Go.Proofs.Try.prog spec_l7CopySamples.F spec_l7CopySamples.spec := textOf Go.Proofs.Try.f145
theorem spec_l7CopySamples.ok : CtrOK Go.Proofs.Try.prog gl spec_l7CopySamples.spec :=
  ctr_okS tabs spec_l7CopySamples.text spec_l7CopySamples.seg_eq (fun n x => ⟨.p0 x.1, rfl, rfl, rfl⟩) (nilC)

/-! loop.example/g00039/spec.l7Copy -/
def spec_l7Copy.T : List Ctr := [spec_l3Copy.spec, spec_l7CopySamples.spec]
def spec_l7Copy.md : List (Nat × List Md) := []
noncomputable def spec_l7Copy.F : Fun := ⟨(Go.Proofs.Try.f88.body).getD .skip, [.v (.sl false (.pair (.sl false (.pair .str (.pair .str .unit))) (.pair (.sl false (.pair (.int .i64) (.pair (.int .i64) .unit))) .unit)))], [(.tmp 2, (.sl false (.pair (.sl false (.pair .str (.pair .str .unit))) (.pair (.sl false (.pair (.int .i64) (.pair (.int .i64) .unit))) .unit))))], [], 0, [(9, ⟨[3, 6, 7, 8], [(3, (.pair (.sl false (.pair .str (.pair .str .unit))) (.pair (.sl false (.pair (.int .i64) (.pair (.int .i64) .unit))) .unit))), (6, (.pair (.sl false (.pair .str (.pair .str .unit))) (.pair (.sl false (.pair (.int .i64) (.pair (.int .i64) .unit))) .unit)))], [], false⟩)]⟩
inductive spec_l7Copy.Pt where
  | p0 (a0 : List ((List ((ByteArray) × ((ByteArray) × (Unit)))) × ((List ((Int) × ((Int) × (Unit)))) × (Unit))))
  | p9 (y1 : List ((List ((ByteArray) × ((ByteArray) × (Unit)))) × ((List ((Int) × ((Int) × (Unit)))) × (Unit)))) (y2 : Int) (y3 : Int) (y4 : List ((List ((ByteArray) × ((ByteArray) × (Unit)))) × ((List ((Int) × ((Int) × (Unit)))) × (Unit))))
def spec_l7Copy.lb : spec_l7Copy.Pt → Nat
  | .p0 _ => 0
  | .p9 _ _ _ _ => 9
def spec_l7Copy.st : spec_l7Copy.Pt → St
  | .p0 a0 => enter [.v (.sl false (.pair (.sl false (.pair .str (.pair .str .unit))) (.pair (.sl false (.pair (.int .i64) (.pair (.int .i64) .unit))) .unit))) a0] 0
  | .p9 y1 y2 y3 y4 => ⟨[(3, .hs 0 [] none 0), (6, .im (.sl false (.pair (.sl false (.pair .str (.pair .str .unit))) (.pair (.sl false (.pair (.int .i64) (.pair (.int .i64) .unit))) .unit))) y1), (7, .im (.int .i64) y2), (8, .im (.int .i64) y3)], [(0, .arr true (.pair (.sl false (.pair .str (.pair .str .unit))) (.pair (.sl false (.pair (.int .i64) (.pair (.int .i64) .unit))) .unit)) y4 0)], 1⟩
def spec_l7Copy.step (n : Nat) (K : spec_l7Copy.Pt → Option (Tup [(.sl false (.pair (.sl false (.pair .str (.pair .str .unit))) (.pair (.sl false (.pair (.int .i64) (.pair (.int .i64) .unit))) .unit)))])) : spec_l7Copy.Pt → Option (Tup [(.sl false (.pair (.sl false (.pair .str (.pair .str .unit))) (.pair (.sl false (.pair (.int .i64) (.pair (.int .i64) .unit))) .unit)))])
  | .p0 a0 => K (.p9 a0 ((List.length a0) : Int) (0 : Int) ([] : List ((List ((ByteArray) × ((ByteArray) × (Unit)))) × ((List ((Int) × ((Int) × (Unit)))) × (Unit)))))
  | .p9 y1 y2 y3 y4 => cond (decide (y3 < y2)) (cond (inB y3 (List.length y1)) ((spec_l3Copy n (List.getD y1 (Int.toNat y3) default).1).bind fun r7 => (spec_l7CopySamples n (List.getD y1 (Int.toNat y3) default).2.1).bind fun r8 => cond (room ((List.length y4) + (List.length [(r7, (r8, ()))]))) (K (.p9 y1 y2 (IntKind.wrap .i64 (y3 + (1 : Int))) (y4 ++ [(r7, (r8, ()))]))) (none)) (none)) (some y4)
def spec_l7Copy (n : Nat) (a0 : List ((List ((ByteArray) × ((ByteArray) × (Unit)))) × ((List ((Int) × ((Int) × (Unit)))) × (Unit)))) : Option (Tup [(.sl false (.pair (.sl false (.pair .str (.pair .str .unit))) (.pair (.sl false (.pair (.int .i64) (.pair (.int .i64) .unit))) .unit)))]) := goRec spec_l7Copy.step n (.p0 a0)
def spec_l7Copy.spec : Ctr := ⟨88, [.v (.sl false (.pair (.sl false (.pair .str (.pair .str .unit))) (.pair (.sl false (.pair (.int .i64) (.pair (.int .i64) .unit))) .unit)))], [(.sl false (.pair (.sl false (.pair .str (.pair .str .unit))) (.pair (.sl false (.pair (.int .i64) (.pair (.int .i64) .unit))) .unit)))], [], none, fun n x => spec_l7Copy n x.1⟩
theorem spec_l7Copy.seg_eq : SegEq ty gl spec_l7Copy.F spec_l7Copy.md spec_l7Copy.T spec_l7Copy.spec spec_l7Copy.lb spec_l7Copy.st spec_l7Copy.step := by
  intro n goto y; cases y <;> kernel_rfl
theorem spec_l7Copy.text : Text Go.Proofs.Try.prog spec_l7Copy.F spec_l7Copy.spec := textOf Go.Proofs.Try.f88
theorem spec_l7Copy.ok : CtrOK Go.Proofs.Try.prog gl spec_l7Copy.spec :=
  ctr_okS tabs spec_l7Copy.text spec_l7Copy.seg_eq (fun n x => ⟨.p0 x.1, rfl, rfl, rfl⟩) (consC spec_l3Copy.ok (consC spec_l7CopySamples.ok (nilC)))

/-! loop.example/g00039/spec.PutAll -/
def spec_PutAll.T : List Ctr := [spec_l7Put.spec, spec_GoodHead.spec, spec_l7Copy.spec]
def spec_PutAll.md : List (Nat × List Md) := [(89, [.p (.pair (.int .i64) (.pair (.int .i64) (.pair (.int .i64) (.pair (.sl false (.pair (.sl false (.pair .str (.pair .str .unit))) (.pair (.sl false (.pair (.int .i64) (.pair (.int .i64) .unit))) .unit))) .unit)))), .v])]
noncomputable def spec_PutAll.F : Fun := ⟨(Go.Proofs.Try.f37.body).getD .skip, [.v (.pair (.int .i64) (.pair (.int .i64) (.pair (.int .i64) (.pair (.sl false (.pair (.sl false (.pair .str (.pair .str .unit))) (.pair (.sl false (.pair (.int .i64) (.pair (.int .i64) .unit))) .unit))) .unit)))), .v (.sl false (.pair (.sl false (.pair .str (.pair .str .unit))) (.pair (.int .i64) (.pair (.int .i64) .unit))))], [(.cell 4 62, (.pair (.int .i64) (.pair (.int .i64) (.pair (.int .i64) (.pair (.sl false (.pair (.sl false (.pair .str (.pair .str .unit))) (.pair (.sl false (.pair (.int .i64) (.pair (.int .i64) .unit))) .unit))) .unit))))), (.tmp 5, (.sl false (.int .i64)))], [], 0, [(4, ⟨[1, 2, 4, 16], [], [(2, 3, (.pair (.sl false (.pair .str (.pair .str .unit))) (.pair (.sl false (.pair (.int .i64) (.pair (.int .i64) .unit))) .unit))), (4, 3, (.pair (.sl false (.pair .str (.pair .str .unit))) (.pair (.sl false (.pair (.int .i64) (.pair (.int .i64) .unit))) .unit)))], false⟩), (19, ⟨[2, 4, 6, 22, 23, 24], [(6, (.int .i64)), (22, (.pair (.sl false (.pair .str (.pair .str .unit))) (.pair (.int .i64) (.pair (.int .i64) .unit))))], [(2, 3, (.pair (.sl false (.pair .str (.pair .str .unit))) (.pair (.sl false (.pair (.int .i64) (.pair (.int .i64) .unit))) .unit))), (4, 3, (.pair (.sl false (.pair .str (.pair .str .unit))) (.pair (.sl false (.pair (.int .i64) (.pair (.int .i64) .unit))) .unit)))], false⟩)]⟩
inductive spec_PutAll.Pt where
  | p0 (a0 : (Int) × ((Int) × ((Int) × ((List ((List ((ByteArray) × ((ByteArray) × (Unit)))) × ((List ((Int) × ((Int) × (Unit)))) × (Unit)))) × (Unit))))) (a1 : List ((List ((ByteArray) × ((ByteArray) × (Unit)))) × ((Int) × ((Int) × (Unit)))))
  | p4 (y1 : List ((List ((ByteArray) × ((ByteArray) × (Unit)))) × ((Int) × ((Int) × (Unit))))) (y2 : Bool) (y3 : Int) (y4 : Int) (y5 : Int) (y6 : List ((List ((ByteArray) × ((ByteArray) × (Unit)))) × ((List ((Int) × ((Int) × (Unit)))) × (Unit)))) (y7 : Int) (y8 : Int) (y9 : Int) (y10 : List ((List ((ByteArray) × ((ByteArray) × (Unit)))) × ((List ((Int) × ((Int) × (Unit)))) × (Unit))))
  | p19 (y1 : List ((List ((ByteArray) × ((ByteArray) × (Unit)))) × ((Int) × ((Int) × (Unit))))) (y2 : Int) (y3 : Int) (y4 : Int) (y5 : Int) (y6 : Int) (y7 : Int) (y8 : Int) (y9 : Int) (y10 : List (Int)) (y11 : List ((List ((ByteArray) × ((ByteArray) × (Unit)))) × ((List ((Int) × ((Int) × (Unit)))) × (Unit)))) (y12 : List ((List ((ByteArray) × ((ByteArray) × (Unit)))) × ((List ((Int) × ((Int) × (Unit)))) × (Unit))))
def spec_PutAll.lb : spec_PutAll.Pt → Nat
  | .p0 _ _ => 0
  | .p4 _ _ _ _ _ _ _ _ _ _ => 4
  | .p19 _ _ _ _ _ _ _ _ _ _ _ _ => 19
def spec_PutAll.st : spec_PutAll.Pt → St
  | .p0 a0 a1 => enter [.v (.pair (.int .i64) (.pair (.int .i64) (.pair (.int .i64) (.pair (.sl false (.pair (.sl false (.pair .str (.pair .str .unit))) (.pair (.sl false (.pair (.int .i64) (.pair (.int .i64) .unit))) .unit))) .unit)))) a0, .v (.sl false (.pair (.sl false (.pair .str (.pair .str .unit))) (.pair (.int .i64) (.pair (.int .i64) .unit)))) a1] 0
  | .p4 y1 y2 y3 y4 y5 y6 y7 y8 y9 y10 => ⟨[(1, .im (.sl false (.pair (.sl false (.pair .str (.pair .str .unit))) (.pair (.int .i64) (.pair (.int .i64) .unit)))) y1), (2, .po 0 0), (4, .po 1 0), (16, .im .bool y2)], [(0, .obj [.im (.int .i64) y3, .im (.int .i64) y4, .im (.int .i64) y5, .im (.sl false (.pair (.sl false (.pair .str (.pair .str .unit))) (.pair (.sl false (.pair (.int .i64) (.pair (.int .i64) .unit))) .unit))) y6]), (1, .obj [.im (.int .i64) y7, .im (.int .i64) y8, .im (.int .i64) y9, .hs 2 [] none 0]), (2, .arr true (.pair (.sl false (.pair .str (.pair .str .unit))) (.pair (.sl false (.pair (.int .i64) (.pair (.int .i64) .unit))) .unit)) y10 0)], 3⟩
  | .p19 y1 y2 y3 y4 y5 y6 y7 y8 y9 y10 y11 y12 => ⟨[(2, .po 0 0), (4, .po 1 0), (6, .hs 2 [] none 0), (22, .im (.sl false (.pair (.sl false (.pair .str (.pair .str .unit))) (.pair (.int .i64) (.pair (.int .i64) .unit)))) y1), (23, .im (.int .i64) y2), (24, .im (.int .i64) y3)], [(0, .obj [.im (.int .i64) y4, .im (.int .i64) y5, .im (.int .i64) y6, .hs 3 [] none 0]), (1, .obj [.im (.int .i64) y7, .im (.int .i64) y8, .im (.int .i64) y9, .hs 4 [] none 0]), (2, .arr true (.int .i64) y10 0), (3, .arr false (.pair (.sl false (.pair .str (.pair .str .unit))) (.pair (.sl false (.pair (.int .i64) (.pair (.int .i64) .unit))) .unit)) y11 0), (4, .arr true (.pair (.sl false (.pair .str (.pair .str .unit))) (.pair (.sl false (.pair (.int .i64) (.pair (.int .i64) .unit))) .unit)) y12 0)], 5⟩
def spec_PutAll.step (n : Nat) (K : spec_PutAll.Pt → Option (Tup [(.pair (.int .i64) (.pair (.int .i64) (.pair (.int .i64) (.pair (.sl false (.pair (.sl false (.pair .str (.pair .str .unit))) (.pair (.sl false (.pair (.int .i64) (.pair (.int .i64) .unit))) .unit))) .unit)))), (.sl false (.int .i64))])) : spec_PutAll.Pt → Option (Tup [(.pair (.int .i64) (.pair (.int .i64) (.pair (.int .i64) (.pair (.sl false (.pair (.sl false (.pair .str (.pair .str .unit))) (.pair (.sl false (.pair (.int .i64) (.pair (.int .i64) .unit))) .unit))) .unit)))), (.sl false (.int .i64))])
  | .p0 a0 a1 => (spec_GoodHead n a0).bind fun r5 => cond (!r5) (K (.p4 a1 true a0.1 a0.2.1 a0.2.2.1 a0.2.2.2.1 (default : Int) (default : Int) (default : Int) ([] : List ((List ((ByteArray) × ((ByteArray) × (Unit)))) × ((List ((Int) × ((Int) × (Unit)))) × (Unit)))))) (K (.p4 a1 (decide ((500 : Int) < ((List.length a1) : Int))) a0.1 a0.2.1 a0.2.2.1 a0.2.2.2.1 (default : Int) (default : Int) (default : Int) ([] : List ((List ((ByteArray) × ((ByteArray) × (Unit)))) × ((List ((Int) × ((Int) × (Unit)))) × (Unit))))))
  | .p4 y1 y2 y3 y4 y5 y6 y7 y8 y9 y10 => cond y2 (some ((default : (Int) × ((Int) × ((Int) × ((List ((List ((ByteArray) × ((ByteArray) × (Unit)))) × ((List ((Int) × ((Int) × (Unit)))) × (Unit)))) × (Unit))))), ([] : List (Int)))) ((spec_l7Copy n y6).bind fun r13 => K (.p19 y1 ((List.length y1) : Int) (0 : Int) y3 y4 y5 y7 y8 y9 ([] : List (Int)) r13 y10))
  | .p19 y1 y2 y3 y4 y5 y6 y7 y8 y9 y10 y11 y12 => cond (decide (y3 < y2)) (cond (inB y3 (List.length y1)) ((spec_l7Put n (y4, (y5, (y6, (y11, ())))) ((List.getD y1 (Int.toNat y3) default).1, (List.getD y1 (Int.toNat y3) default).2)).bind fun r15 => cond (room ((List.length y10) + (List.length [r15.1]))) (K (.p19 y1 y2 (IntKind.wrap .i64 (y3 + (1 : Int))) r15.2.1 r15.2.2.1 r15.2.2.2.1 y7 y8 y9 (y10 ++ [r15.1]) r15.2.2.2.2.1 y12)) (none)) (none)) (some ((y4, (y5, (y6, (y11, ())))), y10))
def spec_PutAll (n : Nat) (a0 : (Int) × ((Int) × ((Int) × ((List ((List ((ByteArray) × ((ByteArray) × (Unit)))) × ((List ((Int) × ((Int) × (Unit)))) × (Unit)))) × (Unit))))) (a1 : List ((List ((ByteArray) × ((ByteArray) × (Unit)))) × ((Int) × ((Int) × (Unit))))) : Option (Tup [(.pair (.int .i64) (.pair (.int .i64) (.pair (.int .i64) (.pair (.sl false (.pair (.sl false (.pair .str (.pair .str .unit))) (.pair (.sl false (.pair (.int .i64) (.pair (.int .i64) .unit))) .unit))) .unit)))), (.sl false (.int .i64))]) := goRec spec_PutAll.step n (.p0 a0 a1)
def spec_PutAll.spec : Ctr := ⟨37, [.v (.pair (.int .i64) (.pair (.int .i64) (.pair (.int .i64) (.pair (.sl false (.pair (.sl false (.pair .str (.pair .str .unit))) (.pair (.sl false (.pair (.int .i64) (.pair (.int .i64) .unit))) .unit))) .unit)))), .v (.sl false (.pair (.sl false (.pair .str (.pair .str .unit))) (.pair (.int .i64) (.pair (.int .i64) .unit))))], [(.pair (.int .i64) (.pair (.int .i64) (.pair (.int .i64) (.pair (.sl false (.pair (.sl false (.pair .str (.pair .str .unit))) (.pair (.sl false (.pair (.int .i64) (.pair (.int .i64) .unit))) .unit))) .unit)))), (.sl false (.int .i64))], [], none, fun n x => spec_PutAll n x.1 x.2.1⟩
theorem spec_PutAll.seg_eq : SegEq ty gl spec_PutAll.F spec_PutAll.md spec_PutAll.T spec_PutAll.spec spec_PutAll.lb spec_PutAll.st spec_PutAll.step := by
  intro n goto y; cases y <;> kernel_rfl
theorem spec_PutAll.text : Text Go.Proofs.Try.prog spec_PutAll.F spec_PutAll.spec := textOf Go.Proofs.Try.f37
theorem spec_PutAll.ok : CtrOK Go.Proofs.Try.prog gl spec_PutAll.spec :=
  ctr_okS tabs spec_PutAll.text spec_PutAll.seg_eq (fun n x => ⟨.p0 x.1 x.2.1, rfl, rfl, rfl⟩) (consC spec_l7Put.ok (consC spec_GoodHead.ok (consC spec_l7Copy.ok (nilC))))

/-! loop.example/g00039/laws.zInts -/
def laws_zInts.T : List Ctr := []
def laws_zInts.md : List (Nat × List Md) := []
noncomputable def laws_zInts.F : Fun := ⟨(Go.Proofs.Try.f38.body).getD .skip, [.v (.sl false (.int .i64)), .v (.sl false (.int .i64))], [(.tmp 4, .bool)], [], 0, [(15, ⟨[0, 1, 12, 13], [], [], false⟩)]⟩
inductive laws_zInts.Pt where
  | p0 (a0 : List (Int)) (a1 : List (Int))
  | p15 (y1 : List (Int)) (y2 : List (Int)) (y3 : Int) (y4 : Int)
def laws_zInts.lb : laws_zInts.Pt → Nat
  | .p0 _ _ => 0
  | .p15 _ _ _ _ => 15
def laws_zInts.st : laws_zInts.Pt → St
  | .p0 a0 a1 => enter [.v (.sl false (.int .i64)) a0, .v (.sl false (.int .i64)) a1] 0
  | .p15 y1 y2 y3 y4 => ⟨[(0, .im (.sl false (.int .i64)) y1), (1, .im (.sl false (.int .i64)) y2), (12, .im (.int .i64) y3), (13, .im (.int .i64) y4)], [], 0⟩
def laws_zInts.step (n : Nat) (K : laws_zInts.Pt → Option (Tup [.bool])) : laws_zInts.Pt → Option (Tup [.bool])
  | .p0 a0 a1 => cond (!(decide (((List.length a0) : Int) = ((List.length a1) : Int)))) (some false) (K (.p15 a0 a1 ((List.length a0) : Int) (0 : Int)))
  | .p15 y1 y2 y3 y4 => cond (decide (y4 < y3)) (cond (inB y4 (List.length y1)) (cond (inB y4 (List.length y2)) (cond (!(decide ((List.getD y1 (Int.toNat y4) default) = (List.getD y2 (Int.toNat y4) default)))) (some false) (K (.p15 y1 y2 y3 (IntKind.wrap .i64 (y4 + (1 : Int)))))) (none)) (none)) (some true)
def laws_zInts (n : Nat) (a0 : List (Int)) (a1 : List (Int)) : Option (Tup [.bool]) := goRec laws_zInts.step n (.p0 a0 a1)
def laws_zInts.spec : Ctr := ⟨38, [.v (.sl false (.int .i64)), .v (.sl false (.int .i64))], [.bool], [], none, fun n x => laws_zInts n x.1 x.2.1⟩
theorem laws_zInts.seg_eq : SegEq ty gl laws_zInts.F laws_zInts.md laws_zInts.T laws_zInts.spec laws_zInts.lb laws_zInts.st laws_zInts.step := by
  intro n goto y; cases y <;> kernel_rfl
theorem laws_zInts.text : Text Go.Proofs.Try.prog laws_zInts.F laws_zInts.spec := textOf Go.Proofs.Try.f38
theorem laws_zInts.ok : CtrOK Go.Proofs.Try.prog gl laws_zInts.spec :=
  ctr_okS tabs laws_zInts.text laws_zInts.seg_eq (fun n x => ⟨.p0 x.1 x.2.1, rfl, rfl, rfl⟩) (nilC)

/-! loop.example/g00039/laws.zLabels -/
def laws_zLabels.T : List Ctr := []
def laws_zLabels.md : List (Nat × List Md) := []
noncomputable def laws_zLabels.F : Fun := ⟨(Go.Proofs.Try.f148.body).getD .skip, [.v (.sl false (.pair .str (.pair .str .unit))), .v (.sl false (.pair .str (.pair .str .unit)))], [(.tmp 4, .bool)], [], 0, [(15, ⟨[0, 1, 12, 13], [], [], false⟩)]⟩
inductive laws_zLabels.Pt where
  | p0 (a0 : List ((ByteArray) × ((ByteArray) × (Unit)))) (a1 : List ((ByteArray) × ((ByteArray) × (Unit))))
  | p15 (y1 : List ((ByteArray) × ((ByteArray) × (Unit)))) (y2 : List ((ByteArray) × ((ByteArray) × (Unit)))) (y3 : Int) (y4 : Int)
def laws_zLabels.lb : laws_zLabels.Pt → Nat
  | .p0 _ _ => 0
  | .p15 _ _ _ _ => 15
def laws_zLabels.st : laws_zLabels.Pt → St
  | .p0 a0 a1 => enter [.v (.sl false (.pair .str (.pair .str .unit))) a0, .v (.sl false (.pair .str (.pair .str .unit))) a1] 0
  | .p15 y1 y2 y3 y4 => ⟨[(0, .im (.sl false (.pair .str (.pair .str .unit))) y1), (1, .im (.sl false (.pair .str (.pair .str .unit))) y2), (12, .im (.int .i64) y3), (13, .im (.int .i64) y4)], [], 0⟩
def laws_zLabels.step (n : Nat) (K : laws_zLabels.Pt → Option (Tup [.bool])) : laws_zLabels.Pt → Option (Tup [.bool])
  | .p0 a0 a1 => cond (!(decide (((List.length a0) : Int) = ((List.length a1) : Int)))) (some false) (K (.p15 a0 a1 ((List.length a0) : Int) (0 : Int)))
  | .p15 y1 y2 y3 y4 => cond (decide (y4 < y3)) (cond (inB y4 (List.length y1)) (cond (inB y4 (List.length y2)) (cond (!((seq (List.getD y1 (Int.toNat y4) default).1 (List.getD y2 (Int.toNat y4) default).1) && ((seq (List.getD y1 (Int.toNat y4) default).2.1 (List.getD y2 (Int.toNat y4) default).2.1) && true))) (some false) (K (.p15 y1 y2 y3 (IntKind.wrap .i64 (y4 + (1 : Int)))))) (none)) (none)) (some true)
def laws_zLabels (n : Nat) (a0 : List ((ByteArray) × ((ByteArray) × (Unit)))) (a1 : List ((ByteArray) × ((ByteArray) × (Unit)))) : Option (Tup [.bool]) := goRec laws_zLabels.step n (.p0 a0 a1)
def laws_zLabels.spec : Ctr := ⟨148, [.v (.sl false (.pair .str (.pair .str .unit))), .v (.sl false (.pair .str (.pair .str .unit)))], [.bool], [], none, fun n x => laws_zLabels n x.1 x.2.1⟩
theorem laws_zLabels.seg_eq : SegEq ty gl laws_zLabels.F laws_zLabels.md laws_zLabels.T laws_zLabels.spec laws_zLabels.lb laws_zLabels.st laws_zLabels.step := by
  intro n goto y; cases y <;> kernel_rfl
theorem laws_zLabels.text : Text Go.Proofs.Try.prog laws_zLabels.F laws_zLabels.spec := textOf Go.Proofs.Try.f148
theorem laws_zLabels.ok : CtrOK Go.Proofs.Try.prog gl laws_zLabels.spec :=
  ctr_okS tabs laws_zLabels.text laws_zLabels.seg_eq (fun n x => ⟨.p0 x.1 x.2.1, rfl, rfl, rfl⟩) (nilC)

/-! loop.example/g00039/laws.zSamples -/
def laws_zSamples.T : List Ctr := []
def laws_zSamples.md : List (Nat × List Md) := []
noncomputable def laws_zSamples.F : Fun := ⟨(Go.Proofs.Try.f149.body).getD .skip, [.v (.sl false (.pair (.int .i64) (.pair (.int .i64) .unit))), .v (.sl false (.pair (.int .i64) (.pair (.int .i64) .unit)))], [(.tmp 4, .bool)], [], 0, [(15, ⟨[0, 1, 12, 13], [], [], false⟩)]⟩
inductive laws_zSamples.Pt where
  | p0 (a0 : List ((Int) × ((Int) × (Unit)))) (a1 : List ((Int) × ((Int) × (Unit))))
  | p15 (y1 : List ((Int) × ((Int) × (Unit)))) (y2 : List ((Int) × ((Int) × (Unit)))) (y3 : Int) (y4 : Int)
def laws_zSamples.lb : laws_zSamples.Pt → Nat
  | .p0 _ _ => 0
  | .p15 _ _ _ _ => 15
def laws_zSamples.st : laws_zSamples.Pt → St
  | .p0 a0 a1 => enter [.v (.sl false (.pair (.int .i64) (.pair (.int .i64) .unit))) a0, .v (.sl false (.pair (.int .i64) (.pair (.int .i64) .unit))) a1] 0
  | .p15 y1 y2 y3 y4 => ⟨[(0, .im (.sl false (.pair (.int .i64) (.pair (.int .i64) .unit))) y1), (1, .im (.sl false (.pair (.int .i64) (.pair (.int .i64) .unit))) y2), (12, .im (.int .i64) y3), (13, .im (.int .i64) y4)], [], 0⟩
def laws_zSamples.step (n : Nat) (K : laws_zSamples.Pt → Option (Tup [.bool])) : laws_zSamples.Pt → Option (Tup [.bool])
  | .p0 a0 a1 => cond (!(decide (((List.length a0) : Int) = ((List.length a1) : Int)))) (some false) (K (.p15 a0 a1 ((List.length a0) : Int) (0 : Int)))
  | .p15 y1 y2 y3 y4 => cond (decide (y4 < y3)) (cond (inB y4 (List.length y1)) (cond (inB y4 (List.length y2)) (cond (!((decide ((List.getD y1 (Int.toNat y4) default).1 = (List.getD y2 (Int.toNat y4) default).1)) && ((decide ((List.getD y1 (Int.toNat y4) default).2.1 = (List.getD y2 (Int.toNat y4) default).2.1)) && true))) (some false) (K (.p15 y1 y2 y3 (IntKind.wrap .i64 (y4 + (1 : Int)))))) (none)) (none)) (some true)
def laws_zSamples (n : Nat) (a0 : List ((Int) × ((Int) × (Unit)))) (a1 : List ((Int) × ((Int) × (Unit)))) : Option (Tup [.bool]) := goRec laws_zSamples.step n (.p0 a0 a1)
def laws_zSamples.spec : Ctr := ⟨149, [.v (.sl false (.pair (.int .i64) (.pair (.int .i64) .unit))), .v (.sl false (.pair (.int .i64) (.pair (.int .i64) .unit)))], [.bool], [], none, fun n x => laws_zSamples n x.1 x.2.1⟩
theorem laws_zSamples.seg_eq : SegEq ty gl laws_zSamples.F laws_zSamples.md laws_zSamples.T laws_zSamples.spec laws_zSamples.lb laws_zSamples.st laws_zSamples.step := by
  intro n goto y; cases y <;> kernel_rfl
theorem laws_zSamples.text : Text Go.Proofs.Try.prog laws_zSamples.F laws_zSamples.spec := textOf Go.Proofs.Try.f149
theorem laws_zSamples.ok : CtrOK Go.Proofs.Try.prog gl laws_zSamples.spec :=
  ctr_okS tabs laws_zSamples.text laws_zSamples.seg_eq (fun n x => ⟨.p0 x.1 x.2.1, rfl, rfl, rfl⟩) (nilC)

/-! loop.example/g00039/laws.zSeries -/
def laws_zSeries.T : List Ctr := [laws_zLabels.spec, laws_zSamples.spec]
def laws_zSeries.md : List (Nat × List Md) := []
noncomputable def laws_zSeries.F : Fun := ⟨(Go.Proofs.Try.f90.body).getD .skip, [.v (.sl false (.pair (.sl false (.pair .str (.pair .str .unit))) (.pair (.sl false (.pair (.int .i64) (.pair (.int .i64) .unit))) .unit))), .v (.sl false (.pair (.sl false (.pair .str (.pair .str .unit))) (.pair (.sl false (.pair (.int .i64) (.pair (.int .i64) .unit))) .unit)))], [(.tmp 4, .bool)], [], 0, [(15, ⟨[0, 1, 12, 13], [], [], false⟩)]⟩
inductive laws_zSeries.Pt where
  | p0 (a0 : List ((List ((ByteArray) × ((ByteArray) × (Unit)))) × ((List ((Int) × ((Int) × (Unit)))) × (Unit)))) (a1 : List ((List ((ByteArray) × ((ByteArray) × (Unit)))) × ((List ((Int) × ((Int) × (Unit)))) × (Unit))))
  | p15 (y1 : List ((List ((ByteArray) × ((ByteArray) × (Unit)))) × ((List ((Int) × ((Int) × (Unit)))) × (Unit)))) (y2 : List ((List ((ByteArray) × ((ByteArray) × (Unit)))) × ((List ((Int) × ((Int) × (Unit)))) × (Unit)))) (y3 : Int) (y4 : Int)
def laws_zSeries.lb : laws_zSeries.Pt → Nat
  | .p0 _ _ => 0
  | .p15 _ _ _ _ => 15
def laws_zSeries.st : laws_zSeries.Pt → St
  | .p0 a0 a1 => enter [.v (.sl false (.pair (.sl false (.pair .str (.pair .str .unit))) (.pair (.sl false (.pair (.int .i64) (.pair (.int .i64) .unit))) .unit))) a0, .v (.sl false (.pair (.sl false (.pair .str (.pair .str .unit))) (.pair (.sl false (.pair (.int .i64) (.pair (.int .i64) .unit))) .unit))) a1] 0
  | .p15 y1 y2 y3 y4 => ⟨[(0, .im (.sl false (.pair (.sl false (.pair .str (.pair .str .unit))) (.pair (.sl false (.pair (.int .i64) (.pair (.int .i64) .unit))) .unit))) y1), (1, .im (.sl false (.pair (.sl false (.pair .str (.pair .str .unit))) (.pair (.sl false (.pair (.int .i64) (.pair (.int .i64) .unit))) .unit))) y2), (12, .im (.int .i64) y3), (13, .im (.int .i64) y4)], [], 0⟩
def laws_zSeries.step (n : Nat) (K : laws_zSeries.Pt → Option (Tup [.bool])) : laws_zSeries.Pt → Option (Tup [.bool])
  | .p0 a0 a1 => cond (!(decide (((List.length a0) : Int) = ((List.length a1) : Int)))) (some false) (K (.p15 a0 a1 ((List.length a0) : Int) (0 : Int)))
  | .p15 y1 y2 y3 y4 => cond (decide (y4 < y3)) (cond (inB y4 (List.length y1)) (cond (inB y4 (List.length y2)) ((laws_zLabels n (List.getD y1 (Int.toNat y4) default).1 (List.getD y2 (Int.toNat y4) default).1).bind fun r7 => cond (!r7) (some false) (cond (inB y4 (List.length y1)) (cond (inB y4 (List.length y2)) ((laws_zSamples n (List.getD y1 (Int.toNat y4) default).2.1 (List.getD y2 (Int.toNat y4) default).2.1).bind fun r8 => cond (!r8) (some false) (K (.p15 y1 y2 y3 (IntKind.wrap .i64 (y4 + (1 : Int)))))) (none)) (none))) (none)) (none)) (some true)
def laws_zSeries (n : Nat) (a0 : List ((List ((ByteArray) × ((ByteArray) × (Unit)))) × ((List ((Int) × ((Int) × (Unit)))) × (Unit)))) (a1 : List ((List ((ByteArray) × ((ByteArray) × (Unit)))) × ((List ((Int) × ((Int) × (Unit)))) × (Unit)))) : Option (Tup [.bool]) := goRec laws_zSeries.step n (.p0 a0 a1)
def laws_zSeries.spec : Ctr := ⟨90, [.v (.sl false (.pair (.sl false (.pair .str (.pair .str .unit))) (.pair (.sl false (.pair (.int .i64) (.pair (.int .i64) .unit))) .unit))), .v (.sl false (.pair (.sl false (.pair .str (.pair .str .unit))) (.pair (.sl false (.pair (.int .i64) (.pair (.int .i64) .unit))) .unit)))], [.bool], [], none, fun n x => laws_zSeries n x.1 x.2.1⟩
theorem laws_zSeries.seg_eq : SegEq ty gl laws_zSeries.F laws_zSeries.md laws_zSeries.T laws_zSeries.spec laws_zSeries.lb laws_zSeries.st laws_zSeries.step := by
  intro n goto y; cases y <;> kernel_rfl
theorem laws_zSeries.text : Text Go.Proofs.Try.prog laws_zSeries.F laws_zSeries.spec := textOf Go.Proofs.Try.f90
theorem laws_zSeries.ok : CtrOK Go.Proofs.Try.prog gl laws_zSeries.spec :=
  ctr_okS tabs laws_zSeries.text laws_zSeries.seg_eq (fun n x => ⟨.p0 x.1 x.2.1, rfl, rfl, rfl⟩) (consC laws_zLabels.ok (consC laws_zSamples.ok (nilC)))

/-! loop.example/g00039/laws.zHead -/
def laws_zHead.T : List Ctr := [laws_zSeries.spec]
def laws_zHead.md : List (Nat × List Md) := []
noncomputable def laws_zHead.F : Fun := ⟨(Go.Proofs.Try.f39.body).getD .skip, [.v (.pair (.int .i64) (.pair (.int .i64) (.pair (.int .i64) (.pair (.sl false (.pair (.sl false (.pair .str (.pair .str .unit))) (.pair (.sl false (.pair (.int .i64) (.pair (.int .i64) .unit))) .unit))) .unit)))), .v (.pair (.int .i64) (.pair (.int .i64) (.pair (.int .i64) (.pair (.sl false (.pair (.sl false (.pair .str (.pair .str .unit))) (.pair (.sl false (.pair (.int .i64) (.pair (.int .i64) .unit))) .unit))) .unit))))], [(.tmp 4, .bool)], [], 0, []⟩
inductive laws_zHead.Pt where
  | p0 (a0 : (Int) × ((Int) × ((Int) × ((List ((List ((ByteArray) × ((ByteArray) × (Unit)))) × ((List ((Int) × ((Int) × (Unit)))) × (Unit)))) × (Unit))))) (a1 : (Int) × ((Int) × ((Int) × ((List ((List ((ByteArray) × ((ByteArray) × (Unit)))) × ((List ((Int) × ((Int) × (Unit)))) × (Unit)))) × (Unit)))))
def laws_zHead.lb : laws_zHead.Pt → Nat
  | .p0 _ _ => 0
def laws_zHead.st : laws_zHead.Pt → St
  | .p0 a0 a1 => enter [.v (.pair (.int .i64) (.pair (.int .i64) (.pair (.int .i64) (.pair (.sl false (.pair (.sl false (.pair .str (.pair .str .unit))) (.pair (.sl false (.pair (.int .i64) (.pair (.int .i64) .unit))) .unit))) .unit)))) a0, .v (.pair (.int .i64) (.pair (.int .i64) (.pair (.int .i64) (.pair (.sl false (.pair (.sl false (.pair .str (.pair .str .unit))) (.pair (.sl false (.pair (.int .i64) (.pair (.int .i64) .unit))) .unit))) .unit)))) a1] 0
def laws_zHead.step (n : Nat) (K : laws_zHead.Pt → Option (Tup [.bool])) : laws_zHead.Pt → Option (Tup [.bool])
  | .p0 a0 a1 => cond (decide (a0.1 = a1.1)) (cond (decide (a0.2.1 = a1.2.1)) (cond (decide (a0.2.2.1 = a1.2.2.1)) ((laws_zSeries n a0.2.2.2.1 a1.2.2.2.1).bind fun r5 => some r5) (some false)) (some false)) (some false)
def laws_zHead (n : Nat) (a0 : (Int) × ((Int) × ((Int) × ((List ((List ((ByteArray) × ((ByteArray) × (Unit)))) × ((List ((Int) × ((Int) × (Unit)))) × (Unit)))) × (Unit))))) (a1 : (Int) × ((Int) × ((Int) × ((List ((List ((ByteArray) × ((ByteArray) × (Unit)))) × ((List ((Int) × ((Int) × (Unit)))) × (Unit)))) × (Unit))))) : Option (Tup [.bool]) := goRec laws_zHead.step n (.p0 a0 a1)
def laws_zHead.spec : Ctr := ⟨39, [.v (.pair (.int .i64) (.pair (.int .i64) (.pair (.int .i64) (.pair (.sl false (.pair (.sl false (.pair .str (.pair .str .unit))) (.pair (.sl false (.pair (.int .i64) (.pair (.int .i64) .unit))) .unit))) .unit)))), .v (.pair (.int .i64) (.pair (.int .i64) (.pair (.int .i64) (.pair (.sl false (.pair (.sl false (.pair .str (.pair .str .unit))) (.pair (.sl false (.pair (.int .i64) (.pair (.int .i64) .unit))) .unit))) .unit))))], [.bool], [], none, fun n x => laws_zHead n x.1 x.2.1⟩
theorem laws_zHead.seg_eq : SegEq ty gl laws_zHead.F laws_zHead.md laws_zHead.T laws_zHead.spec laws_zHead.lb laws_zHead.st laws_zHead.step := by
  intro n goto y; cases y <;> kernel_rfl
theorem laws_zHead.text : Text Go.Proofs.Try.prog laws_zHead.F laws_zHead.spec := textOf Go.Proofs.Try.f39
theorem laws_zHead.ok : CtrOK Go.Proofs.Try.prog gl laws_zHead.spec :=
  ctr_okS tabs laws_zHead.text laws_zHead.seg_eq (fun n x => ⟨.p0 x.1 x.2.1, rfl, rfl, rfl⟩) (consC laws_zSeries.ok (nilC))

/-! loop.example/g00039/laws.zByte -/
def laws_zByte.T : List Ctr := []
def laws_zByte.md : List (Nat × List Md) := []
noncomputable def laws_zByte.F : Fun := ⟨(Go.Proofs.Try.f152.body).getD .skip, [.v (.sl false (.int .u8)), .v (.int .i64)], [(.tmp 4, (.int .i64))], [], 0, []⟩
inductive laws_zByte.Pt where
  | p0 (a0 : List (Int)) (a1 : Int)
def laws_zByte.lb : laws_zByte.Pt → Nat
  | .p0 _ _ => 0
def laws_zByte.st : laws_zByte.Pt → St
  | .p0 a0 a1 => enter [.v (.sl false (.int .u8)) a0, .v (.int .i64) a1] 0
def laws_zByte.step (n : Nat) (K : laws_zByte.Pt → Option (Tup [(.int .i64)])) : laws_zByte.Pt → Option (Tup [(.int .i64)])
  | .p0 a0 a1 => cond (decide (a1 < ((List.length a0) : Int))) (cond (inB a1 (List.length a0)) (some (IntKind.wrap .i64 (List.getD a0 (Int.toNat a1) default))) (none)) (some (0 : Int))
def laws_zByte (n : Nat) (a0 : List (Int)) (a1 : Int) : Option (Tup [(.int .i64)]) := goRec laws_zByte.step n (.p0 a0 a1)
def laws_zByte.spec : Ctr := ⟨152, [.v (.sl false (.int .u8)), .v (.int .i64)], [(.int .i64)], [], none, fun n x => laws_zByte n x.1 x.2.1⟩
theorem laws_zByte.seg_eq : SegEq ty gl laws_zByte.F laws_zByte.md laws_zByte.T laws_zByte.spec laws_zByte.lb laws_zByte.st laws_zByte.step := by
  intro n goto y; cases y <;> kernel_rfl
theorem laws_zByte.text : Text Go.Proofs.Try.prog laws_zByte.F laws_zByte.spec := textOf Go.Proofs.Try.f152
theorem laws_zByte.ok : CtrOK Go.Proofs.Try.prog gl laws_zByte.spec :=
  ctr_okS tabs laws_zByte.text laws_zByte.seg_eq (fun n x => ⟨.p0 x.1 x.2.1, rfl, rfl, rfl⟩) (nilC)

/-! loop.example/g00039/laws.zInt -/
def laws_zInt.T : List Ctr := [laws_zByte.spec]
def laws_zInt.md : List (Nat × List Md) := []
noncomputable def laws_zInt.F : Fun := ⟨(Go.Proofs.Try.f92.body).getD .skip, [.v (.sl false (.int .u8)), .v (.int .i64)], [(.tmp 4, (.int .i64))], [], 0, [(9, ⟨[0, 1, 5, 6], [], [], false⟩)]⟩
inductive laws_zInt.Pt where
  | p0 (a0 : List (Int)) (a1 : Int)
  | p9 (y1 : List (Int)) (y2 : Int) (y3 : Int) (y4 : Int)
def laws_zInt.lb : laws_zInt.Pt → Nat
  | .p0 _ _ => 0
  | .p9 _ _ _ _ => 9
def laws_zInt.st : laws_zInt.Pt → St
  | .p0 a0 a1 => enter [.v (.sl false (.int .u8)) a0, .v (.int .i64) a1] 0
  | .p9 y1 y2 y3 y4 => ⟨[(0, .im (.sl false (.int .u8)) y1), (1, .im (.int .i64) y2), (5, .im (.int .i64) y3), (6, .im (.int .i64) y4)], [], 0⟩
def laws_zInt.step (n : Nat) (K : laws_zInt.Pt → Option (Tup [(.int .i64)])) : laws_zInt.Pt → Option (Tup [(.int .i64)])
  | .p0 a0 a1 => K (.p9 a0 a1 (0 : Int) (0 : Int))
  | .p9 y1 y2 y3 y4 => cond (decide (y4 < (8 : Int))) ((laws_zByte n y1 (IntKind.wrap .i64 (y2 + y4))).bind fun (r7 : Int) => K (.p9 y1 y2 (bor .i64 (shl .i64 y3 (8 : Int)) r7) (IntKind.wrap .i64 (y4 + (1 : Int))))) (some y3)
def laws_zInt (n : Nat) (a0 : List (Int)) (a1 : Int) : Option (Tup [(.int .i64)]) := goRec laws_zInt.step n (.p0 a0 a1)
def laws_zInt.spec : Ctr := ⟨92, [.v (.sl false (.int .u8)), .v (.int .i64)], [(.int .i64)], [], none, fun n x => laws_zInt n x.1 x.2.1⟩
theorem laws_zInt.seg_eq : SegEq ty gl laws_zInt.F laws_zInt.md laws_zInt.T laws_zInt.spec laws_zInt.lb laws_zInt.st laws_zInt.step := by
  intro n goto y; cases y <;> kernel_rfl
theorem laws_zInt.text : Text Go.Proofs.Try.prog laws_zInt.F laws_zInt.spec := textOf Go.Proofs.Try.f92
theorem laws_zInt.ok : CtrOK Go.Proofs.Try.prog gl laws_zInt.spec :=
  ctr_okS tabs laws_zInt.text laws_zInt.seg_eq (fun n x => ⟨.p0 x.1 x.2.1, rfl, rfl, rfl⟩) (consC laws_zByte.ok (nilC))

/-! loop.example/g00039/laws.zCutOf -/
def laws_zCutOf.T : List Ctr := [laws_zInt.spec]
def laws_zCutOf.md : List (Nat × List Md) := []
noncomputable def laws_zCutOf.F : Fun := ⟨(Go.Proofs.Try.f41.body).getD .skip, [.v (.sl false (.int .u8)), .v (.int .i64)], [(.tmp 4, (.int .i64))], [], 0, []⟩
inductive laws_zCutOf.Pt where
  | p0 (a0 : List (Int)) (a1 : Int)
def laws_zCutOf.lb : laws_zCutOf.Pt → Nat
  | .p0 _ _ => 0
def laws_zCutOf.st : laws_zCutOf.Pt → St
  | .p0 a0 a1 => enter [.v (.sl false (.int .u8)) a0, .v (.int .i64) a1] 0
def laws_zCutOf.step (n : Nat) (K : laws_zCutOf.Pt → Option (Tup [(.int .i64)])) : laws_zCutOf.Pt → Option (Tup [(.int .i64)])
  | .p0 a0 a1 => (laws_zInt n a0 (0 : Int)).bind fun (r5 : Int) => cond (decide ((IntKind.wrap .i64 (a1 + (1 : Int))) = (0 : Int))) (none) (cond (decide ((Int.tmod r5 (IntKind.wrap .i64 (a1 + (1 : Int)))) < (0 : Int))) (some (IntKind.wrap .i64 ((0 : Int) - (Int.tmod r5 (IntKind.wrap .i64 (a1 + (1 : Int))))))) (some (Int.tmod r5 (IntKind.wrap .i64 (a1 + (1 : Int))))))
def laws_zCutOf (n : Nat) (a0 : List (Int)) (a1 : Int) : Option (Tup [(.int .i64)]) := goRec laws_zCutOf.step n (.p0 a0 a1)
def laws_zCutOf.spec : Ctr := ⟨41, [.v (.sl false (.int .u8)), .v (.int .i64)], [(.int .i64)], [], none, fun n x => laws_zCutOf n x.1 x.2.1⟩
theorem laws_zCutOf.seg_eq : SegEq ty gl laws_zCutOf.F laws_zCutOf.md laws_zCutOf.T laws_zCutOf.spec laws_zCutOf.lb laws_zCutOf.st laws_zCutOf.step := by
  intro n goto y; cases y <;> kernel_rfl
theorem laws_zCutOf.text : Text Go.Proofs.Try.prog laws_zCutOf.F laws_zCutOf.spec := textOf Go.Proofs.Try.f41
theorem laws_zCutOf.ok : CtrOK Go.Proofs.Try.prog gl laws_zCutOf.spec :=
  ctr_okS tabs laws_zCutOf.text laws_zCutOf.seg_eq (fun n x => ⟨.p0 x.1 x.2.1, rfl, rfl, rfl⟩) (consC laws_zInt.ok (nilC))

/-! loop.example/g00039/spec.SampleOf -/
def spec_SampleOf.T : List Ctr := [spec_l7Place.spec, spec_l6Cut.spec]
def spec_SampleOf.md : List (Nat × List Md) := []
noncomputable def spec_SampleOf.F : Fun := ⟨(Go.Proofs.Try.f42.body).getD .skip, [.v (.sl false (.pair (.sl false (.pair .str (.pair .str .unit))) (.pair (.sl false (.pair (.int .i64) (.pair (.int .i64) .unit))) .unit))), .v (.sl false (.pair .str (.pair .str .unit))), .v (.int .i64)], [(.tmp 6, (.int .i64)), (.tmp 7, .bool)], [], 0, []⟩
inductive spec_SampleOf.Pt where
  | p0 (a0 : List ((List ((ByteArray) × ((ByteArray) × (Unit)))) × ((List ((Int) × ((Int) × (Unit)))) × (Unit)))) (a1 : List ((ByteArray) × ((ByteArray) × (Unit)))) (a2 : Int)
def spec_SampleOf.lb : spec_SampleOf.Pt → Nat
  | .p0 _ _ _ => 0
def spec_SampleOf.st : spec_SampleOf.Pt → St
  | .p0 a0 a1 a2 => enter [.v (.sl false (.pair (.sl false (.pair .str (.pair .str .unit))) (.pair (.sl false (.pair (.int .i64) (.pair (.int .i64) .unit))) .unit))) a0, .v (.sl false (.pair .str (.pair .str .unit))) a1, .v (.int .i64) a2] 0
def spec_SampleOf.step (n : Nat) (K : spec_SampleOf.Pt → Option (Tup [(.int .i64), .bool])) : spec_SampleOf.Pt → Option (Tup [(.int .i64), .bool])
  | .p0 a0 a1 a2 => (spec_l7Place n a0 a1).bind fun r6 => cond (!r6.2) (some ((0 : Int), false)) (cond (inB r6.1 (List.length a0)) ((spec_l6Cut n (List.getD a0 (Int.toNat r6.1) default).2.1 a2 a2).bind fun r7 => cond (decide (((List.length r7) : Int) = (0 : Int))) (some ((0 : Int), false)) (cond (inB (0 : Int) (List.length r7)) (some ((List.getD r7 (0 + (Int.toNat (0 : Int))) default).2.1, true)) (none))) (none))
def spec_SampleOf (n : Nat) (a0 : List ((List ((ByteArray) × ((ByteArray) × (Unit)))) × ((List ((Int) × ((Int) × (Unit)))) × (Unit)))) (a1 : List ((ByteArray) × ((ByteArray) × (Unit)))) (a2 : Int) : Option (Tup [(.int .i64), .bool]) := goRec spec_SampleOf.step n (.p0 a0 a1 a2)
def spec_SampleOf.spec : Ctr := ⟨42, [.v (.sl false (.pair (.sl false (.pair .str (.pair .str .unit))) (.pair (.sl false (.pair (.int .i64) (.pair (.int .i64) .unit))) .unit))), .v (.sl false (.pair .str (.pair .str .unit))), .v (.int .i64)], [(.int .i64), .bool], [], none, fun n x => spec_SampleOf n x.1 x.2.1 x.2.2.1⟩
theorem spec_SampleOf.seg_eq : SegEq ty gl spec_SampleOf.F spec_SampleOf.md spec_SampleOf.T spec_SampleOf.spec spec_SampleOf.lb spec_SampleOf.st spec_SampleOf.step := by
  intro n goto y; cases y <;> kernel_rfl
theorem spec_SampleOf.text : Text Go.Proofs.Try.prog spec_SampleOf.F spec_SampleOf.spec := textOf Go.Proofs.Try.f42
theorem spec_SampleOf.ok : CtrOK Go.Proofs.Try.prog gl spec_SampleOf.spec :=
  ctr_okS tabs spec_SampleOf.text spec_SampleOf.seg_eq (fun n x => ⟨.p0 x.1 x.2.1 x.2.2.1, rfl, rfl, rfl⟩) (consC spec_l7Place.ok (consC spec_l6Cut.ok (nilC)))

/-! loop.example/g00039/laws.zFlat -/
def laws_zFlat.T : List Ctr := []
def laws_zFlat.md : List (Nat × List Md) := []
noncomputable def laws_zFlat.F : Fun := ⟨(Go.Proofs.Try.f43.body).getD .skip, [.v (.sl false (.pair (.sl false (.pair .str (.pair .str .unit))) (.pair (.sl false (.pair (.int .i64) (.pair (.int .i64) .unit))) .unit)))], [(.tmp 2, (.sl false (.pair .oth (.pair (.int .i64) (.pair (.int .i64) .unit)))))], [], 0, [(9, ⟨[3, 8, 9, 10], [(3, (.pair .oth (.pair (.int .i64) (.pair (.int .i64) .unit)))), (8, (.pair (.sl false (.pair .str (.pair .str .unit))) (.pair (.sl false (.pair (.int .i64) (.pair (.int .i64) .unit))) .unit)))], [], false⟩), (23, ⟨[3, 5, 8, 9, 10, 15, 16, 17], [(3, (.pair .oth (.pair (.int .i64) (.pair (.int .i64) .unit)))), (8, (.pair (.sl false (.pair .str (.pair .str .unit))) (.pair (.sl false (.pair (.int .i64) (.pair (.int .i64) .unit))) .unit))), (15, (.pair (.int .i64) (.pair (.int .i64) .unit)))], [(5, 0, (.pair .str (.pair .str .unit))), (5, 1, (.pair (.int .i64) (.pair (.int .i64) .unit)))], false⟩)]⟩
inductive laws_zFlat.Pt where
  | p0 (a0 : List ((List ((ByteArray) × ((ByteArray) × (Unit)))) × ((List ((Int) × ((Int) × (Unit)))) × (Unit))))
  | p9 (y1 : List ((List ((ByteArray) × ((ByteArray) × (Unit)))) × ((List ((Int) × ((Int) × (Unit)))) × (Unit)))) (y2 : Int) (y3 : Int) (y4 : List ((Unit) × ((Int) × ((Int) × (Unit)))))
  | p23 (y1 : List ((List ((ByteArray) × ((ByteArray) × (Unit)))) × ((List ((Int) × ((Int) × (Unit)))) × (Unit)))) (y2 : Int) (y3 : Int) (y4 : List ((Int) × ((Int) × (Unit)))) (y5 : Int) (y6 : Int) (y7 : List ((Unit) × ((Int) × ((Int) × (Unit))))) (y8 : List ((ByteArray) × ((ByteArray) × (Unit)))) (y9 : List ((Int) × ((Int) × (Unit))))
def laws_zFlat.lb : laws_zFlat.Pt → Nat
  | .p0 _ => 0
  | .p9 _ _ _ _ => 9
  | .p23 _ _ _ _ _ _ _ _ _ => 23
def laws_zFlat.st : laws_zFlat.Pt → St
  | .p0 a0 => enter [.v (.sl false (.pair (.sl false (.pair .str (.pair .str .unit))) (.pair (.sl false (.pair (.int .i64) (.pair (.int .i64) .unit))) .unit))) a0] 0
  | .p9 y1 y2 y3 y4 => ⟨[(3, .hs 0 [] none 0), (8, .im (.sl false (.pair (.sl false (.pair .str (.pair .str .unit))) (.pair (.sl false (.pair (.int .i64) (.pair (.int .i64) .unit))) .unit))) y1), (9, .im (.int .i64) y2), (10, .im (.int .i64) y3)], [(0, .arr true (.pair .oth (.pair (.int .i64) (.pair (.int .i64) .unit))) y4 0)], 1⟩
  | .p23 y1 y2 y3 y4 y5 y6 y7 y8 y9 => ⟨[(3, .hs 0 [] none 0), (5, .po 1 0), (8, .im (.sl false (.pair (.sl false (.pair .str (.pair .str .unit))) (.pair (.sl false (.pair (.int .i64) (.pair (.int .i64) .unit))) .unit))) y1), (9, .im (.int .i64) y2), (10, .im (.int .i64) y3), (15, .im (.sl false (.pair (.int .i64) (.pair (.int .i64) .unit))) y4), (16, .im (.int .i64) y5), (17, .im (.int .i64) y6)], [(0, .arr true (.pair .oth (.pair (.int .i64) (.pair (.int .i64) .unit))) y7 0), (1, .obj [.im (.sl false (.pair .str (.pair .str .unit))) y8, .im (.sl false (.pair (.int .i64) (.pair (.int .i64) .unit))) y9])], 2⟩
def laws_zFlat.step (n : Nat) (K : laws_zFlat.Pt → Option (Tup [(.sl false (.pair .oth (.pair (.int .i64) (.pair (.int .i64) .unit))))])) : laws_zFlat.Pt → Option (Tup [(.sl false (.pair .oth (.pair (.int .i64) (.pair (.int .i64) .unit))))])
  | .p0 a0 => K (.p9 a0 ((List.length a0) : Int) (0 : Int) ([] : List ((Unit) × ((Int) × ((Int) × (Unit))))))
  | .p9 y1 y2 y3 y4 => cond (decide (y3 < y2)) (cond (inB y3 (List.length y1)) (K (.p23 y1 y2 y3 (List.getD y1 (Int.toNat y3) default).2.1 ((List.length (List.getD y1 (Int.toNat y3) default).2.1) : Int) (0 : Int) y4 (List.getD y1 (Int.toNat y3) default).1 (List.getD y1 (Int.toNat y3) default).2.1)) (none)) (some y4)
  | .p23 y1 y2 y3 y4 y5 y6 y7 y8 y9 => cond (decide (y6 < y5)) (cond (inB y6 (List.length y4)) (cond (room ((List.length y7) + (List.length [((), (List.getD y4 (Int.toNat y6) default))]))) (K (.p23 y1 y2 y3 y4 y5 (IntKind.wrap .i64 (y6 + (1 : Int))) (y7 ++ [((), (List.getD y4 (Int.toNat y6) default))]) y8 y9)) (none)) (none)) (K (.p9 y1 y2 (IntKind.wrap .i64 (y3 + (1 : Int))) y7))
def laws_zFlat (n : Nat) (a0 : List ((List ((ByteArray) × ((ByteArray) × (Unit)))) × ((List ((Int) × ((Int) × (Unit)))) × (Unit)))) : Option (Tup [(.sl false (.pair .oth (.pair (.int .i64) (.pair (.int .i64) .unit))))]) := goRec laws_zFlat.step n (.p0 a0)
def laws_zFlat.spec : Ctr := ⟨43, [.v (.sl false (.pair (.sl false (.pair .str (.pair .str .unit))) (.pair (.sl false (.pair (.int .i64) (.pair (.int .i64) .unit))) .unit)))], [(.sl false (.pair .oth (.pair (.int .i64) (.pair (.int .i64) .unit))))], [], none, fun n x => laws_zFlat n x.1⟩
theorem laws_zFlat.seg_eq : SegEq tyN gl laws_zFlat.F laws_zFlat.md laws_zFlat.T laws_zFlat.spec laws_zFlat.lb laws_zFlat.st laws_zFlat.step := by
  intro n goto y; cases y <;> kernel_rfl
theorem laws_zFlat.text : Text Go.Proofs.Try.prog laws_zFlat.F laws_zFlat.spec := textOf Go.Proofs.Try.f43
theorem laws_zFlat.ok : CtrOK Go.Proofs.Try.prog gl laws_zFlat.spec :=
  ctr_okS tabsN laws_zFlat.text laws_zFlat.seg_eq (fun n x => ⟨.p0 x.1, rfl, rfl, rfl⟩) (nilC)

/-! loop.example/g00039/laws.FnPuts -/
def laws_FnPuts.T : List Ctr := [spec_DrawPutAll.spec, impl_PutAll.spec, spec_GoodHead.spec, spec_PutAll.spec, laws_zInts.spec, laws_zHead.spec, laws_zCutOf.spec, spec_SampleOf.spec, laws_zFlat.spec]
def laws_FnPuts.md : List (Nat × List Md) := [(35, [.c (.bs (.int .u8))])]
noncomputable def laws_FnPuts.F : Fun := ⟨(Go.Proofs.Try.f6.body).getD .skip, [.v (.bs (.int .u8)), .v (.sl false (.int .u8))], [(.tmp 4, .bool)], [], 0, [(4, ⟨[0, 1, 28], [], [], false⟩), (18, ⟨[1, 5, 6, 7, 8, 10, 55], [(6, (.pair (.sl false (.pair .str (.pair .str .unit))) (.pair (.int .i64) (.pair (.int .i64) .unit)))), (8, (.int .i64)), (10, (.int .i64))], [(5, 3, (.pair (.sl false (.pair .str (.pair .str .unit))) (.pair (.sl false (.pair (.int .i64) (.pair (.int .i64) .unit))) .unit))), (7, 3, (.pair (.sl false (.pair .str (.pair .str .unit))) (.pair (.sl false (.pair (.int .i64) (.pair (.int .i64) .unit))) .unit)))], false⟩), (26, ⟨[1, 5, 6, 7, 8, 10, 68], [(6, (.pair (.sl false (.pair .str (.pair .str .unit))) (.pair (.int .i64) (.pair (.int .i64) .unit)))), (8, (.int .i64)), (10, (.int .i64))], [(5, 3, (.pair (.sl false (.pair .str (.pair .str .unit))) (.pair (.sl false (.pair (.int .i64) (.pair (.int .i64) .unit))) .unit))), (7, 3, (.pair (.sl false (.pair .str (.pair .str .unit))) (.pair (.sl false (.pair (.int .i64) (.pair (.int .i64) .unit))) .unit)))], false⟩), (40, ⟨[5, 6, 7, 10, 102], [(6, (.pair (.sl false (.pair .str (.pair .str .unit))) (.pair (.int .i64) (.pair (.int .i64) .unit)))), (10, (.int .i64))], [(5, 3, (.pair (.sl false (.pair .str (.pair .str .unit))) (.pair (.sl false (.pair (.int .i64) (.pair (.int .i64) .unit))) .unit))), (7, 3, (.pair (.sl false (.pair .str (.pair .str .unit))) (.pair (.sl false (.pair (.int .i64) (.pair (.int .i64) .unit))) .unit)))], false⟩), (53, ⟨[5, 7, 10, 16, 103, 104, 105], [(10, (.int .i64)), (103, (.pair (.sl false (.pair .str (.pair .str .unit))) (.pair (.int .i64) (.pair (.int .i64) .unit))))], [(5, 3, (.pair (.sl false (.pair .str (.pair .str .unit))) (.pair (.sl false (.pair (.int .i64) (.pair (.int .i64) .unit))) .unit))), (7, 3, (.pair (.sl false (.pair .str (.pair .str .unit))) (.pair (.sl false (.pair (.int .i64) (.pair (.int .i64) .unit))) .unit)))], false⟩)]⟩
inductive laws_FnPuts.Pt where
  | p0 (a0 : List (Int)) (a1 : List (Int))
  | p4 (y1 : List (Int)) (y2 : List (Int)) (y3 : Bool)
  | p18 (y1 : List (Int)) (y2 : Bool) (y3 : Int) (y4 : Int) (y5 : Int) (y6 : List ((List ((ByteArray) × ((ByteArray) × (Unit)))) × ((Int) × ((Int) × (Unit))))) (y7 : Int) (y8 : Int) (y9 : Int) (y10 : List (Int)) (y11 : List (Int)) (y12 : List ((List ((ByteArray) × ((ByteArray) × (Unit)))) × ((List ((Int) × ((Int) × (Unit)))) × (Unit)))) (y13 : List ((List ((ByteArray) × ((ByteArray) × (Unit)))) × ((List ((Int) × ((Int) × (Unit)))) × (Unit))))
  | p26 (y1 : List (Int)) (y2 : Bool) (y3 : Int) (y4 : Int) (y5 : Int) (y6 : List ((List ((ByteArray) × ((ByteArray) × (Unit)))) × ((Int) × ((Int) × (Unit))))) (y7 : Int) (y8 : Int) (y9 : Int) (y10 : List (Int)) (y11 : List (Int)) (y12 : List ((List ((ByteArray) × ((ByteArray) × (Unit)))) × ((List ((Int) × ((Int) × (Unit)))) × (Unit)))) (y13 : List ((List ((ByteArray) × ((ByteArray) × (Unit)))) × ((List ((Int) × ((Int) × (Unit)))) × (Unit))))
  | p40 (y1 : Bool) (y2 : Int) (y3 : Int) (y4 : Int) (y5 : List ((List ((ByteArray) × ((ByteArray) × (Unit)))) × ((Int) × ((Int) × (Unit))))) (y6 : Int) (y7 : Int) (y8 : Int) (y9 : List (Int)) (y10 : List ((List ((ByteArray) × ((ByteArray) × (Unit)))) × ((List ((Int) × ((Int) × (Unit)))) × (Unit)))) (y11 : List ((List ((ByteArray) × ((ByteArray) × (Unit)))) × ((List ((Int) × ((Int) × (Unit)))) × (Unit))))
  | p53 (y1 : Int) (y2 : Int) (y3 : Int) (y4 : Int) (y5 : Int) (y6 : Int) (y7 : Int) (y8 : Int) (y9 : Int) (y10 : List (Int)) (y11 : List ((List ((ByteArray) × ((ByteArray) × (Unit)))) × ((Int) × ((Int) × (Unit))))) (y12 : List ((List ((ByteArray) × ((ByteArray) × (Unit)))) × ((List ((Int) × ((Int) × (Unit)))) × (Unit)))) (y13 : List ((List ((ByteArray) × ((ByteArray) × (Unit)))) × ((List ((Int) × ((Int) × (Unit)))) × (Unit))))
def laws_FnPuts.lb : laws_FnPuts.Pt → Nat
  | .p0 _ _ => 0
  | .p4 _ _ _ => 4
  | .p18 _ _ _ _ _ _ _ _ _ _ _ _ _ => 18
  | .p26 _ _ _ _ _ _ _ _ _ _ _ _ _ => 26
  | .p40 _ _ _ _ _ _ _ _ _ _ _ => 40
  | .p53 _ _ _ _ _ _ _ _ _ _ _ _ _ => 53
def laws_FnPuts.st : laws_FnPuts.Pt → St
  | .p0 a0 a1 => enter [.v (.bs (.int .u8)) a0, .v (.sl false (.int .u8)) a1] 0
  | .p4 y1 y2 y3 => ⟨[(0, .im (.bs (.int .u8)) y1), (1, .im (.sl false (.int .u8)) y2), (28, .im .bool y3)], [], 0⟩
  | .p18 y1 y2 y3 y4 y5 y6 y7 y8 y9 y10 y11 y12 y13 => ⟨[(1, .im (.sl false (.int .u8)) y1), (5, .po 0 0), (6, .hs 1 [] none 0), (7, .po 2 0), (8, .hs 3 [] none 0), (10, .hs 4 [] none 0), (55, .im .bool y2)], [(0, .obj [.im (.int .i64) y3, .im (.int .i64) y4, .im (.int .i64) y5, .hs 5 [] none 0]), (1, .arr false (.pair (.sl false (.pair .str (.pair .str .unit))) (.pair (.int .i64) (.pair (.int .i64) .unit))) y6 0), (2, .obj [.im (.int .i64) y7, .im (.int .i64) y8, .im (.int .i64) y9, .hs 6 [] none 0]), (3, .arr false (.int .i64) y10 0), (4, .arr false (.int .i64) y11 0), (5, .arr false (.pair (.sl false (.pair .str (.pair .str .unit))) (.pair (.sl false (.pair (.int .i64) (.pair (.int .i64) .unit))) .unit)) y12 0), (6, .arr false (.pair (.sl false (.pair .str (.pair .str .unit))) (.pair (.sl false (.pair (.int .i64) (.pair (.int .i64) .unit))) .unit)) y13 0)], 7⟩
  | .p26 y1 y2 y3 y4 y5 y6 y7 y8 y9 y10 y11 y12 y13 => ⟨[(1, .im (.sl false (.int .u8)) y1), (5, .po 0 0), (6, .hs 1 [] none 0), (7, .po 2 0), (8, .hs 3 [] none 0), (10, .hs 4 [] none 0), (68, .im .bool y2)], [(0, .obj [.im (.int .i64) y3, .im (.int .i64) y4, .im (.int .i64) y5, .hs 5 [] none 0]), (1, .arr false (.pair (.sl false (.pair .str (.pair .str .unit))) (.pair (.int .i64) (.pair (.int .i64) .unit))) y6 0), (2, .obj [.im (.int .i64) y7, .im (.int .i64) y8, .im (.int .i64) y9, .hs 6 [] none 0]), (3, .arr false (.int .i64) y10 0), (4, .arr false (.int .i64) y11 0), (5, .arr false (.pair (.sl false (.pair .str (.pair .str .unit))) (.pair (.sl false (.pair (.int .i64) (.pair (.int .i64) .unit))) .unit)) y12 0), (6, .arr false (.pair (.sl false (.pair .str (.pair .str .unit))) (.pair (.sl false (.pair (.int .i64) (.pair (.int .i64) .unit))) .unit)) y13 0)], 7⟩
  | .p40 y1 y2 y3 y4 y5 y6 y7 y8 y9 y10 y11 => ⟨[(5, .po 0 0), (6, .hs 1 [] none 0), (7, .po 2 0), (10, .hs 3 [] none 0), (102, .im .bool y1)], [(0, .obj [.im (.int .i64) y2, .im (.int .i64) y3, .im (.int .i64) y4, .hs 4 [] none 0]), (1, .arr false (.pair (.sl false (.pair .str (.pair .str .unit))) (.pair (.int .i64) (.pair (.int .i64) .unit))) y5 0), (2, .obj [.im (.int .i64) y6, .im (.int .i64) y7, .im (.int .i64) y8, .hs 5 [] none 0]), (3, .arr false (.int .i64) y9 0), (4, .arr false (.pair (.sl false (.pair .str (.pair .str .unit))) (.pair (.sl false (.pair (.int .i64) (.pair (.int .i64) .unit))) .unit)) y10 0), (5, .arr false (.pair (.sl false (.pair .str (.pair .str .unit))) (.pair (.sl false (.pair (.int .i64) (.pair (.int .i64) .unit))) .unit)) y11 0)], 6⟩
  | .p53 y1 y2 y3 y4 y5 y6 y7 y8 y9 y10 y11 y12 y13 => ⟨[(5, .po 0 0), (7, .po 1 0), (10, .hs 2 [] none 0), (16, .im (.int .i64) y1), (103, .hs 3 [] none 0), (104, .im (.int .i64) y2), (105, .im (.int .i64) y3)], [(0, .obj [.im (.int .i64) y4, .im (.int .i64) y5, .im (.int .i64) y6, .hs 4 [] none 0]), (1, .obj [.im (.int .i64) y7, .im (.int .i64) y8, .im (.int .i64) y9, .hs 5 [] none 0]), (2, .arr false (.int .i64) y10 0), (3, .arr false (.pair (.sl false (.pair .str (.pair .str .unit))) (.pair (.int .i64) (.pair (.int .i64) .unit))) y11 0), (4, .arr false (.pair (.sl false (.pair .str (.pair .str .unit))) (.pair (.sl false (.pair (.int .i64) (.pair (.int .i64) .unit))) .unit)) y12 0), (5, .arr false (.pair (.sl false (.pair .str (.pair .str .unit))) (.pair (.sl false (.pair (.int .i64) (.pair (.int .i64) .unit))) .unit)) y13 0)], 6⟩
def laws_FnPuts.step (n : Nat) (K : laws_FnPuts.Pt → Option (Tup [.bool])) : laws_FnPuts.Pt → Option (Tup [.bool])
  | .p0 a0 a1 => cond (decide ((1048576 : Int) < ((List.length a0) : Int))) (K (.p4 a0 a1 true)) (K (.p4 a0 a1 (decide ((1048576 : Int) < ((List.length a1) : Int)))))
  | .p4 y1 y2 y3 => cond y3 (some true) ((spec_DrawPutAll n y1).bind fun r6 => (impl_PutAll n r6.1 r6.2).bind fun r7 => (spec_PutAll n r6.1 r6.2).bind fun r8 => (laws_zInts n r7.2 r8.2).bind fun r9 => cond (!r9) (K (.p18 y2 true r6.1.1 r6.1.2.1 r6.1.2.2.1 r6.2 r7.1.1 r7.1.2.1 r7.1.2.2.1 r7.2 r8.2 r6.1.2.2.2.1 r7.1.2.2.2.1)) ((laws_zHead n r7.1 r8.1).bind fun r10 => K (.p18 y2 (!r10) r6.1.1 r6.1.2.1 r6.1.2.2.1 r6.2 r7.1.1 r7.1.2.1 r7.1.2.2.1 r7.2 r8.2 r6.1.2.2.2.1 r7.1.2.2.2.1)))
  | .p18 y1 y2 y3 y4 y5 y6 y7 y8 y9 y10 y11 y12 y13 => cond y2 (some false) ((spec_GoodHead n (y3, (y4, (y5, (y12, ()))))).bind fun r16 => cond (!r16) (K (.p26 y1 true y3 y4 y5 y6 y7 y8 y9 y10 y11 y12 y13)) (cond (decide (((List.length y6) : Int) = (0 : Int))) (K (.p26 y1 true y3 y4 y5 y6 y7 y8 y9 y10 y11 y12 y13)) (K (.p26 y1 (decide ((500 : Int) < ((List.length y6) : Int))) y3 y4 y5 y6 y7 y8 y9 y10 y11 y12 y13))))
  | .p26 y1 y2 y3 y4 y5 y6 y7 y8 y9 y10 y11 y12 y13 => cond y2 (some true) ((laws_zCutOf n y1 ((List.length y6) : Int)).bind fun (r16 : Int) => cond (inC (0 : Int) r16 (List.length y6)) ((impl_PutAll n (y3, (y4, (y5, (y12, ())))) (List.take ((Int.toNat r16) - (Int.toNat (0 : Int))) (List.drop (0 + (Int.toNat (0 : Int))) y6))).bind fun r17 => cond (inC r16 ((List.length y6) : Int) (List.length y6)) ((impl_PutAll n r17.1 (List.take ((Int.toNat ((List.length y6) : Int)) - (Int.toNat r16)) (List.drop (0 + (Int.toNat r16)) y6))).bind fun r18 => (laws_zHead n r18.1 (y7, (y8, (y9, (y13, ()))))).bind fun r19 => cond (!r19) (K (.p40 true y3 y4 y5 y6 y7 y8 y9 y11 y12 y13)) (cond (room ((List.length ([] : List (Int))) + (List.length r17.2))) (cond (room ((List.length (([] : List (Int)) ++ r17.2)) + (List.length r18.2))) ((laws_zInts n ((([] : List (Int)) ++ r17.2) ++ r18.2) y10).bind fun r20 => K (.p40 (!r20) y3 y4 y5 y6 y7 y8 y9 y11 y12 y13)) (none)) (none))) (none)) (none))
  | .p40 y1 y2 y3 y4 y5 y6 y7 y8 y9 y10 y11 => cond y1 (some false) (K (.p53 (0 : Int) ((List.length y5) : Int) (0 : Int) y2 y3 y4 y6 y7 y8 y9 y5 y10 y11))
  | .p53 y1 y2 y3 y4 y5 y6 y7 y8 y9 y10 y11 y12 y13 => cond (decide (y3 < y2)) (cond (inB y3 (List.length y11)) (cond (inB y3 (List.length y10)) (cond (decide ((List.getD y10 (0 + (Int.toNat y3)) default) = (0 : Int))) ((spec_SampleOf n y13 (List.getD y11 (0 + (Int.toNat y3)) default).1 (List.getD y11 (0 + (Int.toNat y3)) default).2.1).bind fun r16 => cond (!r16.2) (some false) (cond (!(decide (r16.1 = (List.getD y11 (0 + (Int.toNat y3)) default).2.2.1))) (some false) (K (.p53 (IntKind.wrap .i64 (y1 + (1 : Int))) y2 (IntKind.wrap .i64 (y3 + (1 : Int))) y4 y5 y6 y7 y8 y9 y10 y11 y12 y13)))) (K (.p53 y1 y2 (IntKind.wrap .i64 (y3 + (1 : Int))) y4 y5 y6 y7 y8 y9 y10 y11 y12 y13))) (none)) (none)) ((laws_zFlat n y13).bind fun r16 => (laws_zFlat n y12).bind fun r17 => some (decide (((List.length r16) : Int) = (IntKind.wrap .i64 (((List.length r17) : Int) + y1)))))
def laws_FnPuts (n : Nat) (a0 : List (Int)) (a1 : List (Int)) : Option (Tup [.bool]) := goRec laws_FnPuts.step n (.p0 a0 a1)
def laws_FnPuts.spec : Ctr := ⟨6, [.v (.bs (.int .u8)), .v (.sl false (.int .u8))], [.bool], [], none, fun n x => laws_FnPuts n x.1 x.2.1⟩
theorem laws_FnPuts.seg_eq : SegEq ty gl laws_FnPuts.F laws_FnPuts.md laws_FnPuts.T laws_FnPuts.spec laws_FnPuts.lb laws_FnPuts.st laws_FnPuts.step := by
  intro n goto y; cases y <;> kernel_rfl
theorem laws_FnPuts.text : Text Go.Proofs.Try.prog laws_FnPuts.F laws_FnPuts.spec := textOf Go.Proofs.Try.f6
theorem laws_FnPuts.ok : CtrOK Go.Proofs.Try.prog gl laws_FnPuts.spec :=
  ctr_okS tabs laws_FnPuts.text laws_FnPuts.seg_eq (fun n x => ⟨.p0 x.1 x.2.1, rfl, rfl, rfl⟩) (consC spec_DrawPutAll.ok (consC impl_PutAll.ok (consC spec_GoodHead.ok (consC spec_PutAll.ok (consC laws_zInts.ok (consC laws_zHead.ok (consC laws_zCutOf.ok (consC spec_SampleOf.ok (consC laws_zFlat.ok (nilC))))))))))
end Go.FP
