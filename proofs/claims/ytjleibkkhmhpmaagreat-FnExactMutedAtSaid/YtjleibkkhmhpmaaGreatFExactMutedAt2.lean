/- The functions that the law reaches, each as a Lean function and with its contract, part 2. -/
import Derived.Test.YtjleibkkhmhpmaaGreatV1
import Derived.Test.YtjleibkkhmhpmaaGreatV2
import Derived.Test.YtjleibkkhmhpmaaGreatV3
import Derived.Lib.Bytealg
import Derived.Shelf.Lays
import Derived.Shelf.Small.Strs
import Derived.Test.YtjleibkkhmhpmaaGreatProg
import Derived.Test.YtjleibkkhmhpmaaGreatFExactMutedAt1
open Go Go.VM
namespace Go.NU
set_option maxRecDepth 100000
set_option linter.unusedVariables false
set_option linter.unusedSimpArgs false
/-! strings.IndexByte -/
def strings_IndexByte (n : Nat) (a0 : ByteArray) (a1 : Int) : Option Int := hold n (some (Lib.indexByte a0.data.toList a1.toNat.toUInt8))
def strings_IndexByte.spec : Ctr := ⟨207, [.v .str, .v (.int .u8)], [.int .i64], [], fun n x => strings_IndexByte n x.1 x.2.1⟩
section
open Go.Proofs
def layIndexByte_ren : Go.Shelf.Ren := ⟨fun | 137 => 207 | 217 => 209 | 266 => 210 | n => n, fun | 9 => 9 | 5 => 5 | 3 => 3 | n => n, fun | n => n⟩
theorem layIndexByte : Go.Proofs.Lays.n137 Tryz.prog layIndexByte_ren where
  mixed := by kernel_rfl
  f137 := Tryz.func207.trans (congrArg some (by kernel_rfl))
  f217 := Tryz.func209.trans (congrArg some (by kernel_rfl))
  f266 := Tryz.func210.trans (congrArg some (by kernel_rfl))
  t3 := Tryz.underlying3
  a3 := Tryz.isAgg3
  z3 := Tryz.sizeOf3
  v3 := Tryz.zeroValue3
  t5 := Tryz.underlying5
  a5 := Tryz.isAgg5
  z5 := Tryz.sizeOf5
  v5 := Tryz.zeroValue5
  t9 := Tryz.underlying9
  a9 := Tryz.isAgg9
  z9 := Tryz.sizeOf9
  v9 := Tryz.zeroValue9

end
theorem strings_IndexByte.ok : CtrOK Go.Proofs.Tryz.prog gl strings_IndexByte.spec := by
  refine fun n => ⟨⟨Go.Proofs.Tryz.f207, by kernel_rfl, by kernel_rfl, by decide +kernel⟩, ?_⟩
  rintro ⟨a0, a1, ⟨⟩⟩ y hy
  obtain rfl := Option.some.inj (hold_some hy)
  intro w vs S L harg _ hL hSL hG
  change ArgsRep w [Arg.v .str a0, Arg.v (.int .u8) a1] vs S L at harg
  unfold ArgsRep at harg
  obtain ⟨v0, vr, S1, S2, L1, L2, rfl, rfl, rfl, h1, harg⟩ := harg
  unfold ArgsRep at harg
  obtain ⟨v1, vr, S3, S4, L3, L4, rfl, rfl, rfl, h2, harg⟩ := harg
  unfold ArgsRep at harg
  obtain ⟨rfl, rfl, rfl⟩ := harg
  unfold ArgRep at h1 h2
  obtain ⟨_, ⟨cs, rfl, rfl, rfl⟩, rfl⟩ := h1
  obtain ⟨_, ⟨cs, rfl, rfl, rfl⟩, rfl⟩ := h2
  refine (Go.Proofs.Any.strings_IndexByte layIndexByte a0 a1 w).mono ?_
  rintro e w' ⟨rfl, rfl⟩
  refine ⟨[.int .i64 (Lib.indexByte a0.data.toList a1.toNat.toUInt8)], [], [], rfl, ⟨_, [], [], [], rfl, rfl, rfl, ⟨rfl, rfl⟩, rfl, rfl⟩, ?_, by simp, by simp, rfl, rfl, rfl, Nat.le_refl _, fun _ _ _ => rfl⟩
  change OutsRep w' [Arg.v .str a0, Arg.v (.int .u8) a1] _ _ _
  simp only [OutsRep, OutRep]
  exact ⟨_, _, [], [], [], [], rfl, rfl, rfl, ⟨rfl, rfl⟩, _, _, [], [], [], [], rfl, rfl, rfl, ⟨rfl, rfl⟩, rfl, rfl⟩


/-! loop.example/g00039/impl.alternatives$1 -/
abbrev PC : U := .pair (.int .u8) (.pair .bool (.pair .bool .unit))
def impl_alternatives_1 (n : Nat) (a0 : PC.El) (a1 : List (List PC.El)) : Option (List (List PC.El)) :=
  hold n (cond (decide (a1 ≠ [] ∧ a1.length ≤ 1000000 ∧ (a1.getD (a1.length - 1) []).length ≤ 1000000)) (some (a1.set (a1.length - 1) (a1.getD (a1.length - 1) [] ++ [a0]))) none)
def impl_alternatives_1.spec : Ctr := ⟨206, [.v PC, .p (.sl false (.sl false PC))], [], [.sl false (.sl false PC)], fun n x => impl_alternatives_1 n x.1 x.2.1⟩
section
open Go.RowKit Go.Proofs
set_option maxHeartbeats 8000000 in
set_option maxRecDepth 100000 in
theorem put_calls (ht : TyOK Tryz.prog 241 (.sl false PC)) (c : Int) (x y : Bool) (b g q cap : Nat) (cur : Array Value) (v : Value) (l : List PC.El) (T1 T2 : TypeId) (fz : Nat × Nat) (F2 : List Nat) (W : World)
    (hb : W.heap[b]? = some (.cells #[.slice (some ⟨g, 0, none⟩) (q + 1) cap] T1 (0, 0))) (hg : W.heap[g]? = some (.cells cur T2 fz)) (hfz : ∀ j, j < cur.size → ¬ (fz.1 ≤ j ∧ j < fz.2))
    (hn2 : q ≤ 1000000) (hv : cur[q]? = some v) (hs : SlRep W true false 3 (Rep W true PC) l v F2) (hF2 : F2.Nodup) (hbF : b ∉ F2) (hgF : g ∉ F2) (hbg : b ≠ g) (hl : l.length ≤ 1000000) :
    Calls Tryz.prog 206 #[.agg #[.int .u8 c, .bool x, .bool y], .pointer (some ⟨b, 0, none⟩)] W fun e w' => e = .returned (.tuple #[]) ∧ ∃ v1 F3,
      SlRep w' true false 3 (Rep w' true PC) (l ++ [(c, x, y, ())]) v1 F3 ∧ F3.Nodup ∧ w'.heap[g]? = some (.cells (cur.setIfInBounds q v1) T2 fz) ∧ w'.os = W.os ∧ w'.tape = W.tape ∧ w'.output = W.output ∧ W.heap.size ≤ w'.heap.size ∧
      (∀ k, k < W.heap.size → k ≠ g → k ∉ F2 → w'.heap[k]? = W.heap[k]?) ∧ (∀ k ∈ F3, k < w'.heap.size ∧ (k < W.heap.size → k ∈ F2)) := by
  have e1 : wrap64 (((q + 1 : Nat) : Int) - 1) = (q : Int) := by unfold wrap64; omega
  have e2 : wrap64 (q : Int) = (q : Int) := by unfold wrap64; omega
  have hlt := lt_of_heap hb
  have hltg := lt_of_heap hg
  have hqs : q < cur.size := by
    rcases Nat.lt_or_ge q cur.size with h | h
    · exact h
    · rw [Array.getElem?_eq_none h] at hv; cases hv
  go_enter Tryz.func206, Tryz.ntmps206
  go_wp2
  have hbx : (W.alloc (.cells #[.int .u8 c, .bool x, .bool y] 240)).drew.heap[W.heap.size]? = some (.cells #[.int .u8 c, .bool x, .bool y] 240 (0, 0)) := alloc_new W _
  have hold : ∀ k, k < W.heap.size → (W.alloc (.cells #[.int .u8 c, .bool x, .bool y] 240)).drew.heap[k]? = W.heap[k]? := fun k hk => alloc_old W _ hk
  have hb1 := (hold b hlt).trans hb
  have hg1 := (hold g hltg).trans hg
  have hsz1 : (W.alloc (.cells #[.int .u8 c, .bool x, .bool y] 240)).drew.heap.size = W.heap.size + 1 := alloc_sz _ _
  have hFlt : ∀ k ∈ F2, k < W.heap.size := fun k hk => Rep.block_lt (u := .sl false PC) (cs := [v]) ⟨v, rfl, .inl hs⟩ k hk
  have hs1 : SlRep (W.alloc (.cells #[.int .u8 c, .bool x, .bool y] 240)).drew true false 3 (Rep (W.alloc (.cells #[.int .u8 c, .bool x, .bool y] 240)).drew true PC) l v F2 := SlRep.frame (u := PC) (fun k hk => hold k (hFlt k hk)) hs
  have hos1 : (W.alloc (.cells #[.int .u8 c, .bool x, .bool y] 240)).drew.os = W.os ∧ (W.alloc (.cells #[.int .u8 c, .bool x, .bool y] 240)).drew.tape = W.tape ∧ (W.alloc (.cells #[.int .u8 c, .bool x, .bool y] 240)).drew.output = W.output := ⟨rfl, rfl, rfl⟩
  refine start_ (n := 15) (S := fun w' => w'.cell? ⟨b, 0, none⟩ = some (.slice (some ⟨g, 0, none⟩) (q + 1) cap) ∧ w'.cell? ⟨g, q, none⟩ = some v ∧ w'.cell? ⟨W.heap.size, 0, none⟩ = some (.int .u8 c) ∧ w'.cell? ⟨W.heap.size, 1, none⟩ = some (.bool x) ∧ w'.cell? ⟨W.heap.size, 2, none⟩ = some (.bool y)) (ds := [14]) #[false, false, false, false, false, false, false, false, false, false, false, false, false, false, false] (by kernel_rfl) rfl rfl ⟨(cell_row hb1).trans rfl, (cell_row hg1).trans hv, (cell_row hbx).trans rfl, (cell_row hbx).trans rfl, (cell_row hbx).trans rfl⟩ (fun hHeld => ?_)
  generalize (W.alloc (.cells #[.int .u8 c, .bool x, .bool y] 240)).drew = W1 at hold hsz1 hbx hb1 hg1 hs1 hos1 hHeld ⊢
  refine take_ (i := 0) (N := some 3) (v := ?_) (a' := ?_) #[true, false, false, false, false, false, false, false, false, false, false, false, false, false, false] rfl rfl (by kernel_rfl) (fun _ _ _ h => h) (Or.inl ⟨by rfl, ?_⟩) hHeld ?_ ?_
  rotate_left
  · rintro w' ⟨s0, s1, s2, s3, s4⟩
    go_simp
    try with_reducible rfl
  rotate_left
  · simp only [Act.put, List.setIfInBounds_toArray, List.set_cons_zero, List.set_cons_succ, i64_w, i32_w]
    rfl
  refine take_ (i := 1) (N := some 4) (v := ?_) (a' := ?_) #[true, true, false, false, false, false, false, false, false, false, false, false, false, false, false] rfl rfl (by kernel_rfl) (fun _ _ _ h => h) (Or.inl ⟨by rfl, ?_⟩) hHeld ?_ ?_
  rotate_left
  · rintro w' ⟨s0, s1, s2, s3, s4⟩
    go_simp
    try with_reducible rfl
  rotate_left
  · simp only [Act.put, List.setIfInBounds_toArray, List.set_cons_zero, List.set_cons_succ, i64_w, i32_w]
    rfl
  refine pure_ (i := 2) (N := some 5) (v := ?_) (a' := ?_) #[true, true, true, false, false, false, false, false, false, false, false, false, false, false, false] rfl rfl (by kernel_rfl) (fun _ _ _ h => h) (Or.inl ⟨by rfl, ?_⟩) ?_ ?_
  rotate_left
  · intro w'
    go_simp
    try with_reducible rfl
  rotate_left
  · simp only [Act.put, List.setIfInBounds_toArray, List.set_cons_zero, List.set_cons_succ, i64_w, i32_w]
    rfl
  refine pure_ (i := 3) (N := some 6) (v := ?_) (a' := ?_) #[true, true, true, true, false, false, false, false, false, false, false, false, false, false, false] rfl rfl (by kernel_rfl) (fun _ _ _ h => h) (Or.inl ⟨by rfl, ?_⟩) ?_ ?_
  rotate_left
  · intro w'
    go_simp
    try with_reducible rfl
  rotate_left
  · simp only [Act.put, List.setIfInBounds_toArray, List.set_cons_zero, List.set_cons_succ, i64_w, i32_w]
    rfl
  refine take_ (i := 4) (N := some 7) (v := ?_) (a' := ?_) #[true, true, true, true, true, false, false, false, false, false, false, false, false, false, false] rfl rfl (by kernel_rfl) (fun _ _ _ h => h) (Or.inl ⟨by rfl, ?_⟩) hHeld ?_ ?_
  rotate_left
  · rintro w' ⟨s0, s1, s2, s3, s4⟩
    go_simp
    try with_reducible rfl
  rotate_left
  · simp only [Act.put, List.setIfInBounds_toArray, List.set_cons_zero, List.set_cons_succ, i64_w, i32_w]
    rfl
  refine take_ (i := 5) (N := some 8) (v := ?_) (a' := ?_) #[true, true, true, true, true, true, false, false, false, false, false, false, false, false, false] rfl rfl (by kernel_rfl) (fun _ _ _ h => h) (Or.inl ⟨by rfl, ?_⟩) hHeld ?_ ?_
  rotate_left
  · rintro w' ⟨s0, s1, s2, s3, s4⟩
    go_simp
    try with_reducible rfl
  rotate_left
  · simp only [Act.put, List.setIfInBounds_toArray, List.set_cons_zero, List.set_cons_succ, i64_w, i32_w]
    rfl
  refine pure_ (i := 6) (N := some 9) (v := ?_) (a' := ?_) #[true, true, true, true, true, true, true, false, false, false, false, false, false, false, false] rfl rfl (by kernel_rfl) (fun _ _ _ h => h) (Or.inl ⟨by rfl, ?_⟩) ?_ ?_
  rotate_left
  · intro w'
    go_simp
    try with_reducible rfl
  rotate_left
  · simp only [Act.put, List.setIfInBounds_toArray, List.set_cons_zero, List.set_cons_succ, i64_w, i32_w]
    rfl
  refine pure_ (i := 7) (N := some 10) (v := ?_) (a' := ?_) #[true, true, true, true, true, true, true, true, false, false, false, false, false, false, false] rfl rfl (by kernel_rfl) (fun _ _ _ h => h) (Or.inl ⟨by rfl, ?_⟩) ?_ ?_
  rotate_left
  · intro w'
    go_simp
    try with_reducible rfl
  rotate_left
  · simp only [Act.put, List.setIfInBounds_toArray, List.set_cons_zero, List.set_cons_succ, i64_w, i32_w]
    rfl
  refine pure_ (i := 8) (N := some 11) (v := ?_) (a' := ?_) #[true, true, true, true, true, true, true, true, true, false, false, false, false, false, false] rfl rfl (by kernel_rfl) (fun _ _ _ h => h) (Or.inl ⟨by rfl, ?_⟩) ?_ ?_
  rotate_left
  · intro w'
    go_simp
    rw [if_pos (by omega)]
  rotate_left
  · simp only [Act.put, List.setIfInBounds_toArray, List.set_cons_zero, List.set_cons_succ, i64_w, i32_w]
    rfl
  refine take_ (i := 9) (N := some 12) (v := ?_) (a' := ?_) #[true, true, true, true, true, true, true, true, true, true, false, false, false, false, false] rfl rfl (by kernel_rfl) (fun _ _ _ h => h) (Or.inl ⟨by rfl, ?_⟩) hHeld ?_ ?_
  rotate_left
  · rintro w' ⟨s0, s1, s2, s3, s4⟩
    go_simp
    try with_reducible rfl
  rotate_left
  · simp only [Act.put, List.setIfInBounds_toArray, List.set_cons_zero, List.set_cons_succ, i64_w, i32_w]
    rfl
  refine take_ (i := 10) (N := some 13) (v := ?_) (a' := ?_) #[true, true, true, true, true, true, true, true, true, true, true, false, false, false, false] rfl rfl (by kernel_rfl) (fun _ _ _ h => h) (Or.inl ⟨by rfl, ?_⟩) hHeld ?_ ?_
  rotate_left
  · rintro w' ⟨s0, s1, s2, s3, s4⟩
    go_simp
    try with_reducible rfl
  rotate_left
  · simp only [Act.put, List.setIfInBounds_toArray, List.set_cons_zero, List.set_cons_succ, i64_w, i32_w]
    rfl
  clear hHeld
  have hW2 : ∀ k, k < W1.heap.size → (W1.alloc (.cells #[.int .u8 c, .bool x, .bool y] 240)).heap[k]? = W1.heap[k]? := fun k hk => alloc_old W1 _ hk
  have hnew : (W1.alloc (.cells #[.int .u8 c, .bool x, .bool y] 240)).heap[W1.heap.size]? = some (.cells #[.int .u8 c, .bool x, .bool y] 240 (0, 0)) := alloc_new W1 _
  have hb2 := (hW2 b (lt_of_heap hb1)).trans hb1
  have hg2 := (hW2 g (lt_of_heap hg1)).trans hg1
  have hbx2 := (hW2 _ (lt_of_heap hbx)).trans hbx
  refine one_ (i := 11) (N := some 14) #[true, true, true, true, true, true, true, true, true, true, true, true, false, false, false] rfl rfl (by kernel_rfl) (by decide) (fun K hK => ?_)
  refine event_step (w1 := W1.alloc (.cells #[.int .u8 c, .bool x, .bool y] 240)) (v := .slice (some ⟨W1.heap.size, 0, none⟩) 1 1) (by rfl) (by first | (go_simp; done) | (go_simp; rfl)) ?_
  refine hK.out _ _ ⟨(cell_row hb2).trans rfl, (cell_row hg2).trans hv, (cell_row hbx2).trans rfl, (cell_row hbx2).trans rfl, (cell_row hbx2).trans rfl⟩ (fun hHeld => ?_)
  clear hK K hHeld
  refine norm_ (a' := ?_) ?_ ?_
  rotate_left
  · show Act.put _ (some 14) _ = _
    simp only [Act.put, List.setIfInBounds_toArray, List.set_cons_zero, List.set_cons_succ, i64_w, i32_w]
    rfl
  have hs2 : SlRep (W1.alloc (.cells #[.int .u8 c, .bool x, .bool y] 240)) true false 3 (Rep (W1.alloc (.cells #[.int .u8 c, .bool x, .bool y] 240)) true PC) l v F2 := SlRep.frame (u := PC) (fun k hk => hW2 k (by have := hFlt k hk; omega)) hs1
  obtain ⟨v1, w2, F3, hrun, hs3, hF3, ho1, ho2, ho3, hsz2, hfr, hF3b⟩ := append_run (P := Tryz.prog) (ty := 241) (t := 241) (e := false) (u := PC) (l := l) (m := [(c, x, y, ())]) (dd := ⟨W1.heap.size, 0, none⟩) (cs := [.int .u8 c, .bool x, .bool y]) ht rfl hs2 hF2
    ⟨[.int .u8 c, .bool x, .bool y], [], [], [], rfl, rfl, ⟨[.int .u8 c], [.bool x, .bool y], [], [], rfl, rfl, ⟨rfl, rfl⟩, [.bool x], [.bool y], [], [], rfl, rfl, ⟨rfl, rfl⟩, [.bool y], [], [], [], rfl, rfl, ⟨rfl, rfl⟩, rfl, rfl⟩, rfl, rfl⟩
    (cells_at (p := []) (q := []) rfl hnew rfl rfl) (by simp) (by simp; omega) 1
  have hsz3 : (W1.alloc (.cells #[.int .u8 c, .bool x, .bool y] 240)).heap.size = W1.heap.size + 1 := alloc_sz _ _
  refine one_ (i := 12) (N := some 15) #[true, true, true, true, true, true, true, true, true, true, true, true, true, false, false] rfl rfl (by kernel_rfl) (by decide) (fun K hK => ?_)
  refine event_step (w1 := w2) (v := v1) (by rfl) ?_ ?_
  · exact append_op (x := .tmp 12) (y := .tmp 14) (t := 241) rfl hrun
  have hb3 := (hfr b (by omega) hbF).trans hb2
  have hg3 := (hfr g (by omega) hgF).trans hg2
  have hbx3 := (hfr W.heap.size (by omega) (fun h => by have := hFlt _ h; omega)).trans hbx2
  refine hK.out _ _ ⟨(cell_row hb3).trans rfl, (cell_row hg3).trans hv, (cell_row hbx3).trans rfl, (cell_row hbx3).trans rfl, (cell_row hbx3).trans rfl⟩ (fun hHeld => ?_)
  clear hK K hHeld
  refine norm_ (a' := ?_) ?_ ?_
  rotate_left
  · show Act.put _ (some 15) _ = _
    simp only [Act.put, List.setIfInBounds_toArray, List.set_cons_zero, List.set_cons_succ, i64_w, i32_w]
    rfl
  refine pure_ (i := 13) (N := some 16) (v := ?_) (a' := ?_) #[true, true, true, true, true, true, true, true, true, true, true, true, true, true, false] rfl rfl (by kernel_rfl) (fun _ _ _ h => h) (Or.inl ⟨by rfl, ?_⟩) ?_ ?_
  rotate_left
  · intro w'
    go_simp
    rw [if_pos (by omega)]
  rotate_left
  · simp only [Act.put, List.setIfInBounds_toArray, List.set_cons_zero, List.set_cons_succ, i64_w, i32_w]
    rfl
  have hcq : w2.cell? ⟨g, q, none⟩ = some v := (cell_row hg3).trans hv
  have hfq : w2.frozen? ⟨g, q, none⟩ = false := frozen_row hg3 (hfz q hqs)
  obtain ⟨A1, n1, c1, e1'⟩ : ∃ A n c, v1 = Value.slice A n c := by
    rcases hs3 with ⟨h0, _⟩ | ⟨_, _, _, _, _, _, _, _, _, h0, _⟩ <;> exact ⟨_, _, _, h0⟩
  subst e1'
  refine last_ (i := 14) (N := none) #[true, true, true, true, true, true, true, true, true, true, true, true, true, true, true] rfl rfl (by kernel_rfl) (by decide) (fun K hK => ?_)
  refine skip_step (w1 := w2.setCell ⟨g, q, none⟩ (.slice A1 n1 c1)) (by rfl) rfl ?_ ?_
  · go_simp
  refine hK.out _ _ ?_
  clear hK K
  refine done_ (by kernel_rfl) ?_
  rw [setCell_put hg3]
  have hgF3 : g ∉ F3 := fun h => hgF ((hF3b g h).2 (by omega))
  have hoth : ∀ k, k ≠ g → (putB w2 g (.cells (cur.setIfInBounds q (.slice A1 n1 c1)) T2 fz)).heap[k]? = w2.heap[k]? := fun k hk => putB_other hk
  go_end0
  refine ⟨rfl, _, F3, SlRep.frame (u := PC) (fun k hk => hoth k (fun e => hgF3 (e ▸ hk))) hs3, hF3, putB_same (lt_of_heap hg3), ho1.trans hos1.1, ho2.trans hos1.2.1, ho3.trans hos1.2.2, by rw [putB_sz]; omega, ?_, ?_⟩
  · intro k hk hkg hkF
    rw [hoth k hkg, hfr k (by omega) hkF, hW2 k (by omega), hold k hk]
  · intro k hk
    have := hF3b k hk
    rw [putB_sz]
    exact ⟨this.1, fun h => this.2 (by omega)⟩
theorem impl_alternatives_1.ok : CtrOK Tryz.prog gl impl_alternatives_1.spec := by
  have ht : TyOK Tryz.prog 241 (.sl false PC) := tabs.ty _ _ (by kernel_rfl)
  intro n
  refine ⟨⟨Tryz.f206, by kernel_rfl, by kernel_rfl, by decide +kernel⟩, ?_⟩
  rintro ⟨x, out, ⟨⟩⟩ y hy
  obtain ⟨hc, hy⟩ := cond_none (hold_some hy)
  simp only [decide_eq_true_eq] at hc
  obtain ⟨hne, hlen, hlast⟩ := hc
  have hy : out.set (out.length - 1) (out.getD (out.length - 1) [] ++ [x]) = y := Option.some.inj hy
  subst hy
  intro w vs S L harg _ hL hSL hG
  change ArgsRep w [Arg.v PC x, Arg.p (.sl false (.sl false PC)) out] vs S L at harg
  unfold ArgsRep at harg
  obtain ⟨v0, vr, S1, S2, L1, L2, rfl, rfl, rfl, h1, harg⟩ := harg
  unfold ArgsRep at harg
  obtain ⟨v1, vr, S3, S4, L3, L4, rfl, rfl, rfl, h2, harg⟩ := harg
  unfold ArgsRep at harg
  obtain ⟨rfl, rfl, rfl⟩ := harg
  unfold ArgRep at h1 h2
  obtain ⟨_, ⟨cs, rfl, c1, d1, G1, H1, rfl, rfl, ⟨rfl, rfl⟩, c2, d2, G2, H2, rfl, rfl, ⟨rfl, rfl⟩, c3, d3, G3, H3, rfl, rfl, ⟨rfl, rfl⟩, rfl, rfl⟩, rfl⟩ := h1
  obtain ⟨_, rfl, b, c, T1, G, rfl, hw, ⟨v, hcv, hs⟩, rfl⟩ := h2
  have hs := hs.resolve_right bare_no
  rcases hs with ⟨_, h0, _⟩ | ⟨ad, cap, cc, T2, fz, p, m, q, G0, rfl, hsp, _, hcap, hh, hcc, hp, hr, rfl, how⟩
  · exact absurd h0 hne
  obtain ⟨hoff, hfz, hcsz, hcm⟩ := how rfl
  have hp0 : p = [] := List.eq_nil_of_length_eq_zero (by omega)
  subst hp0
  have hlp : 0 < out.length := List.length_pos_iff.2 hne
  obtain ⟨m1, m2, m3, F1, F2, F3, rfl, rfl, hm1, ⟨v2, rfl, hs2⟩, hr1, hr3, _⟩ := RepL.at (n := 1) (fun _ _ _ h => Rep.length h) ([] : List PC.El) (out.length - 1) hr (by omega)
  have hs2 := hs2.resolve_right bare_no
  simp only [List.nil_append, List.append_nil] at hL hcc ⊢
  have hblk : ad = ⟨ad.block, 0, none⟩ := by
    obtain ⟨a1, a2, a3⟩ := ad
    simp only at hoff hsp
    rw [hoff, hsp]
  generalize ad.block = g at *
  subst hblk
  have hcarr : c = #[.slice (some ⟨g, 0, none⟩) (out.length - 1 + 1) cap] := by
    apply Array.toList_inj.1
    rw [hcv]
    simp; omega
  subst hcarr
  simp only [List.nodup_cons, List.nodup_append, List.mem_cons, List.mem_append, not_or] at hL
  obtain ⟨⟨hbg, ⟨hb1, hb2⟩, hb3⟩, ⟨⟨hg1, hg2⟩, hg3⟩, ⟨n1, n2, n12⟩, n3, n123⟩ := hL
  have hq1 : out.length - 1 < cc.size := by
    have := congrArg List.length hcc
    simp at this; omega
  have hcv2 : cc[out.length - 1]? = some v2 := by
    rw [← Array.getElem?_toList, hcc]
    simp [List.append_assoc, hm1, List.getElem?_append_right]
  have hput := put_calls ht x.1 x.2.1 x.2.2.1 b g (out.length - 1) cap cc v2 _ T1 T2 fz F2 w hw hh hfz (by omega) hcv2 hs2 n2 hb2 hg2 hbg hlast
  refine Calls.mono hput ?_
  rintro e w' ⟨rfl, v3, F4, hs3, hF4, hg', ho1, ho2, ho3, hsz, hfr, hF4b⟩
  have hblt : b < w.heap.size := lt_of_heap hw
  have hglt : g < w.heap.size := lt_of_heap hh
  have hlt1 : ∀ k ∈ F1, k < w.heap.size := fun k hk => RepL.block_lt (u := .sl false PC) (fun h => Rep.block_lt h) hr1 k hk
  have hlt3 : ∀ k ∈ F3, k < w.heap.size := fun k hk => RepL.block_lt (u := .sl false PC) (fun h => Rep.block_lt h) hr3 k hk
  have hfr1 : ∀ k ∈ F1, w'.heap[k]? = w.heap[k]? := fun k hk => hfr k (hlt1 k hk) (fun e => hg1 (e ▸ hk)) (fun h => n12 k hk k h rfl)
  have hfr3 : ∀ k ∈ F3, w'.heap[k]? = w.heap[k]? := fun k hk => hfr k (hlt3 k hk) (fun e => hg3 (e ▸ hk)) (fun h => n123 k (.inr h) k hk rfl)
  have hb' : w'.heap[b]? = w.heap[b]? := hfr b hblt hbg hb2
  have k1 := RepL.imp (R := Rep w true (.sl false PC)) (S := Rep w' true (.sl false PC)) (fun x c G hG h => Rep.frame (fun k hk => hfr1 k (hG k hk)) h) hr1
  have k3 := RepL.imp (R := Rep w true (.sl false PC)) (S := Rep w' true (.sl false PC)) (fun x c G hG h => Rep.frame (fun k hk => hfr3 k (hG k hk)) h) hr3
  have k2 : RepL (Rep w' true (.sl false PC)) [out.getD (out.length - 1) [] ++ [x]] [v3] F4 := ⟨[v3], [], F4, [], by simp, by simp, ⟨v3, rfl, .inl hs3⟩, rfl, rfl⟩
  have kk := RepL.append (RepL.append k1 k2) k3
  have hset : out.take (out.length - 1) ++ [out.getD (out.length - 1) [] ++ [x]] ++ out.drop (out.length - 1 + 1) = out.set (out.length - 1) (out.getD (out.length - 1) [] ++ [x]) := by
    rw [List.set_eq_take_append_cons_drop, if_pos (by omega)]; simp
  rw [hset] at kk
  have hF41 : ∀ k ∈ F4, k ∉ F1 ∧ k ∉ F3 ∧ k ≠ g ∧ k ≠ b := by
    intro k hk
    have h5 := hF4b k hk
    refine ⟨fun h => ?_, fun h => ?_, fun h => ?_, fun h => ?_⟩
    · exact n12 k h k (h5.2 (hlt1 k h)) rfl
    · exact n123 k (.inr (h5.2 (hlt3 k h))) k h rfl
    · subst h; exact hg2 (h5.2 hglt)
    · subst h; exact hb2 (h5.2 hblt)
  refine ⟨[], [], b :: g :: (F1 ++ F4 ++ F3), rfl, ⟨rfl, rfl⟩, ?_, ?_, ?_, ho1, ho2, ho3, hsz, ?_⟩
  · change OutsRep w' [Arg.v PC x, Arg.p (.sl false (.sl false PC)) out] _ _ _
    simp only [OutsRep, OutRep]
    refine ⟨_, _, [], _, [], _, rfl, rfl, rfl, ⟨rfl, rfl⟩, _, _, _, [], _, [], rfl, (List.append_nil _).symm, (List.append_nil _).symm, ⟨_, b, _, T1, g :: (F1 ++ F4 ++ F3), rfl, rfl, hb'.trans hw, ⟨_, rfl, .inl (.inr ⟨⟨g, 0, none⟩, cap, _, T2, fz, [], m1 ++ [v3] ++ m3, q, F1 ++ F4 ++ F3, ?_, rfl, by simp, ?_, hg', ?_, rfl, kk, rfl, fun _ => ⟨rfl, ?_, ?_, hcm⟩⟩)⟩, rfl⟩, rfl, rfl⟩
    · simp; omega
    · simp; omega
    · rw [Array.toList_setIfInBounds, hcc]
      simp only [List.append_assoc]
      rw [List.set_append_right _ _ (by omega), hm1]
      simp
    · intro j hj
      rw [Array.size_setIfInBounds] at hj
      exact hfz j hj
    · rw [Array.size_setIfInBounds]; exact hcsz
  · simp only [List.nil_append, List.nodup_cons, List.nodup_append, List.mem_cons, List.mem_append, not_or]
    refine ⟨⟨hbg, ⟨hb1, fun h => (hF41 b h).2.2.2 rfl⟩, hb3⟩, ⟨⟨hg1, fun h => (hF41 g h).2.2.1 rfl⟩, hg3⟩, ⟨n1, hF4, fun i hi j hj e => (hF41 j hj).1 (e ▸ hi)⟩, n3, fun i hi j hj e => ?_⟩
    rcases hi with hi | hi
    · exact n123 i (.inl hi) j hj e
    · exact (hF41 i hi).2.1 (e ▸ hj)
  · intro k hk
    simp only [List.nil_append, List.mem_cons, List.mem_append] at hk ⊢
    rcases hk with rfl | rfl | (hk | hk) | hk
    · exact ⟨by omega, fun _ => .inl rfl⟩
    · exact ⟨by omega, fun _ => .inr (.inl rfl)⟩
    · exact ⟨by have := hlt1 k hk; omega, fun _ => .inr (.inr (.inl (.inl hk)))⟩
    · exact ⟨(hF4b k hk).1, fun h => .inr (.inr (.inl (.inr ((hF4b k hk).2 h))))⟩
    · exact ⟨by have := hlt3 k hk; omega, fun _ => .inr (.inr (.inr hk))⟩
  · intro k hk hkL
    simp only [List.mem_cons, List.mem_append, not_or] at hkL
    exact hfr k hk hkL.2.1 hkL.2.2.1.2
end


/-! loop.example/g00039/impl.alternatives -/
def impl_alternatives.T : List Ctr := [impl_printed.spec, strings_IndexByte.spec, impl_alternatives_1.spec]
def impl_alternatives.md : List (Nat × List Md) := [(206, [.v, .p (.sl false (.sl false (.pair (.int .u8) (.pair .bool (.pair .bool .unit)))))]), (1000206, [.p (.sl false (.sl false (.pair (.int .u8) (.pair .bool (.pair .bool .unit)))))])]
noncomputable def impl_alternatives.F : Fun := ⟨(Go.Proofs.Tryz.f200.body).getD .skip, [.v .str], [(.tmp 2, (.sl false (.sl false (.pair (.int .u8) (.pair .bool (.pair .bool .unit)))))), (.tmp 3, .bool)], [], 0, [(19, ⟨[0, 4, 5, 6], [], [(4, 0, (.sl false (.pair (.int .u8) (.pair .bool (.pair .bool .unit)))))], false⟩), (51, ⟨[0, 4, 5, 6, 56], [], [(4, 0, (.sl false (.pair (.int .u8) (.pair .bool (.pair .bool .unit)))))], false⟩)]⟩
inductive impl_alternatives.Pt where
  | p0 (a0 : ByteArray)
  | p19 (y1 : ByteArray) (y2 : Int) (y3 : List (List ((Int) × ((Bool) × ((Bool) × (Unit))))))
  | p51 (y1 : ByteArray) (y2 : Int) (y3 : Bool) (y4 : List (List ((Int) × ((Bool) × ((Bool) × (Unit))))))
def impl_alternatives.lb : impl_alternatives.Pt → Nat
  | .p0 _ => 0
  | .p19 _ _ _ => 19
  | .p51 _ _ _ _ => 51
def impl_alternatives.st : impl_alternatives.Pt → St
  | .p0 a0 => enter [.v .str a0] 0
  | .p19 y1 y2 y3 => ⟨[(0, .im .str y1), (4, .po 0 0), (5, .fn 206 [.po 0 0]), (6, .im (.int .i64) y2)], [(0, .obj [.hs 1 [] none 0]), (1, .arr false (.sl false (.pair (.int .u8) (.pair .bool (.pair .bool .unit)))) y3 0)], 2⟩
  | .p51 y1 y2 y3 y4 => ⟨[(0, .im .str y1), (4, .po 0 0), (5, .fn 206 [.po 0 0]), (6, .im (.int .i64) y2), (56, .im .bool y3)], [(0, .obj [.hs 1 [] none 0]), (1, .arr false (.sl false (.pair (.int .u8) (.pair .bool (.pair .bool .unit)))) y4 0)], 2⟩
def impl_alternatives.step (n : Nat) (K : impl_alternatives.Pt → Option (Tup [(.sl false (.sl false (.pair (.int .u8) (.pair .bool (.pair .bool .unit))))), .bool])) : impl_alternatives.Pt → Option (Tup [(.sl false (.sl false (.pair (.int .u8) (.pair .bool (.pair .bool .unit))))), .bool])
  | .p0 a0 => (impl_printed n a0 (100 : Int)).bind fun r4 => cond (!r4) (some (([] : List (List ((Int) × ((Bool) × ((Bool) × (Unit)))))), false)) (K (.p19 a0 (0 : Int) [([] : List ((Int) × ((Bool) × ((Bool) × (Unit)))))]))
  | .p19 y1 y2 y3 => cond (decide (y2 < ((ByteArray.size y1) : Int))) (cond (inB y2 (ByteArray.size y1)) (cond (decide ((bt y1 y2) = (124 : Int))) (cond (room ((List.length y3) + (List.length [([] : List ((Int) × ((Bool) × ((Bool) × (Unit)))))]))) (K (.p19 y1 (IntKind.wrap .i64 (y2 + (1 : Int))) (y3 ++ [([] : List ((Int) × ((Bool) × ((Bool) × (Unit)))))]))) (none)) (cond (decide ((bt y1 y2) = (42 : Int))) ((impl_alternatives_1 n ((default : Int), ((default : Bool), (true, ()))) y3).bind fun r6 => K (.p19 y1 (IntKind.wrap .i64 (y2 + (1 : Int))) r6)) (cond (decide ((bt y1 y2) = (63 : Int))) ((impl_alternatives_1 n ((default : Int), (true, (default : (Bool) × (Unit)))) y3).bind fun r6 => K (.p19 y1 (IntKind.wrap .i64 (y2 + (1 : Int))) r6)) (cond (decide ((bt y1 y2) = (92 : Int))) (cond (decide ((IntKind.wrap .i64 (y2 + (1 : Int))) = ((ByteArray.size y1) : Int))) (K (.p51 y1 (IntKind.wrap .i64 (y2 + (1 : Int))) true y3)) (cond (inB (IntKind.wrap .i64 (y2 + (1 : Int))) (ByteArray.size y1)) ((strings_IndexByte n (⟨#[42, 63, 124, 92]⟩ : ByteArray) (bt y1 (IntKind.wrap .i64 (y2 + (1 : Int))))).bind fun (r6 : Int) => K (.p51 y1 (IntKind.wrap .i64 (y2 + (1 : Int))) (decide (r6 < (0 : Int))) y3)) (none))) ((impl_alternatives_1 n ((bt y1 y2), (default : (Bool) × ((Bool) × (Unit)))) y3).bind fun r6 => K (.p19 y1 (IntKind.wrap .i64 (y2 + (1 : Int))) r6)))))) (none)) (some (y3, true))
  | .p51 y1 y2 y3 y4 => cond y3 (some (([] : List (List ((Int) × ((Bool) × ((Bool) × (Unit)))))), false)) (cond (inB y2 (ByteArray.size y1)) ((impl_alternatives_1 n ((bt y1 y2), (default : (Bool) × ((Bool) × (Unit)))) y4).bind fun r7 => K (.p19 y1 (IntKind.wrap .i64 (y2 + (1 : Int))) r7)) (none))
def impl_alternatives (n : Nat) (a0 : ByteArray) : Option (Tup [(.sl false (.sl false (.pair (.int .u8) (.pair .bool (.pair .bool .unit))))), .bool]) := goRec impl_alternatives.step n (.p0 a0)
def impl_alternatives.spec : Ctr := ⟨200, [.v .str], [(.sl false (.sl false (.pair (.int .u8) (.pair .bool (.pair .bool .unit))))), .bool], [], fun n x => impl_alternatives n x.1⟩
theorem impl_alternatives.seg_eq : SegEq ty gl impl_alternatives.F impl_alternatives.md impl_alternatives.T impl_alternatives.spec impl_alternatives.lb impl_alternatives.st impl_alternatives.step := by
  intro n goto y; cases y <;> kernel_rfl
theorem impl_alternatives.text : Text Go.Proofs.Tryz.prog impl_alternatives.F impl_alternatives.spec := textOf Go.Proofs.Tryz.f200
theorem impl_alternatives.ok : CtrOK Go.Proofs.Tryz.prog gl impl_alternatives.spec :=
  ctr_okS tabs impl_alternatives.text impl_alternatives.seg_eq (fun n x => ⟨.p0 x.1, rfl, rfl, rfl⟩) (consC impl_printed.ok (consC strings_IndexByte.ok (consC impl_alternatives_1.ok (nilC))))

/-! loop.example/g00039/impl.GoodPattern -/
def impl_GoodPattern.T : List Ctr := [impl_alternatives.spec]
def impl_GoodPattern.md : List (Nat × List Md) := []
noncomputable def impl_GoodPattern.F : Fun := ⟨(Go.Proofs.Tryz.f182.body).getD .skip, [.v .str], [(.tmp 2, .bool)], [], 0, []⟩
inductive impl_GoodPattern.Pt where
  | p0 (a0 : ByteArray)
def impl_GoodPattern.lb : impl_GoodPattern.Pt → Nat
  | .p0 _ => 0
def impl_GoodPattern.st : impl_GoodPattern.Pt → St
  | .p0 a0 => enter [.v .str a0] 0
def impl_GoodPattern.step (n : Nat) (K : impl_GoodPattern.Pt → Option (Tup [.bool])) : impl_GoodPattern.Pt → Option (Tup [.bool])
  | .p0 a0 => (impl_alternatives n a0).bind fun r4 => some r4.2
def impl_GoodPattern (n : Nat) (a0 : ByteArray) : Option (Tup [.bool]) := goRec impl_GoodPattern.step n (.p0 a0)
def impl_GoodPattern.spec : Ctr := ⟨182, [.v .str], [.bool], [], fun n x => impl_GoodPattern n x.1⟩
theorem impl_GoodPattern.seg_eq : SegEq ty gl impl_GoodPattern.F impl_GoodPattern.md impl_GoodPattern.T impl_GoodPattern.spec impl_GoodPattern.lb impl_GoodPattern.st impl_GoodPattern.step := by
  intro n goto y; cases y <;> kernel_rfl
theorem impl_GoodPattern.text : Text Go.Proofs.Tryz.prog impl_GoodPattern.F impl_GoodPattern.spec := textOf Go.Proofs.Tryz.f182
theorem impl_GoodPattern.ok : CtrOK Go.Proofs.Tryz.prog gl impl_GoodPattern.spec :=
  ctr_okS tabs impl_GoodPattern.text impl_GoodPattern.seg_eq (fun n x => ⟨.p0 x.1, rfl, rfl, rfl⟩) (consC impl_alternatives.ok (nilC))

/-! loop.example/g00039/impl.goodMatcher -/
def impl_goodMatcher.T : List Ctr := [impl_isName.spec, impl_printed.spec, impl_GoodPattern.spec]
def impl_goodMatcher.md : List (Nat × List Md) := []
noncomputable def impl_goodMatcher.F : Fun := ⟨(Go.Proofs.Tryz.f142.body).getD .skip, [.v (.pair .str (.pair (.int .i64) (.pair .str .unit)))], [(.tmp 2, .bool)], [], 0, [(4, ⟨[1, 22], [], [], false⟩)]⟩
inductive impl_goodMatcher.Pt where
  | p0 (a0 : (ByteArray) × ((Int) × ((ByteArray) × (Unit))))
  | p4 (y1 : Bool) (y2 : ByteArray) (y3 : Int) (y4 : ByteArray)
def impl_goodMatcher.lb : impl_goodMatcher.Pt → Nat
  | .p0 _ => 0
  | .p4 _ _ _ _ => 4
def impl_goodMatcher.st : impl_goodMatcher.Pt → St
  | .p0 a0 => enter [.v (.pair .str (.pair (.int .i64) (.pair .str .unit))) a0] 0
  | .p4 y1 y2 y3 y4 => ⟨[(1, .po 0 0), (22, .im .bool y1)], [(0, .obj [.im .str y2, .im (.int .i64) y3, .im .str y4])], 1⟩
def impl_goodMatcher.step (n : Nat) (K : impl_goodMatcher.Pt → Option (Tup [.bool])) : impl_goodMatcher.Pt → Option (Tup [.bool])
  | .p0 a0 => (impl_isName n a0.1).bind fun r4 => cond (!r4) (K (.p4 true a0.1 a0.2.1 a0.2.2.1)) (cond (decide (a0.2.1 < (1 : Int))) (K (.p4 true a0.1 a0.2.1 a0.2.2.1)) (cond (decide ((4 : Int) < a0.2.1)) (K (.p4 true a0.1 a0.2.1 a0.2.2.1)) ((impl_printed n a0.2.2.1 (100 : Int)).bind fun r5 => K (.p4 (!r5) a0.1 a0.2.1 a0.2.2.1))))
  | .p4 y1 y2 y3 y4 => cond y1 (some false) (cond (decide (y3 < (3 : Int))) (some true) ((impl_GoodPattern n y4).bind fun r7 => some r7))
def impl_goodMatcher (n : Nat) (a0 : (ByteArray) × ((Int) × ((ByteArray) × (Unit)))) : Option (Tup [.bool]) := goRec impl_goodMatcher.step n (.p0 a0)
def impl_goodMatcher.spec : Ctr := ⟨142, [.v (.pair .str (.pair (.int .i64) (.pair .str .unit)))], [.bool], [], fun n x => impl_goodMatcher n x.1⟩
theorem impl_goodMatcher.seg_eq : SegEq ty gl impl_goodMatcher.F impl_goodMatcher.md impl_goodMatcher.T impl_goodMatcher.spec impl_goodMatcher.lb impl_goodMatcher.st impl_goodMatcher.step := by
  intro n goto y; cases y <;> kernel_rfl
theorem impl_goodMatcher.text : Text Go.Proofs.Tryz.prog impl_goodMatcher.F impl_goodMatcher.spec := textOf Go.Proofs.Tryz.f142
theorem impl_goodMatcher.ok : CtrOK Go.Proofs.Tryz.prog gl impl_goodMatcher.spec :=
  ctr_okS tabs impl_goodMatcher.text impl_goodMatcher.seg_eq (fun n x => ⟨.p0 x.1, rfl, rfl, rfl⟩) (consC impl_isName.ok (consC impl_printed.ok (consC impl_GoodPattern.ok (nilC))))

/-! loop.example/g00039/impl.GoodMatchers$1 -/
def impl_GoodMatchers_1.T : List Ctr := [impl_goodMatcher.spec]
def impl_GoodMatchers_1.md : List (Nat × List Md) := []
noncomputable def impl_GoodMatchers_1.F : Fun := ⟨(Go.Proofs.Tryz.f141.body).getD .skip, [.v (.pair .str (.pair (.int .i64) (.pair .str .unit)))], [(.tmp 2, .bool)], [], 0, []⟩
inductive impl_GoodMatchers_1.Pt where
  | p0 (a0 : (ByteArray) × ((Int) × ((ByteArray) × (Unit))))
def impl_GoodMatchers_1.lb : impl_GoodMatchers_1.Pt → Nat
  | .p0 _ => 0
def impl_GoodMatchers_1.st : impl_GoodMatchers_1.Pt → St
  | .p0 a0 => enter [.v (.pair .str (.pair (.int .i64) (.pair .str .unit))) a0] 0
def impl_GoodMatchers_1.step (n : Nat) (K : impl_GoodMatchers_1.Pt → Option (Tup [.bool])) : impl_GoodMatchers_1.Pt → Option (Tup [.bool])
  | .p0 a0 => (impl_goodMatcher n a0).bind fun r4 => some (!r4)
def impl_GoodMatchers_1 (n : Nat) (a0 : (ByteArray) × ((Int) × ((ByteArray) × (Unit)))) : Option (Tup [.bool]) := goRec impl_GoodMatchers_1.step n (.p0 a0)
def impl_GoodMatchers_1.spec : Ctr := ⟨141, [.v (.pair .str (.pair (.int .i64) (.pair .str .unit)))], [.bool], [], fun n x => impl_GoodMatchers_1 n x.1⟩
theorem impl_GoodMatchers_1.seg_eq : SegEq ty gl impl_GoodMatchers_1.F impl_GoodMatchers_1.md impl_GoodMatchers_1.T impl_GoodMatchers_1.spec impl_GoodMatchers_1.lb impl_GoodMatchers_1.st impl_GoodMatchers_1.step := by
  intro n goto y; cases y <;> kernel_rfl
theorem impl_GoodMatchers_1.text : Text Go.Proofs.Tryz.prog impl_GoodMatchers_1.F impl_GoodMatchers_1.spec := textOf Go.Proofs.Tryz.f141
theorem impl_GoodMatchers_1.ok : CtrOK Go.Proofs.Tryz.prog gl impl_GoodMatchers_1.spec :=
  ctr_okS tabs impl_GoodMatchers_1.text impl_GoodMatchers_1.seg_eq (fun n x => ⟨.p0 x.1, rfl, rfl, rfl⟩) (consC impl_goodMatcher.ok (nilC))

/-! slices.IndexFunc[[]loop.example/g00039/impl.Matcher,loop.example/g00039/impl.Matcher] -/
def slices_IndexFunc_Matcher_impl_GoodMatchers_1.T : List Ctr := [impl_GoodMatchers_1.spec]
def slices_IndexFunc_Matcher_impl_GoodMatchers_1.md : List (Nat × List Md) := []
noncomputable def slices_IndexFunc_Matcher_impl_GoodMatchers_1.F : Fun := ⟨(Go.Proofs.Tryz.f181.body).getD .skip, [.v (.sl false (.pair .str (.pair (.int .i64) (.pair .str .unit)))), .fn 141 []], [(.tmp 4, (.int .i64))], [], 0, [(7, ⟨[0, 1, 7, 8], [], [], false⟩)]⟩
inductive slices_IndexFunc_Matcher_impl_GoodMatchers_1.Pt where
  | p0 (a0 : List ((ByteArray) × ((Int) × ((ByteArray) × (Unit)))))
  | p7 (y1 : List ((ByteArray) × ((Int) × ((ByteArray) × (Unit))))) (y2 : Int) (y3 : Int)
def slices_IndexFunc_Matcher_impl_GoodMatchers_1.lb : slices_IndexFunc_Matcher_impl_GoodMatchers_1.Pt → Nat
  | .p0 _ => 0
  | .p7 _ _ _ => 7
def slices_IndexFunc_Matcher_impl_GoodMatchers_1.st : slices_IndexFunc_Matcher_impl_GoodMatchers_1.Pt → St
  | .p0 a0 => enter [.v (.sl false (.pair .str (.pair (.int .i64) (.pair .str .unit)))) a0, .fn 141 []] 0
  | .p7 y1 y2 y3 => ⟨[(0, .im (.sl false (.pair .str (.pair (.int .i64) (.pair .str .unit)))) y1), (1, .fn 141 []), (7, .im (.int .i64) y2), (8, .im (.int .i64) y3)], [], 0⟩
def slices_IndexFunc_Matcher_impl_GoodMatchers_1.step (n : Nat) (K : slices_IndexFunc_Matcher_impl_GoodMatchers_1.Pt → Option (Tup [(.int .i64)])) : slices_IndexFunc_Matcher_impl_GoodMatchers_1.Pt → Option (Tup [(.int .i64)])
  | .p0 a0 => K (.p7 a0 ((List.length a0) : Int) (0 : Int))
  | .p7 y1 y2 y3 => cond (decide (y3 < y2)) (cond (inB y3 (List.length y1)) ((impl_GoodMatchers_1 n (List.getD y1 (Int.toNat y3) default)).bind fun r6 => cond r6 (some y3) (K (.p7 y1 y2 (IntKind.wrap .i64 (y3 + (1 : Int)))))) (none)) (some (-(1 : Int)))
def slices_IndexFunc_Matcher_impl_GoodMatchers_1 (n : Nat) (a0 : List ((ByteArray) × ((Int) × ((ByteArray) × (Unit))))) : Option (Tup [(.int .i64)]) := goRec slices_IndexFunc_Matcher_impl_GoodMatchers_1.step n (.p0 a0)
def slices_IndexFunc_Matcher_impl_GoodMatchers_1.spec : Ctr := ⟨181, [.v (.sl false (.pair .str (.pair (.int .i64) (.pair .str .unit)))), .fn 141 []], [(.int .i64)], [], fun n x => slices_IndexFunc_Matcher_impl_GoodMatchers_1 n x.1⟩
theorem slices_IndexFunc_Matcher_impl_GoodMatchers_1.seg_eq : SegEq ty gl slices_IndexFunc_Matcher_impl_GoodMatchers_1.F slices_IndexFunc_Matcher_impl_GoodMatchers_1.md slices_IndexFunc_Matcher_impl_GoodMatchers_1.T slices_IndexFunc_Matcher_impl_GoodMatchers_1.spec slices_IndexFunc_Matcher_impl_GoodMatchers_1.lb slices_IndexFunc_Matcher_impl_GoodMatchers_1.st slices_IndexFunc_Matcher_impl_GoodMatchers_1.step := by
  intro n goto y; cases y <;> kernel_rfl
theorem slices_IndexFunc_Matcher_impl_GoodMatchers_1.text : Text Go.Proofs.Tryz.prog slices_IndexFunc_Matcher_impl_GoodMatchers_1.F slices_IndexFunc_Matcher_impl_GoodMatchers_1.spec := textOf Go.Proofs.Tryz.f181
theorem slices_IndexFunc_Matcher_impl_GoodMatchers_1.ok : CtrOK Go.Proofs.Tryz.prog gl slices_IndexFunc_Matcher_impl_GoodMatchers_1.spec :=
  ctr_okS tabs slices_IndexFunc_Matcher_impl_GoodMatchers_1.text slices_IndexFunc_Matcher_impl_GoodMatchers_1.seg_eq (fun n x => ⟨.p0 x.1, rfl, rfl, rfl⟩) (consC impl_GoodMatchers_1.ok (nilC))

/-! slices.ContainsFunc[[]loop.example/g00039/impl.Matcher,loop.example/g00039/impl.Matcher] -/
def slices_ContainsFunc_Matcher_impl_GoodMatchers_1.T : List Ctr := [slices_IndexFunc_Matcher_impl_GoodMatchers_1.spec]
def slices_ContainsFunc_Matcher_impl_GoodMatchers_1.md : List (Nat × List Md) := [(181, [.v, .fn])]
noncomputable def slices_ContainsFunc_Matcher_impl_GoodMatchers_1.F : Fun := ⟨(Go.Proofs.Tryz.f140.body).getD .skip, [.v (.sl false (.pair .str (.pair (.int .i64) (.pair .str .unit)))), .fn 141 []], [(.tmp 4, .bool)], [], 0, []⟩
inductive slices_ContainsFunc_Matcher_impl_GoodMatchers_1.Pt where
  | p0 (a0 : List ((ByteArray) × ((Int) × ((ByteArray) × (Unit)))))
def slices_ContainsFunc_Matcher_impl_GoodMatchers_1.lb : slices_ContainsFunc_Matcher_impl_GoodMatchers_1.Pt → Nat
  | .p0 _ => 0
def slices_ContainsFunc_Matcher_impl_GoodMatchers_1.st : slices_ContainsFunc_Matcher_impl_GoodMatchers_1.Pt → St
  | .p0 a0 => enter [.v (.sl false (.pair .str (.pair (.int .i64) (.pair .str .unit)))) a0, .fn 141 []] 0
def slices_ContainsFunc_Matcher_impl_GoodMatchers_1.step (n : Nat) (K : slices_ContainsFunc_Matcher_impl_GoodMatchers_1.Pt → Option (Tup [.bool])) : slices_ContainsFunc_Matcher_impl_GoodMatchers_1.Pt → Option (Tup [.bool])
  | .p0 a0 => (slices_IndexFunc_Matcher_impl_GoodMatchers_1 n a0).bind fun (r4 : Int) => some (decide ((0 : Int) ≤ r4))
def slices_ContainsFunc_Matcher_impl_GoodMatchers_1 (n : Nat) (a0 : List ((ByteArray) × ((Int) × ((ByteArray) × (Unit))))) : Option (Tup [.bool]) := goRec slices_ContainsFunc_Matcher_impl_GoodMatchers_1.step n (.p0 a0)
def slices_ContainsFunc_Matcher_impl_GoodMatchers_1.spec : Ctr := ⟨140, [.v (.sl false (.pair .str (.pair (.int .i64) (.pair .str .unit)))), .fn 141 []], [.bool], [], fun n x => slices_ContainsFunc_Matcher_impl_GoodMatchers_1 n x.1⟩
theorem slices_ContainsFunc_Matcher_impl_GoodMatchers_1.seg_eq : SegEq ty gl slices_ContainsFunc_Matcher_impl_GoodMatchers_1.F slices_ContainsFunc_Matcher_impl_GoodMatchers_1.md slices_ContainsFunc_Matcher_impl_GoodMatchers_1.T slices_ContainsFunc_Matcher_impl_GoodMatchers_1.spec slices_ContainsFunc_Matcher_impl_GoodMatchers_1.lb slices_ContainsFunc_Matcher_impl_GoodMatchers_1.st slices_ContainsFunc_Matcher_impl_GoodMatchers_1.step := by
  intro n goto y; cases y <;> kernel_rfl
theorem slices_ContainsFunc_Matcher_impl_GoodMatchers_1.text : Text Go.Proofs.Tryz.prog slices_ContainsFunc_Matcher_impl_GoodMatchers_1.F slices_ContainsFunc_Matcher_impl_GoodMatchers_1.spec := textOf Go.Proofs.Tryz.f140
theorem slices_ContainsFunc_Matcher_impl_GoodMatchers_1.ok : CtrOK Go.Proofs.Tryz.prog gl slices_ContainsFunc_Matcher_impl_GoodMatchers_1.spec :=
  ctr_okS tabs slices_ContainsFunc_Matcher_impl_GoodMatchers_1.text slices_ContainsFunc_Matcher_impl_GoodMatchers_1.seg_eq (fun n x => ⟨.p0 x.1, rfl, rfl, rfl⟩) (consC slices_IndexFunc_Matcher_impl_GoodMatchers_1.ok (nilC))

/-! loop.example/g00039/impl.GoodMatchers -/
def impl_GoodMatchers.T : List Ctr := [impl_GoodMatchers_1.spec, slices_ContainsFunc_Matcher_impl_GoodMatchers_1.spec]
def impl_GoodMatchers.md : List (Nat × List Md) := [(140, [.v, .fn])]
noncomputable def impl_GoodMatchers.F : Fun := ⟨(Go.Proofs.Tryz.f93.body).getD .skip, [.v (.sl false (.pair .str (.pair (.int .i64) (.pair .str .unit))))], [(.tmp 2, .bool)], [], 0, []⟩
inductive impl_GoodMatchers.Pt where
  | p0 (a0 : List ((ByteArray) × ((Int) × ((ByteArray) × (Unit)))))
def impl_GoodMatchers.lb : impl_GoodMatchers.Pt → Nat
  | .p0 _ => 0
def impl_GoodMatchers.st : impl_GoodMatchers.Pt → St
  | .p0 a0 => enter [.v (.sl false (.pair .str (.pair (.int .i64) (.pair .str .unit)))) a0] 0
def impl_GoodMatchers.step (n : Nat) (K : impl_GoodMatchers.Pt → Option (Tup [.bool])) : impl_GoodMatchers.Pt → Option (Tup [.bool])
  | .p0 a0 => cond (decide (((List.length a0) : Int) ≤ (10 : Int))) ((slices_ContainsFunc_Matcher_impl_GoodMatchers_1 n a0).bind fun r4 => some (!r4)) (some false)
def impl_GoodMatchers (n : Nat) (a0 : List ((ByteArray) × ((Int) × ((ByteArray) × (Unit))))) : Option (Tup [.bool]) := goRec impl_GoodMatchers.step n (.p0 a0)
def impl_GoodMatchers.spec : Ctr := ⟨93, [.v (.sl false (.pair .str (.pair (.int .i64) (.pair .str .unit))))], [.bool], [], fun n x => impl_GoodMatchers n x.1⟩
theorem impl_GoodMatchers.seg_eq : SegEq ty gl impl_GoodMatchers.F impl_GoodMatchers.md impl_GoodMatchers.T impl_GoodMatchers.spec impl_GoodMatchers.lb impl_GoodMatchers.st impl_GoodMatchers.step := by
  intro n goto y; cases y <;> kernel_rfl
theorem impl_GoodMatchers.text : Text Go.Proofs.Tryz.prog impl_GoodMatchers.F impl_GoodMatchers.spec := textOf Go.Proofs.Tryz.f93
theorem impl_GoodMatchers.ok : CtrOK Go.Proofs.Tryz.prog gl impl_GoodMatchers.spec :=
  ctr_okS tabs impl_GoodMatchers.text impl_GoodMatchers.seg_eq (fun n x => ⟨.p0 x.1, rfl, rfl, rfl⟩) (consC impl_GoodMatchers_1.ok (consC slices_ContainsFunc_Matcher_impl_GoodMatchers_1.ok (nilC)))

/-! loop.example/g00039/impl.rising[string] -/
def impl_rising_string.T : List Ctr := []
def impl_rising_string.md : List (Nat × List Md) := []
noncomputable def impl_rising_string.F : Fun := ⟨(Go.Proofs.Tryz.f144.body).getD .skip, [.v (.sl false .str)], [(.tmp 2, .bool)], [], 0, [(7, ⟨[0, 3], [], [], false⟩)]⟩
inductive impl_rising_string.Pt where
  | p0 (a0 : List (ByteArray))
  | p7 (y1 : List (ByteArray)) (y2 : Int)
def impl_rising_string.lb : impl_rising_string.Pt → Nat
  | .p0 _ => 0
  | .p7 _ _ => 7
def impl_rising_string.st : impl_rising_string.Pt → St
  | .p0 a0 => enter [.v (.sl false .str) a0] 0
  | .p7 y1 y2 => ⟨[(0, .im (.sl false .str) y1), (3, .im (.int .i64) y2)], [], 0⟩
def impl_rising_string.step (n : Nat) (K : impl_rising_string.Pt → Option (Tup [.bool])) : impl_rising_string.Pt → Option (Tup [.bool])
  | .p0 a0 => K (.p7 a0 (1 : Int))
  | .p7 y1 y2 => cond (decide (y2 < ((List.length y1) : Int))) (cond (inB (IntKind.wrap .i64 (y2 - (1 : Int))) (List.length y1)) (cond (inB y2 (List.length y1)) (cond (!(slt (List.getD y1 (Int.toNat (IntKind.wrap .i64 (y2 - (1 : Int)))) default) (List.getD y1 (Int.toNat y2) default))) (some false) (K (.p7 y1 (IntKind.wrap .i64 (y2 + (1 : Int)))))) (none)) (none)) (some true)
def impl_rising_string (n : Nat) (a0 : List (ByteArray)) : Option (Tup [.bool]) := goRec impl_rising_string.step n (.p0 a0)
def impl_rising_string.spec : Ctr := ⟨144, [.v (.sl false .str)], [.bool], [], fun n x => impl_rising_string n x.1⟩
theorem impl_rising_string.seg_eq : SegEq ty gl impl_rising_string.F impl_rising_string.md impl_rising_string.T impl_rising_string.spec impl_rising_string.lb impl_rising_string.st impl_rising_string.step := by
  intro n goto y; cases y <;> kernel_rfl
theorem impl_rising_string.text : Text Go.Proofs.Tryz.prog impl_rising_string.F impl_rising_string.spec := textOf Go.Proofs.Tryz.f144
theorem impl_rising_string.ok : CtrOK Go.Proofs.Tryz.prog gl impl_rising_string.spec :=
  ctr_okS tabs impl_rising_string.text impl_rising_string.seg_eq (fun n x => ⟨.p0 x.1, rfl, rfl, rfl⟩) (nilC)

/-! loop.example/g00039/impl.goodNames$1 -/
def impl_goodNames_1.T : List Ctr := [impl_isName.spec]
def impl_goodNames_1.md : List (Nat × List Md) := []
noncomputable def impl_goodNames_1.F : Fun := ⟨(Go.Proofs.Tryz.f146.body).getD .skip, [.v .str], [(.tmp 2, .bool)], [], 0, []⟩
inductive impl_goodNames_1.Pt where
  | p0 (a0 : ByteArray)
def impl_goodNames_1.lb : impl_goodNames_1.Pt → Nat
  | .p0 _ => 0
def impl_goodNames_1.st : impl_goodNames_1.Pt → St
  | .p0 a0 => enter [.v .str a0] 0
def impl_goodNames_1.step (n : Nat) (K : impl_goodNames_1.Pt → Option (Tup [.bool])) : impl_goodNames_1.Pt → Option (Tup [.bool])
  | .p0 a0 => (impl_isName n a0).bind fun r4 => some (!r4)
def impl_goodNames_1 (n : Nat) (a0 : ByteArray) : Option (Tup [.bool]) := goRec impl_goodNames_1.step n (.p0 a0)
def impl_goodNames_1.spec : Ctr := ⟨146, [.v .str], [.bool], [], fun n x => impl_goodNames_1 n x.1⟩
theorem impl_goodNames_1.seg_eq : SegEq ty gl impl_goodNames_1.F impl_goodNames_1.md impl_goodNames_1.T impl_goodNames_1.spec impl_goodNames_1.lb impl_goodNames_1.st impl_goodNames_1.step := by
  intro n goto y; cases y <;> kernel_rfl
theorem impl_goodNames_1.text : Text Go.Proofs.Tryz.prog impl_goodNames_1.F impl_goodNames_1.spec := textOf Go.Proofs.Tryz.f146
theorem impl_goodNames_1.ok : CtrOK Go.Proofs.Tryz.prog gl impl_goodNames_1.spec :=
  ctr_okS tabs impl_goodNames_1.text impl_goodNames_1.seg_eq (fun n x => ⟨.p0 x.1, rfl, rfl, rfl⟩) (consC impl_isName.ok (nilC))

/-! slices.IndexFunc[[]string,string] -/
def slices_IndexFunc_string_impl_goodNames_1.T : List Ctr := [impl_goodNames_1.spec]
def slices_IndexFunc_string_impl_goodNames_1.md : List (Nat × List Md) := []
noncomputable def slices_IndexFunc_string_impl_goodNames_1.F : Fun := ⟨(Go.Proofs.Tryz.f183.body).getD .skip, [.v (.sl false .str), .fn 146 []], [(.tmp 4, (.int .i64))], [], 0, [(7, ⟨[0, 1, 7, 8], [], [], false⟩)]⟩
inductive slices_IndexFunc_string_impl_goodNames_1.Pt where
  | p0 (a0 : List (ByteArray))
  | p7 (y1 : List (ByteArray)) (y2 : Int) (y3 : Int)
def slices_IndexFunc_string_impl_goodNames_1.lb : slices_IndexFunc_string_impl_goodNames_1.Pt → Nat
  | .p0 _ => 0
  | .p7 _ _ _ => 7
def slices_IndexFunc_string_impl_goodNames_1.st : slices_IndexFunc_string_impl_goodNames_1.Pt → St
  | .p0 a0 => enter [.v (.sl false .str) a0, .fn 146 []] 0
  | .p7 y1 y2 y3 => ⟨[(0, .im (.sl false .str) y1), (1, .fn 146 []), (7, .im (.int .i64) y2), (8, .im (.int .i64) y3)], [], 0⟩
def slices_IndexFunc_string_impl_goodNames_1.step (n : Nat) (K : slices_IndexFunc_string_impl_goodNames_1.Pt → Option (Tup [(.int .i64)])) : slices_IndexFunc_string_impl_goodNames_1.Pt → Option (Tup [(.int .i64)])
  | .p0 a0 => K (.p7 a0 ((List.length a0) : Int) (0 : Int))
  | .p7 y1 y2 y3 => cond (decide (y3 < y2)) (cond (inB y3 (List.length y1)) ((impl_goodNames_1 n (List.getD y1 (Int.toNat y3) default)).bind fun r6 => cond r6 (some y3) (K (.p7 y1 y2 (IntKind.wrap .i64 (y3 + (1 : Int)))))) (none)) (some (-(1 : Int)))
def slices_IndexFunc_string_impl_goodNames_1 (n : Nat) (a0 : List (ByteArray)) : Option (Tup [(.int .i64)]) := goRec slices_IndexFunc_string_impl_goodNames_1.step n (.p0 a0)
def slices_IndexFunc_string_impl_goodNames_1.spec : Ctr := ⟨183, [.v (.sl false .str), .fn 146 []], [(.int .i64)], [], fun n x => slices_IndexFunc_string_impl_goodNames_1 n x.1⟩
theorem slices_IndexFunc_string_impl_goodNames_1.seg_eq : SegEq ty gl slices_IndexFunc_string_impl_goodNames_1.F slices_IndexFunc_string_impl_goodNames_1.md slices_IndexFunc_string_impl_goodNames_1.T slices_IndexFunc_string_impl_goodNames_1.spec slices_IndexFunc_string_impl_goodNames_1.lb slices_IndexFunc_string_impl_goodNames_1.st slices_IndexFunc_string_impl_goodNames_1.step := by
  intro n goto y; cases y <;> kernel_rfl
theorem slices_IndexFunc_string_impl_goodNames_1.text : Text Go.Proofs.Tryz.prog slices_IndexFunc_string_impl_goodNames_1.F slices_IndexFunc_string_impl_goodNames_1.spec := textOf Go.Proofs.Tryz.f183
theorem slices_IndexFunc_string_impl_goodNames_1.ok : CtrOK Go.Proofs.Tryz.prog gl slices_IndexFunc_string_impl_goodNames_1.spec :=
  ctr_okS tabs slices_IndexFunc_string_impl_goodNames_1.text slices_IndexFunc_string_impl_goodNames_1.seg_eq (fun n x => ⟨.p0 x.1, rfl, rfl, rfl⟩) (consC impl_goodNames_1.ok (nilC))

/-! slices.ContainsFunc[[]string,string] -/
def slices_ContainsFunc_string_impl_goodNames_1.T : List Ctr := [slices_IndexFunc_string_impl_goodNames_1.spec]
def slices_ContainsFunc_string_impl_goodNames_1.md : List (Nat × List Md) := [(183, [.v, .fn])]
noncomputable def slices_ContainsFunc_string_impl_goodNames_1.F : Fun := ⟨(Go.Proofs.Tryz.f145.body).getD .skip, [.v (.sl false .str), .fn 146 []], [(.tmp 4, .bool)], [], 0, []⟩
inductive slices_ContainsFunc_string_impl_goodNames_1.Pt where
  | p0 (a0 : List (ByteArray))
def slices_ContainsFunc_string_impl_goodNames_1.lb : slices_ContainsFunc_string_impl_goodNames_1.Pt → Nat
  | .p0 _ => 0
def slices_ContainsFunc_string_impl_goodNames_1.st : slices_ContainsFunc_string_impl_goodNames_1.Pt → St
  | .p0 a0 => enter [.v (.sl false .str) a0, .fn 146 []] 0
def slices_ContainsFunc_string_impl_goodNames_1.step (n : Nat) (K : slices_ContainsFunc_string_impl_goodNames_1.Pt → Option (Tup [.bool])) : slices_ContainsFunc_string_impl_goodNames_1.Pt → Option (Tup [.bool])
  | .p0 a0 => (slices_IndexFunc_string_impl_goodNames_1 n a0).bind fun (r4 : Int) => some (decide ((0 : Int) ≤ r4))
def slices_ContainsFunc_string_impl_goodNames_1 (n : Nat) (a0 : List (ByteArray)) : Option (Tup [.bool]) := goRec slices_ContainsFunc_string_impl_goodNames_1.step n (.p0 a0)
def slices_ContainsFunc_string_impl_goodNames_1.spec : Ctr := ⟨145, [.v (.sl false .str), .fn 146 []], [.bool], [], fun n x => slices_ContainsFunc_string_impl_goodNames_1 n x.1⟩
theorem slices_ContainsFunc_string_impl_goodNames_1.seg_eq : SegEq ty gl slices_ContainsFunc_string_impl_goodNames_1.F slices_ContainsFunc_string_impl_goodNames_1.md slices_ContainsFunc_string_impl_goodNames_1.T slices_ContainsFunc_string_impl_goodNames_1.spec slices_ContainsFunc_string_impl_goodNames_1.lb slices_ContainsFunc_string_impl_goodNames_1.st slices_ContainsFunc_string_impl_goodNames_1.step := by
  intro n goto y; cases y <;> kernel_rfl
theorem slices_ContainsFunc_string_impl_goodNames_1.text : Text Go.Proofs.Tryz.prog slices_ContainsFunc_string_impl_goodNames_1.F slices_ContainsFunc_string_impl_goodNames_1.spec := textOf Go.Proofs.Tryz.f145
theorem slices_ContainsFunc_string_impl_goodNames_1.ok : CtrOK Go.Proofs.Tryz.prog gl slices_ContainsFunc_string_impl_goodNames_1.spec :=
  ctr_okS tabs slices_ContainsFunc_string_impl_goodNames_1.text slices_ContainsFunc_string_impl_goodNames_1.seg_eq (fun n x => ⟨.p0 x.1, rfl, rfl, rfl⟩) (consC slices_IndexFunc_string_impl_goodNames_1.ok (nilC))

/-! loop.example/g00039/impl.goodNames -/
def impl_goodNames.T : List Ctr := [impl_rising_string.spec, impl_goodNames_1.spec, slices_ContainsFunc_string_impl_goodNames_1.spec]
def impl_goodNames.md : List (Nat × List Md) := [(145, [.v, .fn])]
noncomputable def impl_goodNames.F : Fun := ⟨(Go.Proofs.Tryz.f96.body).getD .skip, [.v (.sl false .str)], [(.tmp 2, .bool)], [], 0, []⟩
inductive impl_goodNames.Pt where
  | p0 (a0 : List (ByteArray))
def impl_goodNames.lb : impl_goodNames.Pt → Nat
  | .p0 _ => 0
def impl_goodNames.st : impl_goodNames.Pt → St
  | .p0 a0 => enter [.v (.sl false .str) a0] 0
def impl_goodNames.step (n : Nat) (K : impl_goodNames.Pt → Option (Tup [.bool])) : impl_goodNames.Pt → Option (Tup [.bool])
  | .p0 a0 => cond (decide (((List.length a0) : Int) ≤ (10 : Int))) ((impl_rising_string n a0).bind fun r4 => cond r4 ((slices_ContainsFunc_string_impl_goodNames_1 n a0).bind fun r5 => some (!r5)) (some false)) (some false)
def impl_goodNames (n : Nat) (a0 : List (ByteArray)) : Option (Tup [.bool]) := goRec impl_goodNames.step n (.p0 a0)
def impl_goodNames.spec : Ctr := ⟨96, [.v (.sl false .str)], [.bool], [], fun n x => impl_goodNames n x.1⟩
theorem impl_goodNames.seg_eq : SegEq ty gl impl_goodNames.F impl_goodNames.md impl_goodNames.T impl_goodNames.spec impl_goodNames.lb impl_goodNames.st impl_goodNames.step := by
  intro n goto y; cases y <;> kernel_rfl
theorem impl_goodNames.text : Text Go.Proofs.Tryz.prog impl_goodNames.F impl_goodNames.spec := textOf Go.Proofs.Tryz.f96
theorem impl_goodNames.ok : CtrOK Go.Proofs.Tryz.prog gl impl_goodNames.spec :=
  ctr_okS tabs impl_goodNames.text impl_goodNames.seg_eq (fun n x => ⟨.p0 x.1, rfl, rfl, rfl⟩) (consC impl_rising_string.ok (consC impl_goodNames_1.ok (consC slices_ContainsFunc_string_impl_goodNames_1.ok (nilC))))

/-! loop.example/g00039/impl.isTime -/
def impl_isTime.T : List Ctr := []
def impl_isTime.md : List (Nat × List Md) := []
noncomputable def impl_isTime.F : Fun := ⟨(Go.Proofs.Tryz.f55.body).getD .skip, [.v (.int .i64)], [(.tmp 2, .bool)], [], 0, []⟩
inductive impl_isTime.Pt where
  | p0 (a0 : Int)
def impl_isTime.lb : impl_isTime.Pt → Nat
  | .p0 _ => 0
def impl_isTime.st : impl_isTime.Pt → St
  | .p0 a0 => enter [.v (.int .i64) a0] 0
def impl_isTime.step (n : Nat) (K : impl_isTime.Pt → Option (Tup [.bool])) : impl_isTime.Pt → Option (Tup [.bool])
  | .p0 a0 => cond (decide ((0 : Int) ≤ a0)) (some (decide (a0 ≤ (1000000000000 : Int)))) (some false)
def impl_isTime (n : Nat) (a0 : Int) : Option (Tup [.bool]) := goRec impl_isTime.step n (.p0 a0)
def impl_isTime.spec : Ctr := ⟨55, [.v (.int .i64)], [.bool], [], fun n x => impl_isTime n x.1⟩
theorem impl_isTime.seg_eq : SegEq ty gl impl_isTime.F impl_isTime.md impl_isTime.T impl_isTime.spec impl_isTime.lb impl_isTime.st impl_isTime.step := by
  intro n goto y; cases y <;> kernel_rfl
theorem impl_isTime.text : Text Go.Proofs.Tryz.prog impl_isTime.F impl_isTime.spec := textOf Go.Proofs.Tryz.f55
theorem impl_isTime.ok : CtrOK Go.Proofs.Tryz.prog gl impl_isTime.spec :=
  ctr_okS tabs impl_isTime.text impl_isTime.seg_eq (fun n x => ⟨.p0 x.1, rfl, rfl, rfl⟩) (nilC)

/-! loop.example/g00039/impl.rising[int] -/
def impl_rising_int.T : List Ctr := []
def impl_rising_int.md : List (Nat × List Md) := []
noncomputable def impl_rising_int.F : Fun := ⟨(Go.Proofs.Tryz.f99.body).getD .skip, [.v (.sl false (.int .i64))], [(.tmp 2, .bool)], [], 0, [(7, ⟨[0, 3], [], [], false⟩)]⟩
inductive impl_rising_int.Pt where
  | p0 (a0 : List (Int))
  | p7 (y1 : List (Int)) (y2 : Int)
def impl_rising_int.lb : impl_rising_int.Pt → Nat
  | .p0 _ => 0
  | .p7 _ _ => 7
def impl_rising_int.st : impl_rising_int.Pt → St
  | .p0 a0 => enter [.v (.sl false (.int .i64)) a0] 0
  | .p7 y1 y2 => ⟨[(0, .im (.sl false (.int .i64)) y1), (3, .im (.int .i64) y2)], [], 0⟩
def impl_rising_int.step (n : Nat) (K : impl_rising_int.Pt → Option (Tup [.bool])) : impl_rising_int.Pt → Option (Tup [.bool])
  | .p0 a0 => K (.p7 a0 (1 : Int))
  | .p7 y1 y2 => cond (decide (y2 < ((List.length y1) : Int))) (cond (inB (IntKind.wrap .i64 (y2 - (1 : Int))) (List.length y1)) (cond (inB y2 (List.length y1)) (cond (decide ((List.getD y1 (Int.toNat y2) default) ≤ (List.getD y1 (Int.toNat (IntKind.wrap .i64 (y2 - (1 : Int)))) default))) (some false) (K (.p7 y1 (IntKind.wrap .i64 (y2 + (1 : Int)))))) (none)) (none)) (some true)
def impl_rising_int (n : Nat) (a0 : List (Int)) : Option (Tup [.bool]) := goRec impl_rising_int.step n (.p0 a0)
def impl_rising_int.spec : Ctr := ⟨99, [.v (.sl false (.int .i64))], [.bool], [], fun n x => impl_rising_int n x.1⟩
theorem impl_rising_int.seg_eq : SegEq ty gl impl_rising_int.F impl_rising_int.md impl_rising_int.T impl_rising_int.spec impl_rising_int.lb impl_rising_int.st impl_rising_int.step := by
  intro n goto y; cases y <;> kernel_rfl
theorem impl_rising_int.text : Text Go.Proofs.Tryz.prog impl_rising_int.F impl_rising_int.spec := textOf Go.Proofs.Tryz.f99
theorem impl_rising_int.ok : CtrOK Go.Proofs.Tryz.prog gl impl_rising_int.spec :=
  ctr_okS tabs impl_rising_int.text impl_rising_int.seg_eq (fun n x => ⟨.p0 x.1, rfl, rfl, rfl⟩) (nilC)

/-! loop.example/g00039/impl.goodRoute -/
def impl_goodRoute.T : List Ctr := [impl_isName.spec, impl_GoodMatchers.spec, impl_goodNames.spec, impl_isTime.spec, impl_rising_int.spec]
def impl_goodRoute.md : List (Nat × List Md) := []
noncomputable def impl_goodRoute.F : Fun := ⟨(Go.Proofs.Tryz.f91.body).getD .skip, [.v (.pair .str (.pair (.sl false (.pair .str (.pair (.int .i64) (.pair .str .unit)))) (.pair (.sl false .str) (.pair (.int .i64) (.pair (.int .i64) (.pair (.int .i64) (.pair (.sl false (.int .i64)) (.pair .bool (.pair (.int .i64) .unit)))))))))], [(.tmp 2, .bool)], [], 0, [(4, ⟨[1, 60], [], [(1, 1, (.pair .str (.pair (.int .i64) (.pair .str .unit)))), (1, 2, .str), (1, 6, (.int .i64))], false⟩), (15, ⟨[62, 63, 64], [(62, (.int .i64))], [], false⟩)]⟩
inductive impl_goodRoute.Pt where
  | p0 (a0 : (ByteArray) × ((List ((ByteArray) × ((Int) × ((ByteArray) × (Unit))))) × ((List (ByteArray)) × ((Int) × ((Int) × ((Int) × ((List (Int)) × ((Bool) × ((Int) × (Unit))))))))))
  | p4 (y1 : Bool) (y2 : ByteArray) (y3 : List ((ByteArray) × ((Int) × ((ByteArray) × (Unit))))) (y4 : List (ByteArray)) (y5 : Int) (y6 : Int) (y7 : Int) (y8 : List (Int)) (y9 : Bool) (y10 : Int)
  | p15 (y1 : List (Int)) (y2 : Int) (y3 : Int)
def impl_goodRoute.lb : impl_goodRoute.Pt → Nat
  | .p0 _ => 0
  | .p4 _ _ _ _ _ _ _ _ _ _ => 4
  | .p15 _ _ _ => 15
def impl_goodRoute.st : impl_goodRoute.Pt → St
  | .p0 a0 => enter [.v (.pair .str (.pair (.sl false (.pair .str (.pair (.int .i64) (.pair .str .unit)))) (.pair (.sl false .str) (.pair (.int .i64) (.pair (.int .i64) (.pair (.int .i64) (.pair (.sl false (.int .i64)) (.pair .bool (.pair (.int .i64) .unit))))))))) a0] 0
  | .p4 y1 y2 y3 y4 y5 y6 y7 y8 y9 y10 => ⟨[(1, .po 0 0), (60, .im .bool y1)], [(0, .obj [.im .str y2, .im (.sl false (.pair .str (.pair (.int .i64) (.pair .str .unit)))) y3, .im (.sl false .str) y4, .im (.int .i64) y5, .im (.int .i64) y6, .im (.int .i64) y7, .im (.sl false (.int .i64)) y8, .im .bool y9, .im (.int .i64) y10])], 1⟩
  | .p15 y1 y2 y3 => ⟨[(62, .im (.sl false (.int .i64)) y1), (63, .im (.int .i64) y2), (64, .im (.int .i64) y3)], [], 0⟩
def impl_goodRoute.step (n : Nat) (K : impl_goodRoute.Pt → Option (Tup [.bool])) : impl_goodRoute.Pt → Option (Tup [.bool])
  | .p0 a0 => (impl_isName n a0.1).bind fun r4 => cond (!r4) (K (.p4 true a0.1 a0.2.1 a0.2.2.1 a0.2.2.2.1 a0.2.2.2.2.1 a0.2.2.2.2.2.1 a0.2.2.2.2.2.2.1 a0.2.2.2.2.2.2.2.1 a0.2.2.2.2.2.2.2.2.1)) ((impl_GoodMatchers n a0.2.1).bind fun r5 => cond (!r5) (K (.p4 true a0.1 a0.2.1 a0.2.2.1 a0.2.2.2.1 a0.2.2.2.2.1 a0.2.2.2.2.2.1 a0.2.2.2.2.2.2.1 a0.2.2.2.2.2.2.2.1 a0.2.2.2.2.2.2.2.2.1)) ((impl_goodNames n a0.2.2.1).bind fun r6 => cond (!r6) (K (.p4 true a0.1 a0.2.1 a0.2.2.1 a0.2.2.2.1 a0.2.2.2.2.1 a0.2.2.2.2.2.1 a0.2.2.2.2.2.2.1 a0.2.2.2.2.2.2.2.1 a0.2.2.2.2.2.2.2.2.1)) ((impl_isTime n a0.2.2.2.1).bind fun r7 => cond (!r7) (K (.p4 true a0.1 a0.2.1 a0.2.2.1 a0.2.2.2.1 a0.2.2.2.2.1 a0.2.2.2.2.2.1 a0.2.2.2.2.2.2.1 a0.2.2.2.2.2.2.2.1 a0.2.2.2.2.2.2.2.2.1)) ((impl_isTime n a0.2.2.2.2.1).bind fun r8 => cond (!r8) (K (.p4 true a0.1 a0.2.1 a0.2.2.1 a0.2.2.2.1 a0.2.2.2.2.1 a0.2.2.2.2.2.1 a0.2.2.2.2.2.2.1 a0.2.2.2.2.2.2.2.1 a0.2.2.2.2.2.2.2.2.1)) (cond (decide (a0.2.2.2.2.1 = (0 : Int))) (K (.p4 true a0.1 a0.2.1 a0.2.2.1 a0.2.2.2.1 a0.2.2.2.2.1 a0.2.2.2.2.2.1 a0.2.2.2.2.2.2.1 a0.2.2.2.2.2.2.2.1 a0.2.2.2.2.2.2.2.2.1)) ((impl_isTime n a0.2.2.2.2.2.1).bind fun r9 => cond (!r9) (K (.p4 true a0.1 a0.2.1 a0.2.2.1 a0.2.2.2.1 a0.2.2.2.2.1 a0.2.2.2.2.2.1 a0.2.2.2.2.2.2.1 a0.2.2.2.2.2.2.2.1 a0.2.2.2.2.2.2.2.2.1)) (cond (decide (a0.2.2.2.2.2.1 = (0 : Int))) (K (.p4 true a0.1 a0.2.1 a0.2.2.1 a0.2.2.2.1 a0.2.2.2.2.1 a0.2.2.2.2.2.1 a0.2.2.2.2.2.2.1 a0.2.2.2.2.2.2.2.1 a0.2.2.2.2.2.2.2.2.1)) (cond (decide ((20 : Int) < ((List.length a0.2.2.2.2.2.2.1) : Int))) (K (.p4 true a0.1 a0.2.1 a0.2.2.1 a0.2.2.2.1 a0.2.2.2.2.1 a0.2.2.2.2.2.1 a0.2.2.2.2.2.2.1 a0.2.2.2.2.2.2.2.1 a0.2.2.2.2.2.2.2.2.1)) ((impl_rising_int n a0.2.2.2.2.2.2.1).bind fun r10 => K (.p4 (!r10) a0.1 a0.2.1 a0.2.2.1 a0.2.2.2.1 a0.2.2.2.2.1 a0.2.2.2.2.2.1 a0.2.2.2.2.2.2.1 a0.2.2.2.2.2.2.2.1 a0.2.2.2.2.2.2.2.2.1))))))))))
  | .p4 y1 y2 y3 y4 y5 y6 y7 y8 y9 y10 => cond y1 (some false) (K (.p15 y8 ((List.length y8) : Int) (0 : Int)))
  | .p15 y1 y2 y3 => cond (decide (y3 < y2)) (cond (inB y3 (List.length y1)) (cond (decide ((List.getD y1 (Int.toNat y3) default) < (0 : Int))) (some false) (cond (decide ((20 : Int) ≤ (List.getD y1 (Int.toNat y3) default))) (some false) (K (.p15 y1 y2 (IntKind.wrap .i64 (y3 + (1 : Int))))))) (none)) (some true)
def impl_goodRoute (n : Nat) (a0 : (ByteArray) × ((List ((ByteArray) × ((Int) × ((ByteArray) × (Unit))))) × ((List (ByteArray)) × ((Int) × ((Int) × ((Int) × ((List (Int)) × ((Bool) × ((Int) × (Unit)))))))))) : Option (Tup [.bool]) := goRec impl_goodRoute.step n (.p0 a0)
def impl_goodRoute.spec : Ctr := ⟨91, [.v (.pair .str (.pair (.sl false (.pair .str (.pair (.int .i64) (.pair .str .unit)))) (.pair (.sl false .str) (.pair (.int .i64) (.pair (.int .i64) (.pair (.int .i64) (.pair (.sl false (.int .i64)) (.pair .bool (.pair (.int .i64) .unit)))))))))], [.bool], [], fun n x => impl_goodRoute n x.1⟩
theorem impl_goodRoute.seg_eq : SegEq ty gl impl_goodRoute.F impl_goodRoute.md impl_goodRoute.T impl_goodRoute.spec impl_goodRoute.lb impl_goodRoute.st impl_goodRoute.step := by
  intro n goto y; cases y <;> kernel_rfl
theorem impl_goodRoute.text : Text Go.Proofs.Tryz.prog impl_goodRoute.F impl_goodRoute.spec := textOf Go.Proofs.Tryz.f91
theorem impl_goodRoute.ok : CtrOK Go.Proofs.Tryz.prog gl impl_goodRoute.spec :=
  ctr_okS tabs impl_goodRoute.text impl_goodRoute.seg_eq (fun n x => ⟨.p0 x.1, rfl, rfl, rfl⟩) (consC impl_isName.ok (consC impl_GoodMatchers.ok (consC impl_goodNames.ok (consC impl_isTime.ok (consC impl_rising_int.ok (nilC))))))

/-! loop.example/g00039/impl.GoodRoutes$1 -/
def impl_GoodRoutes_1.T : List Ctr := [impl_goodRoute.spec]
def impl_GoodRoutes_1.md : List (Nat × List Md) := []
noncomputable def impl_GoodRoutes_1.F : Fun := ⟨(Go.Proofs.Tryz.f90.body).getD .skip, [.v (.pair .str (.pair (.sl false (.pair .str (.pair (.int .i64) (.pair .str .unit)))) (.pair (.sl false .str) (.pair (.int .i64) (.pair (.int .i64) (.pair (.int .i64) (.pair (.sl false (.int .i64)) (.pair .bool (.pair (.int .i64) .unit)))))))))], [(.tmp 2, .bool)], [], 0, []⟩
inductive impl_GoodRoutes_1.Pt where
  | p0 (a0 : (ByteArray) × ((List ((ByteArray) × ((Int) × ((ByteArray) × (Unit))))) × ((List (ByteArray)) × ((Int) × ((Int) × ((Int) × ((List (Int)) × ((Bool) × ((Int) × (Unit))))))))))
def impl_GoodRoutes_1.lb : impl_GoodRoutes_1.Pt → Nat
  | .p0 _ => 0
def impl_GoodRoutes_1.st : impl_GoodRoutes_1.Pt → St
  | .p0 a0 => enter [.v (.pair .str (.pair (.sl false (.pair .str (.pair (.int .i64) (.pair .str .unit)))) (.pair (.sl false .str) (.pair (.int .i64) (.pair (.int .i64) (.pair (.int .i64) (.pair (.sl false (.int .i64)) (.pair .bool (.pair (.int .i64) .unit))))))))) a0] 0
def impl_GoodRoutes_1.step (n : Nat) (K : impl_GoodRoutes_1.Pt → Option (Tup [.bool])) : impl_GoodRoutes_1.Pt → Option (Tup [.bool])
  | .p0 a0 => (impl_goodRoute n a0).bind fun r4 => some (!r4)
def impl_GoodRoutes_1 (n : Nat) (a0 : (ByteArray) × ((List ((ByteArray) × ((Int) × ((ByteArray) × (Unit))))) × ((List (ByteArray)) × ((Int) × ((Int) × ((Int) × ((List (Int)) × ((Bool) × ((Int) × (Unit)))))))))) : Option (Tup [.bool]) := goRec impl_GoodRoutes_1.step n (.p0 a0)
def impl_GoodRoutes_1.spec : Ctr := ⟨90, [.v (.pair .str (.pair (.sl false (.pair .str (.pair (.int .i64) (.pair .str .unit)))) (.pair (.sl false .str) (.pair (.int .i64) (.pair (.int .i64) (.pair (.int .i64) (.pair (.sl false (.int .i64)) (.pair .bool (.pair (.int .i64) .unit)))))))))], [.bool], [], fun n x => impl_GoodRoutes_1 n x.1⟩
theorem impl_GoodRoutes_1.seg_eq : SegEq ty gl impl_GoodRoutes_1.F impl_GoodRoutes_1.md impl_GoodRoutes_1.T impl_GoodRoutes_1.spec impl_GoodRoutes_1.lb impl_GoodRoutes_1.st impl_GoodRoutes_1.step := by
  intro n goto y; cases y <;> kernel_rfl
theorem impl_GoodRoutes_1.text : Text Go.Proofs.Tryz.prog impl_GoodRoutes_1.F impl_GoodRoutes_1.spec := textOf Go.Proofs.Tryz.f90
theorem impl_GoodRoutes_1.ok : CtrOK Go.Proofs.Tryz.prog gl impl_GoodRoutes_1.spec :=
  ctr_okS tabs impl_GoodRoutes_1.text impl_GoodRoutes_1.seg_eq (fun n x => ⟨.p0 x.1, rfl, rfl, rfl⟩) (consC impl_goodRoute.ok (nilC))

/-! slices.IndexFunc[[]loop.example/g00039/impl.Route,loop.example/g00039/impl.Route] -/
def slices_IndexFunc_Route_impl_GoodRoutes_1.T : List Ctr := [impl_GoodRoutes_1.spec]
def slices_IndexFunc_Route_impl_GoodRoutes_1.md : List (Nat × List Md) := []
noncomputable def slices_IndexFunc_Route_impl_GoodRoutes_1.F : Fun := ⟨(Go.Proofs.Tryz.f106.body).getD .skip, [.v (.sl false (.pair .str (.pair (.sl false (.pair .str (.pair (.int .i64) (.pair .str .unit)))) (.pair (.sl false .str) (.pair (.int .i64) (.pair (.int .i64) (.pair (.int .i64) (.pair (.sl false (.int .i64)) (.pair .bool (.pair (.int .i64) .unit)))))))))), .fn 90 []], [(.tmp 4, (.int .i64))], [], 0, [(7, ⟨[0, 1, 7, 8], [], [], false⟩)]⟩
inductive slices_IndexFunc_Route_impl_GoodRoutes_1.Pt where
  | p0 (a0 : List ((ByteArray) × ((List ((ByteArray) × ((Int) × ((ByteArray) × (Unit))))) × ((List (ByteArray)) × ((Int) × ((Int) × ((Int) × ((List (Int)) × ((Bool) × ((Int) × (Unit)))))))))))
  | p7 (y1 : List ((ByteArray) × ((List ((ByteArray) × ((Int) × ((ByteArray) × (Unit))))) × ((List (ByteArray)) × ((Int) × ((Int) × ((Int) × ((List (Int)) × ((Bool) × ((Int) × (Unit))))))))))) (y2 : Int) (y3 : Int)
def slices_IndexFunc_Route_impl_GoodRoutes_1.lb : slices_IndexFunc_Route_impl_GoodRoutes_1.Pt → Nat
  | .p0 _ => 0
  | .p7 _ _ _ => 7
def slices_IndexFunc_Route_impl_GoodRoutes_1.st : slices_IndexFunc_Route_impl_GoodRoutes_1.Pt → St
  | .p0 a0 => enter [.v (.sl false (.pair .str (.pair (.sl false (.pair .str (.pair (.int .i64) (.pair .str .unit)))) (.pair (.sl false .str) (.pair (.int .i64) (.pair (.int .i64) (.pair (.int .i64) (.pair (.sl false (.int .i64)) (.pair .bool (.pair (.int .i64) .unit)))))))))) a0, .fn 90 []] 0
  | .p7 y1 y2 y3 => ⟨[(0, .im (.sl false (.pair .str (.pair (.sl false (.pair .str (.pair (.int .i64) (.pair .str .unit)))) (.pair (.sl false .str) (.pair (.int .i64) (.pair (.int .i64) (.pair (.int .i64) (.pair (.sl false (.int .i64)) (.pair .bool (.pair (.int .i64) .unit)))))))))) y1), (1, .fn 90 []), (7, .im (.int .i64) y2), (8, .im (.int .i64) y3)], [], 0⟩
def slices_IndexFunc_Route_impl_GoodRoutes_1.step (n : Nat) (K : slices_IndexFunc_Route_impl_GoodRoutes_1.Pt → Option (Tup [(.int .i64)])) : slices_IndexFunc_Route_impl_GoodRoutes_1.Pt → Option (Tup [(.int .i64)])
  | .p0 a0 => K (.p7 a0 ((List.length a0) : Int) (0 : Int))
  | .p7 y1 y2 y3 => cond (decide (y3 < y2)) (cond (inB y3 (List.length y1)) ((impl_GoodRoutes_1 n (List.getD y1 (Int.toNat y3) default)).bind fun r6 => cond r6 (some y3) (K (.p7 y1 y2 (IntKind.wrap .i64 (y3 + (1 : Int)))))) (none)) (some (-(1 : Int)))
def slices_IndexFunc_Route_impl_GoodRoutes_1 (n : Nat) (a0 : List ((ByteArray) × ((List ((ByteArray) × ((Int) × ((ByteArray) × (Unit))))) × ((List (ByteArray)) × ((Int) × ((Int) × ((Int) × ((List (Int)) × ((Bool) × ((Int) × (Unit))))))))))) : Option (Tup [(.int .i64)]) := goRec slices_IndexFunc_Route_impl_GoodRoutes_1.step n (.p0 a0)
def slices_IndexFunc_Route_impl_GoodRoutes_1.spec : Ctr := ⟨106, [.v (.sl false (.pair .str (.pair (.sl false (.pair .str (.pair (.int .i64) (.pair .str .unit)))) (.pair (.sl false .str) (.pair (.int .i64) (.pair (.int .i64) (.pair (.int .i64) (.pair (.sl false (.int .i64)) (.pair .bool (.pair (.int .i64) .unit)))))))))), .fn 90 []], [(.int .i64)], [], fun n x => slices_IndexFunc_Route_impl_GoodRoutes_1 n x.1⟩
theorem slices_IndexFunc_Route_impl_GoodRoutes_1.seg_eq : SegEq ty gl slices_IndexFunc_Route_impl_GoodRoutes_1.F slices_IndexFunc_Route_impl_GoodRoutes_1.md slices_IndexFunc_Route_impl_GoodRoutes_1.T slices_IndexFunc_Route_impl_GoodRoutes_1.spec slices_IndexFunc_Route_impl_GoodRoutes_1.lb slices_IndexFunc_Route_impl_GoodRoutes_1.st slices_IndexFunc_Route_impl_GoodRoutes_1.step := by
  intro n goto y; cases y <;> kernel_rfl
theorem slices_IndexFunc_Route_impl_GoodRoutes_1.text : Text Go.Proofs.Tryz.prog slices_IndexFunc_Route_impl_GoodRoutes_1.F slices_IndexFunc_Route_impl_GoodRoutes_1.spec := textOf Go.Proofs.Tryz.f106
theorem slices_IndexFunc_Route_impl_GoodRoutes_1.ok : CtrOK Go.Proofs.Tryz.prog gl slices_IndexFunc_Route_impl_GoodRoutes_1.spec :=
  ctr_okS tabs slices_IndexFunc_Route_impl_GoodRoutes_1.text slices_IndexFunc_Route_impl_GoodRoutes_1.seg_eq (fun n x => ⟨.p0 x.1, rfl, rfl, rfl⟩) (consC impl_GoodRoutes_1.ok (nilC))

/-! slices.ContainsFunc[[]loop.example/g00039/impl.Route,loop.example/g00039/impl.Route] -/
def slices_ContainsFunc_Route_impl_GoodRoutes_1.T : List Ctr := [slices_IndexFunc_Route_impl_GoodRoutes_1.spec]
def slices_ContainsFunc_Route_impl_GoodRoutes_1.md : List (Nat × List Md) := [(106, [.v, .fn])]
noncomputable def slices_ContainsFunc_Route_impl_GoodRoutes_1.F : Fun := ⟨(Go.Proofs.Tryz.f57.body).getD .skip, [.v (.sl false (.pair .str (.pair (.sl false (.pair .str (.pair (.int .i64) (.pair .str .unit)))) (.pair (.sl false .str) (.pair (.int .i64) (.pair (.int .i64) (.pair (.int .i64) (.pair (.sl false (.int .i64)) (.pair .bool (.pair (.int .i64) .unit)))))))))), .fn 90 []], [(.tmp 4, .bool)], [], 0, []⟩
inductive slices_ContainsFunc_Route_impl_GoodRoutes_1.Pt where
  | p0 (a0 : List ((ByteArray) × ((List ((ByteArray) × ((Int) × ((ByteArray) × (Unit))))) × ((List (ByteArray)) × ((Int) × ((Int) × ((Int) × ((List (Int)) × ((Bool) × ((Int) × (Unit)))))))))))
def slices_ContainsFunc_Route_impl_GoodRoutes_1.lb : slices_ContainsFunc_Route_impl_GoodRoutes_1.Pt → Nat
  | .p0 _ => 0
def slices_ContainsFunc_Route_impl_GoodRoutes_1.st : slices_ContainsFunc_Route_impl_GoodRoutes_1.Pt → St
  | .p0 a0 => enter [.v (.sl false (.pair .str (.pair (.sl false (.pair .str (.pair (.int .i64) (.pair .str .unit)))) (.pair (.sl false .str) (.pair (.int .i64) (.pair (.int .i64) (.pair (.int .i64) (.pair (.sl false (.int .i64)) (.pair .bool (.pair (.int .i64) .unit)))))))))) a0, .fn 90 []] 0
def slices_ContainsFunc_Route_impl_GoodRoutes_1.step (n : Nat) (K : slices_ContainsFunc_Route_impl_GoodRoutes_1.Pt → Option (Tup [.bool])) : slices_ContainsFunc_Route_impl_GoodRoutes_1.Pt → Option (Tup [.bool])
  | .p0 a0 => (slices_IndexFunc_Route_impl_GoodRoutes_1 n a0).bind fun (r4 : Int) => some (decide ((0 : Int) ≤ r4))
def slices_ContainsFunc_Route_impl_GoodRoutes_1 (n : Nat) (a0 : List ((ByteArray) × ((List ((ByteArray) × ((Int) × ((ByteArray) × (Unit))))) × ((List (ByteArray)) × ((Int) × ((Int) × ((Int) × ((List (Int)) × ((Bool) × ((Int) × (Unit))))))))))) : Option (Tup [.bool]) := goRec slices_ContainsFunc_Route_impl_GoodRoutes_1.step n (.p0 a0)
def slices_ContainsFunc_Route_impl_GoodRoutes_1.spec : Ctr := ⟨57, [.v (.sl false (.pair .str (.pair (.sl false (.pair .str (.pair (.int .i64) (.pair .str .unit)))) (.pair (.sl false .str) (.pair (.int .i64) (.pair (.int .i64) (.pair (.int .i64) (.pair (.sl false (.int .i64)) (.pair .bool (.pair (.int .i64) .unit)))))))))), .fn 90 []], [.bool], [], fun n x => slices_ContainsFunc_Route_impl_GoodRoutes_1 n x.1⟩
theorem slices_ContainsFunc_Route_impl_GoodRoutes_1.seg_eq : SegEq ty gl slices_ContainsFunc_Route_impl_GoodRoutes_1.F slices_ContainsFunc_Route_impl_GoodRoutes_1.md slices_ContainsFunc_Route_impl_GoodRoutes_1.T slices_ContainsFunc_Route_impl_GoodRoutes_1.spec slices_ContainsFunc_Route_impl_GoodRoutes_1.lb slices_ContainsFunc_Route_impl_GoodRoutes_1.st slices_ContainsFunc_Route_impl_GoodRoutes_1.step := by
  intro n goto y; cases y <;> kernel_rfl
theorem slices_ContainsFunc_Route_impl_GoodRoutes_1.text : Text Go.Proofs.Tryz.prog slices_ContainsFunc_Route_impl_GoodRoutes_1.F slices_ContainsFunc_Route_impl_GoodRoutes_1.spec := textOf Go.Proofs.Tryz.f57
theorem slices_ContainsFunc_Route_impl_GoodRoutes_1.ok : CtrOK Go.Proofs.Tryz.prog gl slices_ContainsFunc_Route_impl_GoodRoutes_1.spec :=
  ctr_okS tabs slices_ContainsFunc_Route_impl_GoodRoutes_1.text slices_ContainsFunc_Route_impl_GoodRoutes_1.seg_eq (fun n x => ⟨.p0 x.1, rfl, rfl, rfl⟩) (consC slices_IndexFunc_Route_impl_GoodRoutes_1.ok (nilC))

/-! loop.example/g00039/impl.GoodRoutes -/
def impl_GoodRoutes.T : List Ctr := [impl_depths.spec, impl_GoodRoutes_1.spec, slices_ContainsFunc_Route_impl_GoodRoutes_1.spec]
def impl_GoodRoutes.md : List (Nat × List Md) := [(57, [.v, .fn])]
noncomputable def impl_GoodRoutes.F : Fun := ⟨(Go.Proofs.Tryz.f42.body).getD .skip, [.v (.sl false (.pair .str (.pair (.sl false (.pair .str (.pair (.int .i64) (.pair .str .unit)))) (.pair (.sl false .str) (.pair (.int .i64) (.pair (.int .i64) (.pair (.int .i64) (.pair (.sl false (.int .i64)) (.pair .bool (.pair (.int .i64) .unit))))))))))], [(.tmp 2, .bool)], [], 0, []⟩
inductive impl_GoodRoutes.Pt where
  | p0 (a0 : List ((ByteArray) × ((List ((ByteArray) × ((Int) × ((ByteArray) × (Unit))))) × ((List (ByteArray)) × ((Int) × ((Int) × ((Int) × ((List (Int)) × ((Bool) × ((Int) × (Unit)))))))))))
def impl_GoodRoutes.lb : impl_GoodRoutes.Pt → Nat
  | .p0 _ => 0
def impl_GoodRoutes.st : impl_GoodRoutes.Pt → St
  | .p0 a0 => enter [.v (.sl false (.pair .str (.pair (.sl false (.pair .str (.pair (.int .i64) (.pair .str .unit)))) (.pair (.sl false .str) (.pair (.int .i64) (.pair (.int .i64) (.pair (.int .i64) (.pair (.sl false (.int .i64)) (.pair .bool (.pair (.int .i64) .unit)))))))))) a0] 0
def impl_GoodRoutes.step (n : Nat) (K : impl_GoodRoutes.Pt → Option (Tup [.bool])) : impl_GoodRoutes.Pt → Option (Tup [.bool])
  | .p0 a0 => (impl_depths n a0).bind fun r4 => cond (!(List.isEmpty r4)) (cond (inB (0 : Int) (List.length a0)) (cond (decide (((List.length (List.getD a0 (Int.toNat (0 : Int)) default).2.1) : Int) = (0 : Int))) (cond (inB (0 : Int) (List.length a0)) (cond (!(List.getD a0 (Int.toNat (0 : Int)) default).2.2.2.2.2.2.2.1) ((slices_ContainsFunc_Route_impl_GoodRoutes_1 n a0).bind fun r5 => some (!r5)) (some false)) (none)) (some false)) (none)) (some false)
def impl_GoodRoutes (n : Nat) (a0 : List ((ByteArray) × ((List ((ByteArray) × ((Int) × ((ByteArray) × (Unit))))) × ((List (ByteArray)) × ((Int) × ((Int) × ((Int) × ((List (Int)) × ((Bool) × ((Int) × (Unit))))))))))) : Option (Tup [.bool]) := goRec impl_GoodRoutes.step n (.p0 a0)
def impl_GoodRoutes.spec : Ctr := ⟨42, [.v (.sl false (.pair .str (.pair (.sl false (.pair .str (.pair (.int .i64) (.pair .str .unit)))) (.pair (.sl false .str) (.pair (.int .i64) (.pair (.int .i64) (.pair (.int .i64) (.pair (.sl false (.int .i64)) (.pair .bool (.pair (.int .i64) .unit))))))))))], [.bool], [], fun n x => impl_GoodRoutes n x.1⟩
theorem impl_GoodRoutes.seg_eq : SegEq ty gl impl_GoodRoutes.F impl_GoodRoutes.md impl_GoodRoutes.T impl_GoodRoutes.spec impl_GoodRoutes.lb impl_GoodRoutes.st impl_GoodRoutes.step := by
  intro n goto y; cases y <;> kernel_rfl
theorem impl_GoodRoutes.text : Text Go.Proofs.Tryz.prog impl_GoodRoutes.F impl_GoodRoutes.spec := textOf Go.Proofs.Tryz.f42
theorem impl_GoodRoutes.ok : CtrOK Go.Proofs.Tryz.prog gl impl_GoodRoutes.spec :=
  ctr_okS tabs impl_GoodRoutes.text impl_GoodRoutes.seg_eq (fun n x => ⟨.p0 x.1, rfl, rfl, rfl⟩) (consC impl_depths.ok (consC impl_GoodRoutes_1.ok (consC slices_ContainsFunc_Route_impl_GoodRoutes_1.ok (nilC))))

/-! loop.example/g00039/impl.GoodSilences -/
def impl_GoodSilences.T : List Ctr := [impl_isName.spec, impl_GoodMatchers.spec, impl_isTime.spec]
def impl_GoodSilences.md : List (Nat × List Md) := []
noncomputable def impl_GoodSilences.F : Fun := ⟨(Go.Proofs.Tryz.f43.body).getD .skip, [.v (.sl false (.pair .str (.pair (.sl false (.pair .str (.pair (.int .i64) (.pair .str .unit)))) (.pair (.int .i64) (.pair (.int .i64) .unit)))))], [(.tmp 2, .bool)], [], 0, [(15, ⟨[0, 8, 9, 10], [(8, (.pair .str (.pair (.sl false (.pair .str (.pair (.int .i64) (.pair .str .unit)))) (.pair (.int .i64) (.pair (.int .i64) .unit)))))], [], false⟩), (26, ⟨[0, 8, 9, 10, 64], [(8, (.pair .str (.pair (.sl false (.pair .str (.pair (.int .i64) (.pair .str .unit)))) (.pair (.int .i64) (.pair (.int .i64) .unit)))))], [], false⟩)]⟩
inductive impl_GoodSilences.Pt where
  | p0 (a0 : List ((ByteArray) × ((List ((ByteArray) × ((Int) × ((ByteArray) × (Unit))))) × ((Int) × ((Int) × (Unit))))))
  | p15 (y1 : List ((ByteArray) × ((List ((ByteArray) × ((Int) × ((ByteArray) × (Unit))))) × ((Int) × ((Int) × (Unit)))))) (y2 : List ((ByteArray) × ((List ((ByteArray) × ((Int) × ((ByteArray) × (Unit))))) × ((Int) × ((Int) × (Unit)))))) (y3 : Int) (y4 : Int)
  | p26 (y1 : List ((ByteArray) × ((List ((ByteArray) × ((Int) × ((ByteArray) × (Unit))))) × ((Int) × ((Int) × (Unit)))))) (y2 : List ((ByteArray) × ((List ((ByteArray) × ((Int) × ((ByteArray) × (Unit))))) × ((Int) × ((Int) × (Unit)))))) (y3 : Int) (y4 : Int) (y5 : Bool)
def impl_GoodSilences.lb : impl_GoodSilences.Pt → Nat
  | .p0 _ => 0
  | .p15 _ _ _ _ => 15
  | .p26 _ _ _ _ _ => 26
def impl_GoodSilences.st : impl_GoodSilences.Pt → St
  | .p0 a0 => enter [.v (.sl false (.pair .str (.pair (.sl false (.pair .str (.pair (.int .i64) (.pair .str .unit)))) (.pair (.int .i64) (.pair (.int .i64) .unit))))) a0] 0
  | .p15 y1 y2 y3 y4 => ⟨[(0, .im (.sl false (.pair .str (.pair (.sl false (.pair .str (.pair (.int .i64) (.pair .str .unit)))) (.pair (.int .i64) (.pair (.int .i64) .unit))))) y1), (8, .im (.sl false (.pair .str (.pair (.sl false (.pair .str (.pair (.int .i64) (.pair .str .unit)))) (.pair (.int .i64) (.pair (.int .i64) .unit))))) y2), (9, .im (.int .i64) y3), (10, .im (.int .i64) y4)], [], 0⟩
  | .p26 y1 y2 y3 y4 y5 => ⟨[(0, .im (.sl false (.pair .str (.pair (.sl false (.pair .str (.pair (.int .i64) (.pair .str .unit)))) (.pair (.int .i64) (.pair (.int .i64) .unit))))) y1), (8, .im (.sl false (.pair .str (.pair (.sl false (.pair .str (.pair (.int .i64) (.pair .str .unit)))) (.pair (.int .i64) (.pair (.int .i64) .unit))))) y2), (9, .im (.int .i64) y3), (10, .im (.int .i64) y4), (64, .im .bool y5)], [], 0⟩
def impl_GoodSilences.step (n : Nat) (K : impl_GoodSilences.Pt → Option (Tup [.bool])) : impl_GoodSilences.Pt → Option (Tup [.bool])
  | .p0 a0 => cond (decide ((50 : Int) < ((List.length a0) : Int))) (some false) (K (.p15 a0 a0 ((List.length a0) : Int) (0 : Int)))
  | .p15 y1 y2 y3 y4 => cond (decide (y4 < y3)) (cond (inB y4 (List.length y2)) ((impl_isName n (List.getD y2 (Int.toNat y4) default).1).bind fun r7 => cond (!r7) (K (.p26 y1 y2 y3 y4 true)) (cond (decide ((0 : Int) < y4)) (cond (inB (IntKind.wrap .i64 (y4 - (1 : Int))) (List.length y1)) (cond (!(slt (List.getD y1 (Int.toNat (IntKind.wrap .i64 (y4 - (1 : Int)))) default).1 (List.getD y2 (Int.toNat y4) default).1)) (K (.p26 y1 y2 y3 y4 true)) (cond (decide (((List.length (List.getD y2 (Int.toNat y4) default).2.1) : Int) = (0 : Int))) (K (.p26 y1 y2 y3 y4 true)) ((impl_GoodMatchers n (List.getD y2 (Int.toNat y4) default).2.1).bind fun r8 => cond (!r8) (K (.p26 y1 y2 y3 y4 true)) ((impl_isTime n (List.getD y2 (Int.toNat y4) default).2.2.1).bind fun r9 => cond (!r9) (K (.p26 y1 y2 y3 y4 true)) ((impl_isTime n (List.getD y2 (Int.toNat y4) default).2.2.2.1).bind fun r10 => cond (!r10) (K (.p26 y1 y2 y3 y4 true)) (K (.p26 y1 y2 y3 y4 (decide ((List.getD y2 (Int.toNat y4) default).2.2.2.1 < (List.getD y2 (Int.toNat y4) default).2.2.1))))))))) (none)) (cond (decide (((List.length (List.getD y2 (Int.toNat y4) default).2.1) : Int) = (0 : Int))) (K (.p26 y1 y2 y3 y4 true)) ((impl_GoodMatchers n (List.getD y2 (Int.toNat y4) default).2.1).bind fun r8 => cond (!r8) (K (.p26 y1 y2 y3 y4 true)) ((impl_isTime n (List.getD y2 (Int.toNat y4) default).2.2.1).bind fun r9 => cond (!r9) (K (.p26 y1 y2 y3 y4 true)) ((impl_isTime n (List.getD y2 (Int.toNat y4) default).2.2.2.1).bind fun r10 => cond (!r10) (K (.p26 y1 y2 y3 y4 true)) (K (.p26 y1 y2 y3 y4 (decide ((List.getD y2 (Int.toNat y4) default).2.2.2.1 < (List.getD y2 (Int.toNat y4) default).2.2.1)))))))))) (none)) (some true)
  | .p26 y1 y2 y3 y4 y5 => cond y5 (some false) (K (.p15 y1 y2 y3 (IntKind.wrap .i64 (y4 + (1 : Int)))))
def impl_GoodSilences (n : Nat) (a0 : List ((ByteArray) × ((List ((ByteArray) × ((Int) × ((ByteArray) × (Unit))))) × ((Int) × ((Int) × (Unit)))))) : Option (Tup [.bool]) := goRec impl_GoodSilences.step n (.p0 a0)
def impl_GoodSilences.spec : Ctr := ⟨43, [.v (.sl false (.pair .str (.pair (.sl false (.pair .str (.pair (.int .i64) (.pair .str .unit)))) (.pair (.int .i64) (.pair (.int .i64) .unit)))))], [.bool], [], fun n x => impl_GoodSilences n x.1⟩
theorem impl_GoodSilences.seg_eq : SegEq ty gl impl_GoodSilences.F impl_GoodSilences.md impl_GoodSilences.T impl_GoodSilences.spec impl_GoodSilences.lb impl_GoodSilences.st impl_GoodSilences.step := by
  intro n goto y; cases y <;> kernel_rfl
theorem impl_GoodSilences.text : Text Go.Proofs.Tryz.prog impl_GoodSilences.F impl_GoodSilences.spec := textOf Go.Proofs.Tryz.f43
theorem impl_GoodSilences.ok : CtrOK Go.Proofs.Tryz.prog gl impl_GoodSilences.spec :=
  ctr_okS tabs impl_GoodSilences.text impl_GoodSilences.seg_eq (fun n x => ⟨.p0 x.1, rfl, rfl, rfl⟩) (consC impl_isName.ok (consC impl_GoodMatchers.ok (consC impl_isTime.ok (nilC))))

/-! loop.example/g00039/impl.GoodInhibits$1 -/
def impl_GoodInhibits_1.T : List Ctr := [impl_GoodMatchers.spec, impl_goodNames.spec]
def impl_GoodInhibits_1.md : List (Nat × List Md) := []
noncomputable def impl_GoodInhibits_1.F : Fun := ⟨(Go.Proofs.Tryz.f95.body).getD .skip, [.v (.pair (.sl false (.pair .str (.pair (.int .i64) (.pair .str .unit)))) (.pair (.sl false (.pair .str (.pair (.int .i64) (.pair .str .unit)))) (.pair (.sl false .str) .unit)))], [(.tmp 2, .bool)], [], 0, []⟩
inductive impl_GoodInhibits_1.Pt where
  | p0 (a0 : (List ((ByteArray) × ((Int) × ((ByteArray) × (Unit))))) × ((List ((ByteArray) × ((Int) × ((ByteArray) × (Unit))))) × ((List (ByteArray)) × (Unit))))
def impl_GoodInhibits_1.lb : impl_GoodInhibits_1.Pt → Nat
  | .p0 _ => 0
def impl_GoodInhibits_1.st : impl_GoodInhibits_1.Pt → St
  | .p0 a0 => enter [.v (.pair (.sl false (.pair .str (.pair (.int .i64) (.pair .str .unit)))) (.pair (.sl false (.pair .str (.pair (.int .i64) (.pair .str .unit)))) (.pair (.sl false .str) .unit))) a0] 0
def impl_GoodInhibits_1.step (n : Nat) (K : impl_GoodInhibits_1.Pt → Option (Tup [.bool])) : impl_GoodInhibits_1.Pt → Option (Tup [.bool])
  | .p0 a0 => cond (decide (((List.length a0.1) : Int) = (0 : Int))) (some true) (cond (decide (((List.length a0.2.1) : Int) = (0 : Int))) (some true) ((impl_GoodMatchers n a0.1).bind fun r4 => cond (!r4) (some true) ((impl_GoodMatchers n a0.2.1).bind fun r5 => cond (!r5) (some true) ((impl_goodNames n a0.2.2.1).bind fun r6 => some (!r6)))))
def impl_GoodInhibits_1 (n : Nat) (a0 : (List ((ByteArray) × ((Int) × ((ByteArray) × (Unit))))) × ((List ((ByteArray) × ((Int) × ((ByteArray) × (Unit))))) × ((List (ByteArray)) × (Unit)))) : Option (Tup [.bool]) := goRec impl_GoodInhibits_1.step n (.p0 a0)
def impl_GoodInhibits_1.spec : Ctr := ⟨95, [.v (.pair (.sl false (.pair .str (.pair (.int .i64) (.pair .str .unit)))) (.pair (.sl false (.pair .str (.pair (.int .i64) (.pair .str .unit)))) (.pair (.sl false .str) .unit)))], [.bool], [], fun n x => impl_GoodInhibits_1 n x.1⟩
theorem impl_GoodInhibits_1.seg_eq : SegEq ty gl impl_GoodInhibits_1.F impl_GoodInhibits_1.md impl_GoodInhibits_1.T impl_GoodInhibits_1.spec impl_GoodInhibits_1.lb impl_GoodInhibits_1.st impl_GoodInhibits_1.step := by
  intro n goto y; cases y <;> kernel_rfl
theorem impl_GoodInhibits_1.text : Text Go.Proofs.Tryz.prog impl_GoodInhibits_1.F impl_GoodInhibits_1.spec := textOf Go.Proofs.Tryz.f95
theorem impl_GoodInhibits_1.ok : CtrOK Go.Proofs.Tryz.prog gl impl_GoodInhibits_1.spec :=
  ctr_okS tabs impl_GoodInhibits_1.text impl_GoodInhibits_1.seg_eq (fun n x => ⟨.p0 x.1, rfl, rfl, rfl⟩) (consC impl_GoodMatchers.ok (consC impl_goodNames.ok (nilC)))

/-! slices.IndexFunc[[]loop.example/g00039/impl.Inhibit,loop.example/g00039/impl.Inhibit] -/
def slices_IndexFunc_Inhibit_impl_GoodInhibits_1.T : List Ctr := [impl_GoodInhibits_1.spec]
def slices_IndexFunc_Inhibit_impl_GoodInhibits_1.md : List (Nat × List Md) := []
noncomputable def slices_IndexFunc_Inhibit_impl_GoodInhibits_1.F : Fun := ⟨(Go.Proofs.Tryz.f143.body).getD .skip, [.v (.sl false (.pair (.sl false (.pair .str (.pair (.int .i64) (.pair .str .unit)))) (.pair (.sl false (.pair .str (.pair (.int .i64) (.pair .str .unit)))) (.pair (.sl false .str) .unit)))), .fn 95 []], [(.tmp 4, (.int .i64))], [], 0, [(7, ⟨[0, 1, 7, 8], [], [], false⟩)]⟩
inductive slices_IndexFunc_Inhibit_impl_GoodInhibits_1.Pt where
  | p0 (a0 : List ((List ((ByteArray) × ((Int) × ((ByteArray) × (Unit))))) × ((List ((ByteArray) × ((Int) × ((ByteArray) × (Unit))))) × ((List (ByteArray)) × (Unit)))))
  | p7 (y1 : List ((List ((ByteArray) × ((Int) × ((ByteArray) × (Unit))))) × ((List ((ByteArray) × ((Int) × ((ByteArray) × (Unit))))) × ((List (ByteArray)) × (Unit))))) (y2 : Int) (y3 : Int)
def slices_IndexFunc_Inhibit_impl_GoodInhibits_1.lb : slices_IndexFunc_Inhibit_impl_GoodInhibits_1.Pt → Nat
  | .p0 _ => 0
  | .p7 _ _ _ => 7
def slices_IndexFunc_Inhibit_impl_GoodInhibits_1.st : slices_IndexFunc_Inhibit_impl_GoodInhibits_1.Pt → St
  | .p0 a0 => enter [.v (.sl false (.pair (.sl false (.pair .str (.pair (.int .i64) (.pair .str .unit)))) (.pair (.sl false (.pair .str (.pair (.int .i64) (.pair .str .unit)))) (.pair (.sl false .str) .unit)))) a0, .fn 95 []] 0
  | .p7 y1 y2 y3 => ⟨[(0, .im (.sl false (.pair (.sl false (.pair .str (.pair (.int .i64) (.pair .str .unit)))) (.pair (.sl false (.pair .str (.pair (.int .i64) (.pair .str .unit)))) (.pair (.sl false .str) .unit)))) y1), (1, .fn 95 []), (7, .im (.int .i64) y2), (8, .im (.int .i64) y3)], [], 0⟩
def slices_IndexFunc_Inhibit_impl_GoodInhibits_1.step (n : Nat) (K : slices_IndexFunc_Inhibit_impl_GoodInhibits_1.Pt → Option (Tup [(.int .i64)])) : slices_IndexFunc_Inhibit_impl_GoodInhibits_1.Pt → Option (Tup [(.int .i64)])
  | .p0 a0 => K (.p7 a0 ((List.length a0) : Int) (0 : Int))
  | .p7 y1 y2 y3 => cond (decide (y3 < y2)) (cond (inB y3 (List.length y1)) ((impl_GoodInhibits_1 n ((List.getD y1 (Int.toNat y3) default).1, ((List.getD y1 (Int.toNat y3) default).2.1, ((List.getD y1 (Int.toNat y3) default).2.2.1, ())))).bind fun r6 => cond r6 (some y3) (K (.p7 y1 y2 (IntKind.wrap .i64 (y3 + (1 : Int)))))) (none)) (some (-(1 : Int)))
def slices_IndexFunc_Inhibit_impl_GoodInhibits_1 (n : Nat) (a0 : List ((List ((ByteArray) × ((Int) × ((ByteArray) × (Unit))))) × ((List ((ByteArray) × ((Int) × ((ByteArray) × (Unit))))) × ((List (ByteArray)) × (Unit))))) : Option (Tup [(.int .i64)]) := goRec slices_IndexFunc_Inhibit_impl_GoodInhibits_1.step n (.p0 a0)
def slices_IndexFunc_Inhibit_impl_GoodInhibits_1.spec : Ctr := ⟨143, [.v (.sl false (.pair (.sl false (.pair .str (.pair (.int .i64) (.pair .str .unit)))) (.pair (.sl false (.pair .str (.pair (.int .i64) (.pair .str .unit)))) (.pair (.sl false .str) .unit)))), .fn 95 []], [(.int .i64)], [], fun n x => slices_IndexFunc_Inhibit_impl_GoodInhibits_1 n x.1⟩
theorem slices_IndexFunc_Inhibit_impl_GoodInhibits_1.seg_eq : SegEq ty gl slices_IndexFunc_Inhibit_impl_GoodInhibits_1.F slices_IndexFunc_Inhibit_impl_GoodInhibits_1.md slices_IndexFunc_Inhibit_impl_GoodInhibits_1.T slices_IndexFunc_Inhibit_impl_GoodInhibits_1.spec slices_IndexFunc_Inhibit_impl_GoodInhibits_1.lb slices_IndexFunc_Inhibit_impl_GoodInhibits_1.st slices_IndexFunc_Inhibit_impl_GoodInhibits_1.step := by
  intro n goto y; cases y <;> kernel_rfl
theorem slices_IndexFunc_Inhibit_impl_GoodInhibits_1.text : Text Go.Proofs.Tryz.prog slices_IndexFunc_Inhibit_impl_GoodInhibits_1.F slices_IndexFunc_Inhibit_impl_GoodInhibits_1.spec := textOf Go.Proofs.Tryz.f143
theorem slices_IndexFunc_Inhibit_impl_GoodInhibits_1.ok : CtrOK Go.Proofs.Tryz.prog gl slices_IndexFunc_Inhibit_impl_GoodInhibits_1.spec :=
  ctr_okS tabs slices_IndexFunc_Inhibit_impl_GoodInhibits_1.text slices_IndexFunc_Inhibit_impl_GoodInhibits_1.seg_eq (fun n x => ⟨.p0 x.1, rfl, rfl, rfl⟩) (consC impl_GoodInhibits_1.ok (nilC))

/-! slices.ContainsFunc[[]loop.example/g00039/impl.Inhibit,loop.example/g00039/impl.Inhibit] -/
def slices_ContainsFunc_Inhibit_impl_GoodInhibits_1.T : List Ctr := [slices_IndexFunc_Inhibit_impl_GoodInhibits_1.spec]
def slices_ContainsFunc_Inhibit_impl_GoodInhibits_1.md : List (Nat × List Md) := [(143, [.v, .fn])]
noncomputable def slices_ContainsFunc_Inhibit_impl_GoodInhibits_1.F : Fun := ⟨(Go.Proofs.Tryz.f94.body).getD .skip, [.v (.sl false (.pair (.sl false (.pair .str (.pair (.int .i64) (.pair .str .unit)))) (.pair (.sl false (.pair .str (.pair (.int .i64) (.pair .str .unit)))) (.pair (.sl false .str) .unit)))), .fn 95 []], [(.tmp 4, .bool)], [], 0, []⟩
inductive slices_ContainsFunc_Inhibit_impl_GoodInhibits_1.Pt where
  | p0 (a0 : List ((List ((ByteArray) × ((Int) × ((ByteArray) × (Unit))))) × ((List ((ByteArray) × ((Int) × ((ByteArray) × (Unit))))) × ((List (ByteArray)) × (Unit)))))
def slices_ContainsFunc_Inhibit_impl_GoodInhibits_1.lb : slices_ContainsFunc_Inhibit_impl_GoodInhibits_1.Pt → Nat
  | .p0 _ => 0
def slices_ContainsFunc_Inhibit_impl_GoodInhibits_1.st : slices_ContainsFunc_Inhibit_impl_GoodInhibits_1.Pt → St
  | .p0 a0 => enter [.v (.sl false (.pair (.sl false (.pair .str (.pair (.int .i64) (.pair .str .unit)))) (.pair (.sl false (.pair .str (.pair (.int .i64) (.pair .str .unit)))) (.pair (.sl false .str) .unit)))) a0, .fn 95 []] 0
def slices_ContainsFunc_Inhibit_impl_GoodInhibits_1.step (n : Nat) (K : slices_ContainsFunc_Inhibit_impl_GoodInhibits_1.Pt → Option (Tup [.bool])) : slices_ContainsFunc_Inhibit_impl_GoodInhibits_1.Pt → Option (Tup [.bool])
  | .p0 a0 => (slices_IndexFunc_Inhibit_impl_GoodInhibits_1 n a0).bind fun (r4 : Int) => some (decide ((0 : Int) ≤ r4))
def slices_ContainsFunc_Inhibit_impl_GoodInhibits_1 (n : Nat) (a0 : List ((List ((ByteArray) × ((Int) × ((ByteArray) × (Unit))))) × ((List ((ByteArray) × ((Int) × ((ByteArray) × (Unit))))) × ((List (ByteArray)) × (Unit))))) : Option (Tup [.bool]) := goRec slices_ContainsFunc_Inhibit_impl_GoodInhibits_1.step n (.p0 a0)
def slices_ContainsFunc_Inhibit_impl_GoodInhibits_1.spec : Ctr := ⟨94, [.v (.sl false (.pair (.sl false (.pair .str (.pair (.int .i64) (.pair .str .unit)))) (.pair (.sl false (.pair .str (.pair (.int .i64) (.pair .str .unit)))) (.pair (.sl false .str) .unit)))), .fn 95 []], [.bool], [], fun n x => slices_ContainsFunc_Inhibit_impl_GoodInhibits_1 n x.1⟩
theorem slices_ContainsFunc_Inhibit_impl_GoodInhibits_1.seg_eq : SegEq ty gl slices_ContainsFunc_Inhibit_impl_GoodInhibits_1.F slices_ContainsFunc_Inhibit_impl_GoodInhibits_1.md slices_ContainsFunc_Inhibit_impl_GoodInhibits_1.T slices_ContainsFunc_Inhibit_impl_GoodInhibits_1.spec slices_ContainsFunc_Inhibit_impl_GoodInhibits_1.lb slices_ContainsFunc_Inhibit_impl_GoodInhibits_1.st slices_ContainsFunc_Inhibit_impl_GoodInhibits_1.step := by
  intro n goto y; cases y <;> kernel_rfl
theorem slices_ContainsFunc_Inhibit_impl_GoodInhibits_1.text : Text Go.Proofs.Tryz.prog slices_ContainsFunc_Inhibit_impl_GoodInhibits_1.F slices_ContainsFunc_Inhibit_impl_GoodInhibits_1.spec := textOf Go.Proofs.Tryz.f94
theorem slices_ContainsFunc_Inhibit_impl_GoodInhibits_1.ok : CtrOK Go.Proofs.Tryz.prog gl slices_ContainsFunc_Inhibit_impl_GoodInhibits_1.spec :=
  ctr_okS tabs slices_ContainsFunc_Inhibit_impl_GoodInhibits_1.text slices_ContainsFunc_Inhibit_impl_GoodInhibits_1.seg_eq (fun n x => ⟨.p0 x.1, rfl, rfl, rfl⟩) (consC slices_IndexFunc_Inhibit_impl_GoodInhibits_1.ok (nilC))

/-! loop.example/g00039/impl.GoodInhibits -/
def impl_GoodInhibits.T : List Ctr := [impl_GoodInhibits_1.spec, slices_ContainsFunc_Inhibit_impl_GoodInhibits_1.spec]
def impl_GoodInhibits.md : List (Nat × List Md) := [(94, [.v, .fn])]
noncomputable def impl_GoodInhibits.F : Fun := ⟨(Go.Proofs.Tryz.f44.body).getD .skip, [.v (.sl false (.pair (.sl false (.pair .str (.pair (.int .i64) (.pair .str .unit)))) (.pair (.sl false (.pair .str (.pair (.int .i64) (.pair .str .unit)))) (.pair (.sl false .str) .unit))))], [(.tmp 2, .bool)], [], 0, []⟩
inductive impl_GoodInhibits.Pt where
  | p0 (a0 : List ((List ((ByteArray) × ((Int) × ((ByteArray) × (Unit))))) × ((List ((ByteArray) × ((Int) × ((ByteArray) × (Unit))))) × ((List (ByteArray)) × (Unit)))))
def impl_GoodInhibits.lb : impl_GoodInhibits.Pt → Nat
  | .p0 _ => 0
def impl_GoodInhibits.st : impl_GoodInhibits.Pt → St
  | .p0 a0 => enter [.v (.sl false (.pair (.sl false (.pair .str (.pair (.int .i64) (.pair .str .unit)))) (.pair (.sl false (.pair .str (.pair (.int .i64) (.pair .str .unit)))) (.pair (.sl false .str) .unit)))) a0] 0
def impl_GoodInhibits.step (n : Nat) (K : impl_GoodInhibits.Pt → Option (Tup [.bool])) : impl_GoodInhibits.Pt → Option (Tup [.bool])
  | .p0 a0 => cond (decide (((List.length a0) : Int) ≤ (20 : Int))) ((slices_ContainsFunc_Inhibit_impl_GoodInhibits_1 n a0).bind fun r4 => some (!r4)) (some false)
def impl_GoodInhibits (n : Nat) (a0 : List ((List ((ByteArray) × ((Int) × ((ByteArray) × (Unit))))) × ((List ((ByteArray) × ((Int) × ((ByteArray) × (Unit))))) × ((List (ByteArray)) × (Unit))))) : Option (Tup [.bool]) := goRec impl_GoodInhibits.step n (.p0 a0)
def impl_GoodInhibits.spec : Ctr := ⟨44, [.v (.sl false (.pair (.sl false (.pair .str (.pair (.int .i64) (.pair .str .unit)))) (.pair (.sl false (.pair .str (.pair (.int .i64) (.pair .str .unit)))) (.pair (.sl false .str) .unit))))], [.bool], [], fun n x => impl_GoodInhibits n x.1⟩
theorem impl_GoodInhibits.seg_eq : SegEq ty gl impl_GoodInhibits.F impl_GoodInhibits.md impl_GoodInhibits.T impl_GoodInhibits.spec impl_GoodInhibits.lb impl_GoodInhibits.st impl_GoodInhibits.step := by
  intro n goto y; cases y <;> kernel_rfl
theorem impl_GoodInhibits.text : Text Go.Proofs.Tryz.prog impl_GoodInhibits.F impl_GoodInhibits.spec := textOf Go.Proofs.Tryz.f44
theorem impl_GoodInhibits.ok : CtrOK Go.Proofs.Tryz.prog gl impl_GoodInhibits.spec :=
  ctr_okS tabs impl_GoodInhibits.text impl_GoodInhibits.seg_eq (fun n x => ⟨.p0 x.1, rfl, rfl, rfl⟩) (consC impl_GoodInhibits_1.ok (consC slices_ContainsFunc_Inhibit_impl_GoodInhibits_1.ok (nilC)))

/-! loop.example/g00039/impl.goodRanges$1 -/
def impl_goodRanges_1.T : List Ctr := []
def impl_goodRanges_1.md : List (Nat × List Md) := []
noncomputable def impl_goodRanges_1.F : Fun := ⟨(Go.Proofs.Tryz.f148.body).getD .skip, [.v (.pair (.int .i64) (.pair (.int .i64) .unit)), .q (.int .i64), .q (.int .i64)], [(.tmp 4, .bool)], [], 0, []⟩
inductive impl_goodRanges_1.Pt where
  | p0 (a0 : (Int) × ((Int) × (Unit))) (a1 : Int) (a2 : Int)
def impl_goodRanges_1.lb : impl_goodRanges_1.Pt → Nat
  | .p0 _ _ _ => 0
def impl_goodRanges_1.st : impl_goodRanges_1.Pt → St
  | .p0 a0 a1 a2 => enter [.v (.pair (.int .i64) (.pair (.int .i64) .unit)) a0, .q (.int .i64) a1, .q (.int .i64) a2] 0
def impl_goodRanges_1.step (n : Nat) (K : impl_goodRanges_1.Pt → Option (Tup [.bool])) : impl_goodRanges_1.Pt → Option (Tup [.bool])
  | .p0 a0 a1 a2 => cond (decide (a0.2.1 < a0.1)) (some true) (cond (decide (a0.1 < a1)) (some true) (some (decide (a2 < a0.2.1))))
def impl_goodRanges_1 (n : Nat) (a0 : (Int) × ((Int) × (Unit))) (a1 : Int) (a2 : Int) : Option (Tup [.bool]) := goRec impl_goodRanges_1.step n (.p0 a0 a1 a2)
def impl_goodRanges_1.spec : Ctr := ⟨148, [.v (.pair (.int .i64) (.pair (.int .i64) .unit)), .q (.int .i64), .q (.int .i64)], [.bool], [], fun n x => impl_goodRanges_1 n x.1 x.2.1 x.2.2.1⟩
theorem impl_goodRanges_1.seg_eq : SegEq ty gl impl_goodRanges_1.F impl_goodRanges_1.md impl_goodRanges_1.T impl_goodRanges_1.spec impl_goodRanges_1.lb impl_goodRanges_1.st impl_goodRanges_1.step := by
  intro n goto y; cases y <;> kernel_rfl
theorem impl_goodRanges_1.text : Text Go.Proofs.Tryz.prog impl_goodRanges_1.F impl_goodRanges_1.spec := textOf Go.Proofs.Tryz.f148
theorem impl_goodRanges_1.ok : CtrOK Go.Proofs.Tryz.prog gl impl_goodRanges_1.spec :=
  ctr_okS tabs impl_goodRanges_1.text impl_goodRanges_1.seg_eq (fun n x => ⟨.p0 x.1 x.2.1 x.2.2.1, rfl, rfl, rfl⟩) (nilC)

/-! slices.IndexFunc[[]loop.example/g00039/impl.Range,loop.example/g00039/impl.Range] -/
def slices_IndexFunc_Range_impl_goodRanges_1.T : List Ctr := [impl_goodRanges_1.spec]
def slices_IndexFunc_Range_impl_goodRanges_1.md : List (Nat × List Md) := [(148, [.v, .q (.int .i64), .q (.int .i64)]), (1000148, [.q (.int .i64), .q (.int .i64)])]
noncomputable def slices_IndexFunc_Range_impl_goodRanges_1.F : Fun := ⟨(Go.Proofs.Tryz.f184.body).getD .skip, [.v (.sl false (.pair (.int .i64) (.pair (.int .i64) .unit))), .fn 148 [.q (.int .i64), .q (.int .i64)]], [(.tmp 4, (.int .i64))], [], 0, [(7, ⟨[0, 1, 7, 8], [], [], false⟩)]⟩
inductive slices_IndexFunc_Range_impl_goodRanges_1.Pt where
  | p0 (a0 : List ((Int) × ((Int) × (Unit)))) (a1 : Int) (a2 : Int)
  | p7 (y1 : List ((Int) × ((Int) × (Unit)))) (y2 : Int) (y3 : Int) (y4 : Int) (y5 : Int)
def slices_IndexFunc_Range_impl_goodRanges_1.lb : slices_IndexFunc_Range_impl_goodRanges_1.Pt → Nat
  | .p0 _ _ _ => 0
  | .p7 _ _ _ _ _ => 7
def slices_IndexFunc_Range_impl_goodRanges_1.st : slices_IndexFunc_Range_impl_goodRanges_1.Pt → St
  | .p0 a0 a1 a2 => enter [.v (.sl false (.pair (.int .i64) (.pair (.int .i64) .unit))) a0, .fn 148 [.q (.int .i64) a1, .q (.int .i64) a2]] 0
  | .p7 y1 y2 y3 y4 y5 => ⟨[(0, .im (.sl false (.pair (.int .i64) (.pair (.int .i64) .unit))) y1), (1, .fn 148 [.po 0 0, .po 1 0]), (7, .im (.int .i64) y2), (8, .im (.int .i64) y3)], [(0, .imm (.int .i64) y4), (1, .imm (.int .i64) y5)], 2⟩
def slices_IndexFunc_Range_impl_goodRanges_1.step (n : Nat) (K : slices_IndexFunc_Range_impl_goodRanges_1.Pt → Option (Tup [(.int .i64)])) : slices_IndexFunc_Range_impl_goodRanges_1.Pt → Option (Tup [(.int .i64)])
  | .p0 a0 a1 a2 => K (.p7 a0 ((List.length a0) : Int) (0 : Int) a1 a2)
  | .p7 y1 y2 y3 y4 y5 => cond (decide (y3 < y2)) (cond (inB y3 (List.length y1)) ((impl_goodRanges_1 n (List.getD y1 (Int.toNat y3) default) (List.getD [y4] 0 default) (List.getD [y5] 0 default)).bind fun r8 => cond r8 (some y3) (K (.p7 y1 y2 (IntKind.wrap .i64 (y3 + (1 : Int))) y4 y5))) (none)) (some (-(1 : Int)))
def slices_IndexFunc_Range_impl_goodRanges_1 (n : Nat) (a0 : List ((Int) × ((Int) × (Unit)))) (a1 : Int) (a2 : Int) : Option (Tup [(.int .i64)]) := goRec slices_IndexFunc_Range_impl_goodRanges_1.step n (.p0 a0 a1 a2)
def slices_IndexFunc_Range_impl_goodRanges_1.spec : Ctr := ⟨184, [.v (.sl false (.pair (.int .i64) (.pair (.int .i64) .unit))), .fn 148 [.q (.int .i64), .q (.int .i64)]], [(.int .i64)], [], fun n x => slices_IndexFunc_Range_impl_goodRanges_1 n x.1 x.2.1.1 x.2.1.2.1⟩
theorem slices_IndexFunc_Range_impl_goodRanges_1.seg_eq : SegEq ty gl slices_IndexFunc_Range_impl_goodRanges_1.F slices_IndexFunc_Range_impl_goodRanges_1.md slices_IndexFunc_Range_impl_goodRanges_1.T slices_IndexFunc_Range_impl_goodRanges_1.spec slices_IndexFunc_Range_impl_goodRanges_1.lb slices_IndexFunc_Range_impl_goodRanges_1.st slices_IndexFunc_Range_impl_goodRanges_1.step := by
  intro n goto y; cases y <;> kernel_rfl
theorem slices_IndexFunc_Range_impl_goodRanges_1.text : Text Go.Proofs.Tryz.prog slices_IndexFunc_Range_impl_goodRanges_1.F slices_IndexFunc_Range_impl_goodRanges_1.spec := textOf Go.Proofs.Tryz.f184
theorem slices_IndexFunc_Range_impl_goodRanges_1.ok : CtrOK Go.Proofs.Tryz.prog gl slices_IndexFunc_Range_impl_goodRanges_1.spec :=
  ctr_okS tabs slices_IndexFunc_Range_impl_goodRanges_1.text slices_IndexFunc_Range_impl_goodRanges_1.seg_eq (fun n x => ⟨.p0 x.1 x.2.1.1 x.2.1.2.1, rfl, rfl, rfl⟩) (consC impl_goodRanges_1.ok (nilC))

/-! slices.ContainsFunc[[]loop.example/g00039/impl.Range,loop.example/g00039/impl.Range] -/
def slices_ContainsFunc_Range_impl_goodRanges_1.T : List Ctr := [slices_IndexFunc_Range_impl_goodRanges_1.spec]
def slices_ContainsFunc_Range_impl_goodRanges_1.md : List (Nat × List Md) := [(184, [.v, .fn]), (148, [.v, .q (.int .i64), .q (.int .i64)]), (1000148, [.q (.int .i64), .q (.int .i64)])]
noncomputable def slices_ContainsFunc_Range_impl_goodRanges_1.F : Fun := ⟨(Go.Proofs.Tryz.f147.body).getD .skip, [.v (.sl false (.pair (.int .i64) (.pair (.int .i64) .unit))), .fn 148 [.q (.int .i64), .q (.int .i64)]], [(.tmp 4, .bool)], [], 0, []⟩
inductive slices_ContainsFunc_Range_impl_goodRanges_1.Pt where
  | p0 (a0 : List ((Int) × ((Int) × (Unit)))) (a1 : Int) (a2 : Int)
def slices_ContainsFunc_Range_impl_goodRanges_1.lb : slices_ContainsFunc_Range_impl_goodRanges_1.Pt → Nat
  | .p0 _ _ _ => 0
def slices_ContainsFunc_Range_impl_goodRanges_1.st : slices_ContainsFunc_Range_impl_goodRanges_1.Pt → St
  | .p0 a0 a1 a2 => enter [.v (.sl false (.pair (.int .i64) (.pair (.int .i64) .unit))) a0, .fn 148 [.q (.int .i64) a1, .q (.int .i64) a2]] 0
def slices_ContainsFunc_Range_impl_goodRanges_1.step (n : Nat) (K : slices_ContainsFunc_Range_impl_goodRanges_1.Pt → Option (Tup [.bool])) : slices_ContainsFunc_Range_impl_goodRanges_1.Pt → Option (Tup [.bool])
  | .p0 a0 a1 a2 => (slices_IndexFunc_Range_impl_goodRanges_1 n a0 (List.getD [a1] 0 default) (List.getD [a2] 0 default)).bind fun (r6 : Int) => some (decide ((0 : Int) ≤ r6))
def slices_ContainsFunc_Range_impl_goodRanges_1 (n : Nat) (a0 : List ((Int) × ((Int) × (Unit)))) (a1 : Int) (a2 : Int) : Option (Tup [.bool]) := goRec slices_ContainsFunc_Range_impl_goodRanges_1.step n (.p0 a0 a1 a2)
def slices_ContainsFunc_Range_impl_goodRanges_1.spec : Ctr := ⟨147, [.v (.sl false (.pair (.int .i64) (.pair (.int .i64) .unit))), .fn 148 [.q (.int .i64), .q (.int .i64)]], [.bool], [], fun n x => slices_ContainsFunc_Range_impl_goodRanges_1 n x.1 x.2.1.1 x.2.1.2.1⟩
theorem slices_ContainsFunc_Range_impl_goodRanges_1.seg_eq : SegEq ty gl slices_ContainsFunc_Range_impl_goodRanges_1.F slices_ContainsFunc_Range_impl_goodRanges_1.md slices_ContainsFunc_Range_impl_goodRanges_1.T slices_ContainsFunc_Range_impl_goodRanges_1.spec slices_ContainsFunc_Range_impl_goodRanges_1.lb slices_ContainsFunc_Range_impl_goodRanges_1.st slices_ContainsFunc_Range_impl_goodRanges_1.step := by
  intro n goto y; cases y <;> kernel_rfl
theorem slices_ContainsFunc_Range_impl_goodRanges_1.text : Text Go.Proofs.Tryz.prog slices_ContainsFunc_Range_impl_goodRanges_1.F slices_ContainsFunc_Range_impl_goodRanges_1.spec := textOf Go.Proofs.Tryz.f147
theorem slices_ContainsFunc_Range_impl_goodRanges_1.ok : CtrOK Go.Proofs.Tryz.prog gl slices_ContainsFunc_Range_impl_goodRanges_1.spec :=
  ctr_okS tabs slices_ContainsFunc_Range_impl_goodRanges_1.text slices_ContainsFunc_Range_impl_goodRanges_1.seg_eq (fun n x => ⟨.p0 x.1 x.2.1.1 x.2.1.2.1, rfl, rfl, rfl⟩) (consC slices_IndexFunc_Range_impl_goodRanges_1.ok (nilC))

/-! loop.example/g00039/impl.goodRanges -/
def impl_goodRanges.T : List Ctr := [impl_goodRanges_1.spec, slices_ContainsFunc_Range_impl_goodRanges_1.spec]
def impl_goodRanges.md : List (Nat × List Md) := [(148, [.v, .q (.int .i64), .q (.int .i64)]), (1000148, [.q (.int .i64), .q (.int .i64)]), (147, [.v, .fn])]
noncomputable def impl_goodRanges.F : Fun := ⟨(Go.Proofs.Tryz.f98.body).getD .skip, [.v (.sl false (.pair (.int .i64) (.pair (.int .i64) .unit))), .v (.int .i64), .v (.int .i64)], [(.tmp 6, .bool)], [], 0, []⟩
inductive impl_goodRanges.Pt where
  | p0 (a0 : List ((Int) × ((Int) × (Unit)))) (a1 : Int) (a2 : Int)
def impl_goodRanges.lb : impl_goodRanges.Pt → Nat
  | .p0 _ _ _ => 0
def impl_goodRanges.st : impl_goodRanges.Pt → St
  | .p0 a0 a1 a2 => enter [.v (.sl false (.pair (.int .i64) (.pair (.int .i64) .unit))) a0, .v (.int .i64) a1, .v (.int .i64) a2] 0
def impl_goodRanges.step (n : Nat) (K : impl_goodRanges.Pt → Option (Tup [.bool])) : impl_goodRanges.Pt → Option (Tup [.bool])
  | .p0 a0 a1 a2 => cond (decide (((List.length a0) : Int) ≤ (10 : Int))) ((slices_ContainsFunc_Range_impl_goodRanges_1 n a0 a1 a2).bind fun r6 => some (!r6)) (some false)
def impl_goodRanges (n : Nat) (a0 : List ((Int) × ((Int) × (Unit)))) (a1 : Int) (a2 : Int) : Option (Tup [.bool]) := goRec impl_goodRanges.step n (.p0 a0 a1 a2)
def impl_goodRanges.spec : Ctr := ⟨98, [.v (.sl false (.pair (.int .i64) (.pair (.int .i64) .unit))), .v (.int .i64), .v (.int .i64)], [.bool], [], fun n x => impl_goodRanges n x.1 x.2.1 x.2.2.1⟩
theorem impl_goodRanges.seg_eq : SegEq ty gl impl_goodRanges.F impl_goodRanges.md impl_goodRanges.T impl_goodRanges.spec impl_goodRanges.lb impl_goodRanges.st impl_goodRanges.step := by
  intro n goto y; cases y <;> kernel_rfl
theorem impl_goodRanges.text : Text Go.Proofs.Tryz.prog impl_goodRanges.F impl_goodRanges.spec := textOf Go.Proofs.Tryz.f98
theorem impl_goodRanges.ok : CtrOK Go.Proofs.Tryz.prog gl impl_goodRanges.spec :=
  ctr_okS tabs impl_goodRanges.text impl_goodRanges.seg_eq (fun n x => ⟨.p0 x.1 x.2.1 x.2.2.1, rfl, rfl, rfl⟩) (consC impl_goodRanges_1.ok (consC slices_ContainsFunc_Range_impl_goodRanges_1.ok (nilC)))

/-! loop.example/g00039/impl.GoodInterval -/
def impl_GoodInterval.T : List Ctr := [impl_rising_int.spec, impl_goodRanges.spec]
def impl_GoodInterval.md : List (Nat × List Md) := []
noncomputable def impl_GoodInterval.F : Fun := ⟨(Go.Proofs.Tryz.f47.body).getD .skip, [.v (.pair (.int .i64) (.pair (.sl false (.pair (.int .i64) (.pair (.int .i64) .unit))) (.pair (.sl false (.pair (.int .i64) (.pair (.int .i64) .unit))) (.pair (.sl false (.pair (.int .i64) (.pair (.int .i64) .unit))) (.pair (.sl false (.pair (.int .i64) (.pair (.int .i64) .unit))) (.pair (.sl false (.pair (.int .i64) (.pair (.int .i64) .unit))) (.pair (.sl false (.int .i64)) .unit)))))))], [(.tmp 2, .bool)], [], 0, [(3, ⟨[1, 3], [], [(1, 1, (.pair (.int .i64) (.pair (.int .i64) .unit))), (1, 2, (.pair (.int .i64) (.pair (.int .i64) .unit))), (1, 3, (.pair (.int .i64) (.pair (.int .i64) .unit))), (1, 4, (.pair (.int .i64) (.pair (.int .i64) .unit))), (1, 5, (.pair (.int .i64) (.pair (.int .i64) .unit))), (1, 6, (.int .i64))], false⟩), (9, ⟨[1, 3, 53, 54, 55], [(53, (.pair (.int .i64) (.pair (.int .i64) .unit)))], [(1, 1, (.pair (.int .i64) (.pair (.int .i64) .unit))), (1, 2, (.pair (.int .i64) (.pair (.int .i64) .unit))), (1, 3, (.pair (.int .i64) (.pair (.int .i64) .unit))), (1, 4, (.pair (.int .i64) (.pair (.int .i64) .unit))), (1, 5, (.pair (.int .i64) (.pair (.int .i64) .unit))), (1, 6, (.int .i64))], false⟩), (26, ⟨[3, 72, 73, 74], [(72, (.int .i64))], [], false⟩)]⟩
inductive impl_GoodInterval.Pt where
  | p0 (a0 : (Int) × ((List ((Int) × ((Int) × (Unit)))) × ((List ((Int) × ((Int) × (Unit)))) × ((List ((Int) × ((Int) × (Unit)))) × ((List ((Int) × ((Int) × (Unit)))) × ((List ((Int) × ((Int) × (Unit)))) × ((List (Int)) × (Unit))))))))
  | p3 (y1 : Bool) (y2 : Int) (y3 : List ((Int) × ((Int) × (Unit)))) (y4 : List ((Int) × ((Int) × (Unit)))) (y5 : List ((Int) × ((Int) × (Unit)))) (y6 : List ((Int) × ((Int) × (Unit)))) (y7 : List ((Int) × ((Int) × (Unit)))) (y8 : List (Int))
  | p9 (y1 : Bool) (y2 : List ((Int) × ((Int) × (Unit)))) (y3 : Int) (y4 : Int) (y5 : Int) (y6 : List ((Int) × ((Int) × (Unit)))) (y7 : List ((Int) × ((Int) × (Unit)))) (y8 : List ((Int) × ((Int) × (Unit)))) (y9 : List ((Int) × ((Int) × (Unit)))) (y10 : List ((Int) × ((Int) × (Unit)))) (y11 : List (Int))
  | p26 (y1 : Bool) (y2 : List (Int)) (y3 : Int) (y4 : Int)
def impl_GoodInterval.lb : impl_GoodInterval.Pt → Nat
  | .p0 _ => 0
  | .p3 _ _ _ _ _ _ _ _ => 3
  | .p9 _ _ _ _ _ _ _ _ _ _ _ => 9
  | .p26 _ _ _ _ => 26
def impl_GoodInterval.st : impl_GoodInterval.Pt → St
  | .p0 a0 => enter [.v (.pair (.int .i64) (.pair (.sl false (.pair (.int .i64) (.pair (.int .i64) .unit))) (.pair (.sl false (.pair (.int .i64) (.pair (.int .i64) .unit))) (.pair (.sl false (.pair (.int .i64) (.pair (.int .i64) .unit))) (.pair (.sl false (.pair (.int .i64) (.pair (.int .i64) .unit))) (.pair (.sl false (.pair (.int .i64) (.pair (.int .i64) .unit))) (.pair (.sl false (.int .i64)) .unit))))))) a0] 0
  | .p3 y1 y2 y3 y4 y5 y6 y7 y8 => ⟨[(1, .po 0 0), (3, .im .bool y1)], [(0, .obj [.im (.int .i64) y2, .im (.sl false (.pair (.int .i64) (.pair (.int .i64) .unit))) y3, .im (.sl false (.pair (.int .i64) (.pair (.int .i64) .unit))) y4, .im (.sl false (.pair (.int .i64) (.pair (.int .i64) .unit))) y5, .im (.sl false (.pair (.int .i64) (.pair (.int .i64) .unit))) y6, .im (.sl false (.pair (.int .i64) (.pair (.int .i64) .unit))) y7, .im (.sl false (.int .i64)) y8])], 1⟩
  | .p9 y1 y2 y3 y4 y5 y6 y7 y8 y9 y10 y11 => ⟨[(1, .po 0 0), (3, .im .bool y1), (53, .im (.sl false (.pair (.int .i64) (.pair (.int .i64) .unit))) y2), (54, .im (.int .i64) y3), (55, .im (.int .i64) y4)], [(0, .obj [.im (.int .i64) y5, .im (.sl false (.pair (.int .i64) (.pair (.int .i64) .unit))) y6, .im (.sl false (.pair (.int .i64) (.pair (.int .i64) .unit))) y7, .im (.sl false (.pair (.int .i64) (.pair (.int .i64) .unit))) y8, .im (.sl false (.pair (.int .i64) (.pair (.int .i64) .unit))) y9, .im (.sl false (.pair (.int .i64) (.pair (.int .i64) .unit))) y10, .im (.sl false (.int .i64)) y11])], 1⟩
  | .p26 y1 y2 y3 y4 => ⟨[(3, .im .bool y1), (72, .im (.sl false (.int .i64)) y2), (73, .im (.int .i64) y3), (74, .im (.int .i64) y4)], [], 0⟩
def impl_GoodInterval.step (n : Nat) (K : impl_GoodInterval.Pt → Option (Tup [.bool])) : impl_GoodInterval.Pt → Option (Tup [.bool])
  | .p0 a0 => cond (decide ((-(1440 : Int)) ≤ a0.1)) (cond (decide (a0.1 ≤ (1440 : Int))) ((impl_goodRanges n a0.2.1 (0 : Int) (1439 : Int)).bind fun r4 => cond r4 ((impl_goodRanges n a0.2.2.1 (0 : Int) (6 : Int)).bind fun r5 => cond r5 ((impl_goodRanges n a0.2.2.2.1 (-(31 : Int)) (31 : Int)).bind fun r6 => cond r6 ((impl_goodRanges n a0.2.2.2.2.1 (1 : Int) (12 : Int)).bind fun r7 => cond r7 ((impl_goodRanges n a0.2.2.2.2.2.1 (1970 : Int) (40000 : Int)).bind fun r8 => cond r8 (cond (decide (((List.length a0.2.2.2.2.2.2.1) : Int) ≤ (10 : Int))) ((impl_rising_int n a0.2.2.2.2.2.2.1).bind fun r9 => K (.p3 r9 a0.1 a0.2.1 a0.2.2.1 a0.2.2.2.1 a0.2.2.2.2.1 a0.2.2.2.2.2.1 a0.2.2.2.2.2.2.1)) (K (.p3 false a0.1 a0.2.1 a0.2.2.1 a0.2.2.2.1 a0.2.2.2.2.1 a0.2.2.2.2.2.1 a0.2.2.2.2.2.2.1))) (K (.p3 false a0.1 a0.2.1 a0.2.2.1 a0.2.2.2.1 a0.2.2.2.2.1 a0.2.2.2.2.2.1 a0.2.2.2.2.2.2.1))) (K (.p3 false a0.1 a0.2.1 a0.2.2.1 a0.2.2.2.1 a0.2.2.2.2.1 a0.2.2.2.2.2.1 a0.2.2.2.2.2.2.1))) (K (.p3 false a0.1 a0.2.1 a0.2.2.1 a0.2.2.2.1 a0.2.2.2.2.1 a0.2.2.2.2.2.1 a0.2.2.2.2.2.2.1))) (K (.p3 false a0.1 a0.2.1 a0.2.2.1 a0.2.2.2.1 a0.2.2.2.2.1 a0.2.2.2.2.2.1 a0.2.2.2.2.2.2.1))) (K (.p3 false a0.1 a0.2.1 a0.2.2.1 a0.2.2.2.1 a0.2.2.2.2.1 a0.2.2.2.2.2.1 a0.2.2.2.2.2.2.1))) (K (.p3 false a0.1 a0.2.1 a0.2.2.1 a0.2.2.2.1 a0.2.2.2.2.1 a0.2.2.2.2.2.1 a0.2.2.2.2.2.2.1))) (K (.p3 false a0.1 a0.2.1 a0.2.2.1 a0.2.2.2.1 a0.2.2.2.2.1 a0.2.2.2.2.2.1 a0.2.2.2.2.2.2.1))
  | .p3 y1 y2 y3 y4 y5 y6 y7 y8 => K (.p9 y1 y5 ((List.length y5) : Int) (0 : Int) y2 y3 y4 y5 y6 y7 y8)
  | .p9 y1 y2 y3 y4 y5 y6 y7 y8 y9 y10 y11 => cond (decide (y4 < y3)) (cond (inB y4 (List.length y2)) (cond y1 (cond (decide ((0 : Int) < (List.getD y2 (Int.toNat y4) default).1)) (K (.p9 true y2 y3 (IntKind.wrap .i64 (y4 + (1 : Int))) y5 y6 y7 y8 y9 y10 y11)) (K (.p9 (decide ((List.getD y2 (Int.toNat y4) default).2.1 < (0 : Int))) y2 y3 (IntKind.wrap .i64 (y4 + (1 : Int))) y5 y6 y7 y8 y9 y10 y11))) (K (.p9 false y2 y3 (IntKind.wrap .i64 (y4 + (1 : Int))) y5 y6 y7 y8 y9 y10 y11))) (none)) (K (.p26 y1 y11 ((List.length y11) : Int) (0 : Int)))
  | .p26 y1 y2 y3 y4 => cond (decide (y4 < y3)) (cond (inB y4 (List.length y2)) (cond y1 (cond (decide ((0 : Int) ≤ (List.getD y2 (Int.toNat y4) default))) (K (.p26 (decide ((List.getD y2 (Int.toNat y4) default) ≤ (20000000 : Int))) y2 y3 (IntKind.wrap .i64 (y4 + (1 : Int))))) (K (.p26 false y2 y3 (IntKind.wrap .i64 (y4 + (1 : Int)))))) (K (.p26 false y2 y3 (IntKind.wrap .i64 (y4 + (1 : Int)))))) (none)) (some y1)
def impl_GoodInterval (n : Nat) (a0 : (Int) × ((List ((Int) × ((Int) × (Unit)))) × ((List ((Int) × ((Int) × (Unit)))) × ((List ((Int) × ((Int) × (Unit)))) × ((List ((Int) × ((Int) × (Unit)))) × ((List ((Int) × ((Int) × (Unit)))) × ((List (Int)) × (Unit)))))))) : Option (Tup [.bool]) := goRec impl_GoodInterval.step n (.p0 a0)
def impl_GoodInterval.spec : Ctr := ⟨47, [.v (.pair (.int .i64) (.pair (.sl false (.pair (.int .i64) (.pair (.int .i64) .unit))) (.pair (.sl false (.pair (.int .i64) (.pair (.int .i64) .unit))) (.pair (.sl false (.pair (.int .i64) (.pair (.int .i64) .unit))) (.pair (.sl false (.pair (.int .i64) (.pair (.int .i64) .unit))) (.pair (.sl false (.pair (.int .i64) (.pair (.int .i64) .unit))) (.pair (.sl false (.int .i64)) .unit)))))))], [.bool], [], fun n x => impl_GoodInterval n x.1⟩
theorem impl_GoodInterval.seg_eq : SegEq ty gl impl_GoodInterval.F impl_GoodInterval.md impl_GoodInterval.T impl_GoodInterval.spec impl_GoodInterval.lb impl_GoodInterval.st impl_GoodInterval.step := by
  intro n goto y; cases y <;> kernel_rfl
theorem impl_GoodInterval.text : Text Go.Proofs.Tryz.prog impl_GoodInterval.F impl_GoodInterval.spec := textOf Go.Proofs.Tryz.f47
theorem impl_GoodInterval.ok : CtrOK Go.Proofs.Tryz.prog gl impl_GoodInterval.spec :=
  ctr_okS tabs impl_GoodInterval.text impl_GoodInterval.seg_eq (fun n x => ⟨.p0 x.1, rfl, rfl, rfl⟩) (consC impl_rising_int.ok (consC impl_goodRanges.ok (nilC)))

/-! loop.example/g00039/impl.GoodNotify$1 -/
def impl_GoodNotify_1.T : List Ctr := [impl_GoodInterval.spec]
def impl_GoodNotify_1.md : List (Nat × List Md) := []
noncomputable def impl_GoodNotify_1.F : Fun := ⟨(Go.Proofs.Tryz.f46.body).getD .skip, [.v (.pair (.int .i64) (.pair (.sl false (.pair (.int .i64) (.pair (.int .i64) .unit))) (.pair (.sl false (.pair (.int .i64) (.pair (.int .i64) .unit))) (.pair (.sl false (.pair (.int .i64) (.pair (.int .i64) .unit))) (.pair (.sl false (.pair (.int .i64) (.pair (.int .i64) .unit))) (.pair (.sl false (.pair (.int .i64) (.pair (.int .i64) .unit))) (.pair (.sl false (.int .i64)) .unit)))))))], [(.tmp 2, .bool)], [], 0, []⟩
inductive impl_GoodNotify_1.Pt where
  | p0 (a0 : (Int) × ((List ((Int) × ((Int) × (Unit)))) × ((List ((Int) × ((Int) × (Unit)))) × ((List ((Int) × ((Int) × (Unit)))) × ((List ((Int) × ((Int) × (Unit)))) × ((List ((Int) × ((Int) × (Unit)))) × ((List (Int)) × (Unit))))))))
def impl_GoodNotify_1.lb : impl_GoodNotify_1.Pt → Nat
  | .p0 _ => 0
def impl_GoodNotify_1.st : impl_GoodNotify_1.Pt → St
  | .p0 a0 => enter [.v (.pair (.int .i64) (.pair (.sl false (.pair (.int .i64) (.pair (.int .i64) .unit))) (.pair (.sl false (.pair (.int .i64) (.pair (.int .i64) .unit))) (.pair (.sl false (.pair (.int .i64) (.pair (.int .i64) .unit))) (.pair (.sl false (.pair (.int .i64) (.pair (.int .i64) .unit))) (.pair (.sl false (.pair (.int .i64) (.pair (.int .i64) .unit))) (.pair (.sl false (.int .i64)) .unit))))))) a0] 0
def impl_GoodNotify_1.step (n : Nat) (K : impl_GoodNotify_1.Pt → Option (Tup [.bool])) : impl_GoodNotify_1.Pt → Option (Tup [.bool])
  | .p0 a0 => (impl_GoodInterval n a0).bind fun r4 => some (!r4)
def impl_GoodNotify_1 (n : Nat) (a0 : (Int) × ((List ((Int) × ((Int) × (Unit)))) × ((List ((Int) × ((Int) × (Unit)))) × ((List ((Int) × ((Int) × (Unit)))) × ((List ((Int) × ((Int) × (Unit)))) × ((List ((Int) × ((Int) × (Unit)))) × ((List (Int)) × (Unit)))))))) : Option (Tup [.bool]) := goRec impl_GoodNotify_1.step n (.p0 a0)
def impl_GoodNotify_1.spec : Ctr := ⟨46, [.v (.pair (.int .i64) (.pair (.sl false (.pair (.int .i64) (.pair (.int .i64) .unit))) (.pair (.sl false (.pair (.int .i64) (.pair (.int .i64) .unit))) (.pair (.sl false (.pair (.int .i64) (.pair (.int .i64) .unit))) (.pair (.sl false (.pair (.int .i64) (.pair (.int .i64) .unit))) (.pair (.sl false (.pair (.int .i64) (.pair (.int .i64) .unit))) (.pair (.sl false (.int .i64)) .unit)))))))], [.bool], [], fun n x => impl_GoodNotify_1 n x.1⟩
theorem impl_GoodNotify_1.seg_eq : SegEq ty gl impl_GoodNotify_1.F impl_GoodNotify_1.md impl_GoodNotify_1.T impl_GoodNotify_1.spec impl_GoodNotify_1.lb impl_GoodNotify_1.st impl_GoodNotify_1.step := by
  intro n goto y; cases y <;> kernel_rfl
theorem impl_GoodNotify_1.text : Text Go.Proofs.Tryz.prog impl_GoodNotify_1.F impl_GoodNotify_1.spec := textOf Go.Proofs.Tryz.f46
theorem impl_GoodNotify_1.ok : CtrOK Go.Proofs.Tryz.prog gl impl_GoodNotify_1.spec :=
  ctr_okS tabs impl_GoodNotify_1.text impl_GoodNotify_1.seg_eq (fun n x => ⟨.p0 x.1, rfl, rfl, rfl⟩) (consC impl_GoodInterval.ok (nilC))

/-! slices.IndexFunc[[]loop.example/g00039/impl.Interval,loop.example/g00039/impl.Interval] -/
def slices_IndexFunc_Interval_impl_GoodNotify_1.T : List Ctr := [impl_GoodNotify_1.spec]
def slices_IndexFunc_Interval_impl_GoodNotify_1.md : List (Nat × List Md) := []
noncomputable def slices_IndexFunc_Interval_impl_GoodNotify_1.F : Fun := ⟨(Go.Proofs.Tryz.f97.body).getD .skip, [.v (.sl false (.pair (.int .i64) (.pair (.sl false (.pair (.int .i64) (.pair (.int .i64) .unit))) (.pair (.sl false (.pair (.int .i64) (.pair (.int .i64) .unit))) (.pair (.sl false (.pair (.int .i64) (.pair (.int .i64) .unit))) (.pair (.sl false (.pair (.int .i64) (.pair (.int .i64) .unit))) (.pair (.sl false (.pair (.int .i64) (.pair (.int .i64) .unit))) (.pair (.sl false (.int .i64)) .unit)))))))), .fn 46 []], [(.tmp 4, (.int .i64))], [], 0, [(7, ⟨[0, 1, 7, 8], [], [], false⟩)]⟩
inductive slices_IndexFunc_Interval_impl_GoodNotify_1.Pt where
  | p0 (a0 : List ((Int) × ((List ((Int) × ((Int) × (Unit)))) × ((List ((Int) × ((Int) × (Unit)))) × ((List ((Int) × ((Int) × (Unit)))) × ((List ((Int) × ((Int) × (Unit)))) × ((List ((Int) × ((Int) × (Unit)))) × ((List (Int)) × (Unit)))))))))
  | p7 (y1 : List ((Int) × ((List ((Int) × ((Int) × (Unit)))) × ((List ((Int) × ((Int) × (Unit)))) × ((List ((Int) × ((Int) × (Unit)))) × ((List ((Int) × ((Int) × (Unit)))) × ((List ((Int) × ((Int) × (Unit)))) × ((List (Int)) × (Unit))))))))) (y2 : Int) (y3 : Int)
def slices_IndexFunc_Interval_impl_GoodNotify_1.lb : slices_IndexFunc_Interval_impl_GoodNotify_1.Pt → Nat
  | .p0 _ => 0
  | .p7 _ _ _ => 7
def slices_IndexFunc_Interval_impl_GoodNotify_1.st : slices_IndexFunc_Interval_impl_GoodNotify_1.Pt → St
  | .p0 a0 => enter [.v (.sl false (.pair (.int .i64) (.pair (.sl false (.pair (.int .i64) (.pair (.int .i64) .unit))) (.pair (.sl false (.pair (.int .i64) (.pair (.int .i64) .unit))) (.pair (.sl false (.pair (.int .i64) (.pair (.int .i64) .unit))) (.pair (.sl false (.pair (.int .i64) (.pair (.int .i64) .unit))) (.pair (.sl false (.pair (.int .i64) (.pair (.int .i64) .unit))) (.pair (.sl false (.int .i64)) .unit)))))))) a0, .fn 46 []] 0
  | .p7 y1 y2 y3 => ⟨[(0, .im (.sl false (.pair (.int .i64) (.pair (.sl false (.pair (.int .i64) (.pair (.int .i64) .unit))) (.pair (.sl false (.pair (.int .i64) (.pair (.int .i64) .unit))) (.pair (.sl false (.pair (.int .i64) (.pair (.int .i64) .unit))) (.pair (.sl false (.pair (.int .i64) (.pair (.int .i64) .unit))) (.pair (.sl false (.pair (.int .i64) (.pair (.int .i64) .unit))) (.pair (.sl false (.int .i64)) .unit)))))))) y1), (1, .fn 46 []), (7, .im (.int .i64) y2), (8, .im (.int .i64) y3)], [], 0⟩
def slices_IndexFunc_Interval_impl_GoodNotify_1.step (n : Nat) (K : slices_IndexFunc_Interval_impl_GoodNotify_1.Pt → Option (Tup [(.int .i64)])) : slices_IndexFunc_Interval_impl_GoodNotify_1.Pt → Option (Tup [(.int .i64)])
  | .p0 a0 => K (.p7 a0 ((List.length a0) : Int) (0 : Int))
  | .p7 y1 y2 y3 => cond (decide (y3 < y2)) (cond (inB y3 (List.length y1)) ((impl_GoodNotify_1 n (List.getD y1 (Int.toNat y3) default)).bind fun r6 => cond r6 (some y3) (K (.p7 y1 y2 (IntKind.wrap .i64 (y3 + (1 : Int)))))) (none)) (some (-(1 : Int)))
def slices_IndexFunc_Interval_impl_GoodNotify_1 (n : Nat) (a0 : List ((Int) × ((List ((Int) × ((Int) × (Unit)))) × ((List ((Int) × ((Int) × (Unit)))) × ((List ((Int) × ((Int) × (Unit)))) × ((List ((Int) × ((Int) × (Unit)))) × ((List ((Int) × ((Int) × (Unit)))) × ((List (Int)) × (Unit))))))))) : Option (Tup [(.int .i64)]) := goRec slices_IndexFunc_Interval_impl_GoodNotify_1.step n (.p0 a0)
def slices_IndexFunc_Interval_impl_GoodNotify_1.spec : Ctr := ⟨97, [.v (.sl false (.pair (.int .i64) (.pair (.sl false (.pair (.int .i64) (.pair (.int .i64) .unit))) (.pair (.sl false (.pair (.int .i64) (.pair (.int .i64) .unit))) (.pair (.sl false (.pair (.int .i64) (.pair (.int .i64) .unit))) (.pair (.sl false (.pair (.int .i64) (.pair (.int .i64) .unit))) (.pair (.sl false (.pair (.int .i64) (.pair (.int .i64) .unit))) (.pair (.sl false (.int .i64)) .unit)))))))), .fn 46 []], [(.int .i64)], [], fun n x => slices_IndexFunc_Interval_impl_GoodNotify_1 n x.1⟩
theorem slices_IndexFunc_Interval_impl_GoodNotify_1.seg_eq : SegEq ty gl slices_IndexFunc_Interval_impl_GoodNotify_1.F slices_IndexFunc_Interval_impl_GoodNotify_1.md slices_IndexFunc_Interval_impl_GoodNotify_1.T slices_IndexFunc_Interval_impl_GoodNotify_1.spec slices_IndexFunc_Interval_impl_GoodNotify_1.lb slices_IndexFunc_Interval_impl_GoodNotify_1.st slices_IndexFunc_Interval_impl_GoodNotify_1.step := by
  intro n goto y; cases y <;> kernel_rfl
theorem slices_IndexFunc_Interval_impl_GoodNotify_1.text : Text Go.Proofs.Tryz.prog slices_IndexFunc_Interval_impl_GoodNotify_1.F slices_IndexFunc_Interval_impl_GoodNotify_1.spec := textOf Go.Proofs.Tryz.f97
theorem slices_IndexFunc_Interval_impl_GoodNotify_1.ok : CtrOK Go.Proofs.Tryz.prog gl slices_IndexFunc_Interval_impl_GoodNotify_1.spec :=
  ctr_okS tabs slices_IndexFunc_Interval_impl_GoodNotify_1.text slices_IndexFunc_Interval_impl_GoodNotify_1.seg_eq (fun n x => ⟨.p0 x.1, rfl, rfl, rfl⟩) (consC impl_GoodNotify_1.ok (nilC))

/-! slices.ContainsFunc[[]loop.example/g00039/impl.Interval,loop.example/g00039/impl.Interval] -/
def slices_ContainsFunc_Interval_impl_GoodNotify_1.T : List Ctr := [slices_IndexFunc_Interval_impl_GoodNotify_1.spec]
def slices_ContainsFunc_Interval_impl_GoodNotify_1.md : List (Nat × List Md) := [(97, [.v, .fn])]
noncomputable def slices_ContainsFunc_Interval_impl_GoodNotify_1.F : Fun := ⟨(Go.Proofs.Tryz.f45.body).getD .skip, [.v (.sl false (.pair (.int .i64) (.pair (.sl false (.pair (.int .i64) (.pair (.int .i64) .unit))) (.pair (.sl false (.pair (.int .i64) (.pair (.int .i64) .unit))) (.pair (.sl false (.pair (.int .i64) (.pair (.int .i64) .unit))) (.pair (.sl false (.pair (.int .i64) (.pair (.int .i64) .unit))) (.pair (.sl false (.pair (.int .i64) (.pair (.int .i64) .unit))) (.pair (.sl false (.int .i64)) .unit)))))))), .fn 46 []], [(.tmp 4, .bool)], [], 0, []⟩
inductive slices_ContainsFunc_Interval_impl_GoodNotify_1.Pt where
  | p0 (a0 : List ((Int) × ((List ((Int) × ((Int) × (Unit)))) × ((List ((Int) × ((Int) × (Unit)))) × ((List ((Int) × ((Int) × (Unit)))) × ((List ((Int) × ((Int) × (Unit)))) × ((List ((Int) × ((Int) × (Unit)))) × ((List (Int)) × (Unit)))))))))
def slices_ContainsFunc_Interval_impl_GoodNotify_1.lb : slices_ContainsFunc_Interval_impl_GoodNotify_1.Pt → Nat
  | .p0 _ => 0
def slices_ContainsFunc_Interval_impl_GoodNotify_1.st : slices_ContainsFunc_Interval_impl_GoodNotify_1.Pt → St
  | .p0 a0 => enter [.v (.sl false (.pair (.int .i64) (.pair (.sl false (.pair (.int .i64) (.pair (.int .i64) .unit))) (.pair (.sl false (.pair (.int .i64) (.pair (.int .i64) .unit))) (.pair (.sl false (.pair (.int .i64) (.pair (.int .i64) .unit))) (.pair (.sl false (.pair (.int .i64) (.pair (.int .i64) .unit))) (.pair (.sl false (.pair (.int .i64) (.pair (.int .i64) .unit))) (.pair (.sl false (.int .i64)) .unit)))))))) a0, .fn 46 []] 0
def slices_ContainsFunc_Interval_impl_GoodNotify_1.step (n : Nat) (K : slices_ContainsFunc_Interval_impl_GoodNotify_1.Pt → Option (Tup [.bool])) : slices_ContainsFunc_Interval_impl_GoodNotify_1.Pt → Option (Tup [.bool])
  | .p0 a0 => (slices_IndexFunc_Interval_impl_GoodNotify_1 n a0).bind fun (r4 : Int) => some (decide ((0 : Int) ≤ r4))
def slices_ContainsFunc_Interval_impl_GoodNotify_1 (n : Nat) (a0 : List ((Int) × ((List ((Int) × ((Int) × (Unit)))) × ((List ((Int) × ((Int) × (Unit)))) × ((List ((Int) × ((Int) × (Unit)))) × ((List ((Int) × ((Int) × (Unit)))) × ((List ((Int) × ((Int) × (Unit)))) × ((List (Int)) × (Unit))))))))) : Option (Tup [.bool]) := goRec slices_ContainsFunc_Interval_impl_GoodNotify_1.step n (.p0 a0)
def slices_ContainsFunc_Interval_impl_GoodNotify_1.spec : Ctr := ⟨45, [.v (.sl false (.pair (.int .i64) (.pair (.sl false (.pair (.int .i64) (.pair (.int .i64) .unit))) (.pair (.sl false (.pair (.int .i64) (.pair (.int .i64) .unit))) (.pair (.sl false (.pair (.int .i64) (.pair (.int .i64) .unit))) (.pair (.sl false (.pair (.int .i64) (.pair (.int .i64) .unit))) (.pair (.sl false (.pair (.int .i64) (.pair (.int .i64) .unit))) (.pair (.sl false (.int .i64)) .unit)))))))), .fn 46 []], [.bool], [], fun n x => slices_ContainsFunc_Interval_impl_GoodNotify_1 n x.1⟩
theorem slices_ContainsFunc_Interval_impl_GoodNotify_1.seg_eq : SegEq ty gl slices_ContainsFunc_Interval_impl_GoodNotify_1.F slices_ContainsFunc_Interval_impl_GoodNotify_1.md slices_ContainsFunc_Interval_impl_GoodNotify_1.T slices_ContainsFunc_Interval_impl_GoodNotify_1.spec slices_ContainsFunc_Interval_impl_GoodNotify_1.lb slices_ContainsFunc_Interval_impl_GoodNotify_1.st slices_ContainsFunc_Interval_impl_GoodNotify_1.step := by
  intro n goto y; cases y <;> kernel_rfl
theorem slices_ContainsFunc_Interval_impl_GoodNotify_1.text : Text Go.Proofs.Tryz.prog slices_ContainsFunc_Interval_impl_GoodNotify_1.F slices_ContainsFunc_Interval_impl_GoodNotify_1.spec := textOf Go.Proofs.Tryz.f45
theorem slices_ContainsFunc_Interval_impl_GoodNotify_1.ok : CtrOK Go.Proofs.Tryz.prog gl slices_ContainsFunc_Interval_impl_GoodNotify_1.spec :=
  ctr_okS tabs slices_ContainsFunc_Interval_impl_GoodNotify_1.text slices_ContainsFunc_Interval_impl_GoodNotify_1.seg_eq (fun n x => ⟨.p0 x.1, rfl, rfl, rfl⟩) (consC slices_IndexFunc_Interval_impl_GoodNotify_1.ok (nilC))

/-! loop.example/g00039/impl.GoodNotify -/
def impl_GoodNotify.T : List Ctr := [impl_GoodRoutes.spec, impl_GoodSilences.spec, impl_GoodInhibits.spec, impl_GoodNotify_1.spec, slices_ContainsFunc_Interval_impl_GoodNotify_1.spec]
def impl_GoodNotify.md : List (Nat × List Md) := [(45, [.v, .fn])]
noncomputable def impl_GoodNotify.F : Fun := ⟨(Go.Proofs.Tryz.f10.body).getD .skip, [.v (.pair (.sl false (.pair .str (.pair (.sl false (.pair .str (.pair (.int .i64) (.pair .str .unit)))) (.pair (.sl false .str) (.pair (.int .i64) (.pair (.int .i64) (.pair (.int .i64) (.pair (.sl false (.int .i64)) (.pair .bool (.pair (.int .i64) .unit)))))))))) (.pair (.sl false (.pair (.int .i64) (.pair (.sl false (.pair (.int .i64) (.pair (.int .i64) .unit))) (.pair (.sl false (.pair (.int .i64) (.pair (.int .i64) .unit))) (.pair (.sl false (.pair (.int .i64) (.pair (.int .i64) .unit))) (.pair (.sl false (.pair (.int .i64) (.pair (.int .i64) .unit))) (.pair (.sl false (.pair (.int .i64) (.pair (.int .i64) .unit))) (.pair (.sl false (.int .i64)) .unit)))))))) (.pair (.sl false (.pair .str (.pair (.sl false (.pair .str (.pair (.int .i64) (.pair .str .unit)))) (.pair (.int .i64) (.pair (.int .i64) .unit))))) (.pair (.sl false (.pair (.sl false (.pair .str (.pair (.int .i64) (.pair .str .unit)))) (.pair (.sl false (.pair .str (.pair (.int .i64) (.pair .str .unit)))) (.pair (.sl false .str) .unit)))) .unit))))], [(.tmp 2, .bool)], [], 0, [(4, ⟨[1, 33], [], [(1, 0, (.pair .str (.pair (.sl false (.pair .str (.pair (.int .i64) (.pair .str .unit)))) (.pair (.sl false .str) (.pair (.int .i64) (.pair (.int .i64) (.pair (.int .i64) (.pair (.sl false (.int .i64)) (.pair .bool (.pair (.int .i64) .unit)))))))))), (1, 1, (.pair (.int .i64) (.pair (.sl false (.pair (.int .i64) (.pair (.int .i64) .unit))) (.pair (.sl false (.pair (.int .i64) (.pair (.int .i64) .unit))) (.pair (.sl false (.pair (.int .i64) (.pair (.int .i64) .unit))) (.pair (.sl false (.pair (.int .i64) (.pair (.int .i64) .unit))) (.pair (.sl false (.pair (.int .i64) (.pair (.int .i64) .unit))) (.pair (.sl false (.int .i64)) .unit)))))))), (1, 2, (.pair .str (.pair (.sl false (.pair .str (.pair (.int .i64) (.pair .str .unit)))) (.pair (.int .i64) (.pair (.int .i64) .unit))))), (1, 3, (.pair (.sl false (.pair .str (.pair (.int .i64) (.pair .str .unit)))) (.pair (.sl false (.pair .str (.pair (.int .i64) (.pair .str .unit)))) (.pair (.sl false .str) .unit))))], false⟩), (15, ⟨[1, 35, 36, 37], [(35, (.pair .str (.pair (.sl false (.pair .str (.pair (.int .i64) (.pair .str .unit)))) (.pair (.sl false .str) (.pair (.int .i64) (.pair (.int .i64) (.pair (.int .i64) (.pair (.sl false (.int .i64)) (.pair .bool (.pair (.int .i64) .unit))))))))))], [(1, 0, (.pair .str (.pair (.sl false (.pair .str (.pair (.int .i64) (.pair .str .unit)))) (.pair (.sl false .str) (.pair (.int .i64) (.pair (.int .i64) (.pair (.int .i64) (.pair (.sl false (.int .i64)) (.pair .bool (.pair (.int .i64) .unit)))))))))), (1, 1, (.pair (.int .i64) (.pair (.sl false (.pair (.int .i64) (.pair (.int .i64) .unit))) (.pair (.sl false (.pair (.int .i64) (.pair (.int .i64) .unit))) (.pair (.sl false (.pair (.int .i64) (.pair (.int .i64) .unit))) (.pair (.sl false (.pair (.int .i64) (.pair (.int .i64) .unit))) (.pair (.sl false (.pair (.int .i64) (.pair (.int .i64) .unit))) (.pair (.sl false (.int .i64)) .unit)))))))), (1, 2, (.pair .str (.pair (.sl false (.pair .str (.pair (.int .i64) (.pair .str .unit)))) (.pair (.int .i64) (.pair (.int .i64) .unit))))), (1, 3, (.pair (.sl false (.pair .str (.pair (.int .i64) (.pair .str .unit)))) (.pair (.sl false (.pair .str (.pair (.int .i64) (.pair .str .unit)))) (.pair (.sl false .str) .unit))))], false⟩), (29, ⟨[1, 35, 36, 37, 42, 43, 44], [(35, (.pair .str (.pair (.sl false (.pair .str (.pair (.int .i64) (.pair .str .unit)))) (.pair (.sl false .str) (.pair (.int .i64) (.pair (.int .i64) (.pair (.int .i64) (.pair (.sl false (.int .i64)) (.pair .bool (.pair (.int .i64) .unit)))))))))), (42, (.int .i64))], [(1, 0, (.pair .str (.pair (.sl false (.pair .str (.pair (.int .i64) (.pair .str .unit)))) (.pair (.sl false .str) (.pair (.int .i64) (.pair (.int .i64) (.pair (.int .i64) (.pair (.sl false (.int .i64)) (.pair .bool (.pair (.int .i64) .unit)))))))))), (1, 1, (.pair (.int .i64) (.pair (.sl false (.pair (.int .i64) (.pair (.int .i64) .unit))) (.pair (.sl false (.pair (.int .i64) (.pair (.int .i64) .unit))) (.pair (.sl false (.pair (.int .i64) (.pair (.int .i64) .unit))) (.pair (.sl false (.pair (.int .i64) (.pair (.int .i64) .unit))) (.pair (.sl false (.pair (.int .i64) (.pair (.int .i64) .unit))) (.pair (.sl false (.int .i64)) .unit)))))))), (1, 2, (.pair .str (.pair (.sl false (.pair .str (.pair (.int .i64) (.pair .str .unit)))) (.pair (.int .i64) (.pair (.int .i64) .unit))))), (1, 3, (.pair (.sl false (.pair .str (.pair (.int .i64) (.pair .str .unit)))) (.pair (.sl false (.pair .str (.pair (.int .i64) (.pair .str .unit)))) (.pair (.sl false .str) .unit))))], false⟩)]⟩
inductive impl_GoodNotify.Pt where
  | p0 (a0 : (List ((ByteArray) × ((List ((ByteArray) × ((Int) × ((ByteArray) × (Unit))))) × ((List (ByteArray)) × ((Int) × ((Int) × ((Int) × ((List (Int)) × ((Bool) × ((Int) × (Unit))))))))))) × ((List ((Int) × ((List ((Int) × ((Int) × (Unit)))) × ((List ((Int) × ((Int) × (Unit)))) × ((List ((Int) × ((Int) × (Unit)))) × ((List ((Int) × ((Int) × (Unit)))) × ((List ((Int) × ((Int) × (Unit)))) × ((List (Int)) × (Unit))))))))) × ((List ((ByteArray) × ((List ((ByteArray) × ((Int) × ((ByteArray) × (Unit))))) × ((Int) × ((Int) × (Unit)))))) × ((List ((List ((ByteArray) × ((Int) × ((ByteArray) × (Unit))))) × ((List ((ByteArray) × ((Int) × ((ByteArray) × (Unit))))) × ((List (ByteArray)) × (Unit))))) × (Unit)))))
  | p4 (y1 : Bool) (y2 : List ((ByteArray) × ((List ((ByteArray) × ((Int) × ((ByteArray) × (Unit))))) × ((List (ByteArray)) × ((Int) × ((Int) × ((Int) × ((List (Int)) × ((Bool) × ((Int) × (Unit))))))))))) (y3 : List ((Int) × ((List ((Int) × ((Int) × (Unit)))) × ((List ((Int) × ((Int) × (Unit)))) × ((List ((Int) × ((Int) × (Unit)))) × ((List ((Int) × ((Int) × (Unit)))) × ((List ((Int) × ((Int) × (Unit)))) × ((List (Int)) × (Unit))))))))) (y4 : List ((ByteArray) × ((List ((ByteArray) × ((Int) × ((ByteArray) × (Unit))))) × ((Int) × ((Int) × (Unit)))))) (y5 : List ((List ((ByteArray) × ((Int) × ((ByteArray) × (Unit))))) × ((List ((ByteArray) × ((Int) × ((ByteArray) × (Unit))))) × ((List (ByteArray)) × (Unit)))))
  | p15 (y1 : List ((ByteArray) × ((List ((ByteArray) × ((Int) × ((ByteArray) × (Unit))))) × ((List (ByteArray)) × ((Int) × ((Int) × ((Int) × ((List (Int)) × ((Bool) × ((Int) × (Unit))))))))))) (y2 : Int) (y3 : Int) (y4 : List ((ByteArray) × ((List ((ByteArray) × ((Int) × ((ByteArray) × (Unit))))) × ((List (ByteArray)) × ((Int) × ((Int) × ((Int) × ((List (Int)) × ((Bool) × ((Int) × (Unit))))))))))) (y5 : List ((Int) × ((List ((Int) × ((Int) × (Unit)))) × ((List ((Int) × ((Int) × (Unit)))) × ((List ((Int) × ((Int) × (Unit)))) × ((List ((Int) × ((Int) × (Unit)))) × ((List ((Int) × ((Int) × (Unit)))) × ((List (Int)) × (Unit))))))))) (y6 : List ((ByteArray) × ((List ((ByteArray) × ((Int) × ((ByteArray) × (Unit))))) × ((Int) × ((Int) × (Unit)))))) (y7 : List ((List ((ByteArray) × ((Int) × ((ByteArray) × (Unit))))) × ((List ((ByteArray) × ((Int) × ((ByteArray) × (Unit))))) × ((List (ByteArray)) × (Unit)))))
  | p29 (y1 : List ((ByteArray) × ((List ((ByteArray) × ((Int) × ((ByteArray) × (Unit))))) × ((List (ByteArray)) × ((Int) × ((Int) × ((Int) × ((List (Int)) × ((Bool) × ((Int) × (Unit))))))))))) (y2 : Int) (y3 : Int) (y4 : List (Int)) (y5 : Int) (y6 : Int) (y7 : List ((ByteArray) × ((List ((ByteArray) × ((Int) × ((ByteArray) × (Unit))))) × ((List (ByteArray)) × ((Int) × ((Int) × ((Int) × ((List (Int)) × ((Bool) × ((Int) × (Unit))))))))))) (y8 : List ((Int) × ((List ((Int) × ((Int) × (Unit)))) × ((List ((Int) × ((Int) × (Unit)))) × ((List ((Int) × ((Int) × (Unit)))) × ((List ((Int) × ((Int) × (Unit)))) × ((List ((Int) × ((Int) × (Unit)))) × ((List (Int)) × (Unit))))))))) (y9 : List ((ByteArray) × ((List ((ByteArray) × ((Int) × ((ByteArray) × (Unit))))) × ((Int) × ((Int) × (Unit)))))) (y10 : List ((List ((ByteArray) × ((Int) × ((ByteArray) × (Unit))))) × ((List ((ByteArray) × ((Int) × ((ByteArray) × (Unit))))) × ((List (ByteArray)) × (Unit)))))
def impl_GoodNotify.lb : impl_GoodNotify.Pt → Nat
  | .p0 _ => 0
  | .p4 _ _ _ _ _ => 4
  | .p15 _ _ _ _ _ _ _ => 15
  | .p29 _ _ _ _ _ _ _ _ _ _ => 29
def impl_GoodNotify.st : impl_GoodNotify.Pt → St
  | .p0 a0 => enter [.v (.pair (.sl false (.pair .str (.pair (.sl false (.pair .str (.pair (.int .i64) (.pair .str .unit)))) (.pair (.sl false .str) (.pair (.int .i64) (.pair (.int .i64) (.pair (.int .i64) (.pair (.sl false (.int .i64)) (.pair .bool (.pair (.int .i64) .unit)))))))))) (.pair (.sl false (.pair (.int .i64) (.pair (.sl false (.pair (.int .i64) (.pair (.int .i64) .unit))) (.pair (.sl false (.pair (.int .i64) (.pair (.int .i64) .unit))) (.pair (.sl false (.pair (.int .i64) (.pair (.int .i64) .unit))) (.pair (.sl false (.pair (.int .i64) (.pair (.int .i64) .unit))) (.pair (.sl false (.pair (.int .i64) (.pair (.int .i64) .unit))) (.pair (.sl false (.int .i64)) .unit)))))))) (.pair (.sl false (.pair .str (.pair (.sl false (.pair .str (.pair (.int .i64) (.pair .str .unit)))) (.pair (.int .i64) (.pair (.int .i64) .unit))))) (.pair (.sl false (.pair (.sl false (.pair .str (.pair (.int .i64) (.pair .str .unit)))) (.pair (.sl false (.pair .str (.pair (.int .i64) (.pair .str .unit)))) (.pair (.sl false .str) .unit)))) .unit)))) a0] 0
  | .p4 y1 y2 y3 y4 y5 => ⟨[(1, .po 0 0), (33, .im .bool y1)], [(0, .obj [.im (.sl false (.pair .str (.pair (.sl false (.pair .str (.pair (.int .i64) (.pair .str .unit)))) (.pair (.sl false .str) (.pair (.int .i64) (.pair (.int .i64) (.pair (.int .i64) (.pair (.sl false (.int .i64)) (.pair .bool (.pair (.int .i64) .unit)))))))))) y2, .im (.sl false (.pair (.int .i64) (.pair (.sl false (.pair (.int .i64) (.pair (.int .i64) .unit))) (.pair (.sl false (.pair (.int .i64) (.pair (.int .i64) .unit))) (.pair (.sl false (.pair (.int .i64) (.pair (.int .i64) .unit))) (.pair (.sl false (.pair (.int .i64) (.pair (.int .i64) .unit))) (.pair (.sl false (.pair (.int .i64) (.pair (.int .i64) .unit))) (.pair (.sl false (.int .i64)) .unit)))))))) y3, .im (.sl false (.pair .str (.pair (.sl false (.pair .str (.pair (.int .i64) (.pair .str .unit)))) (.pair (.int .i64) (.pair (.int .i64) .unit))))) y4, .im (.sl false (.pair (.sl false (.pair .str (.pair (.int .i64) (.pair .str .unit)))) (.pair (.sl false (.pair .str (.pair (.int .i64) (.pair .str .unit)))) (.pair (.sl false .str) .unit)))) y5])], 1⟩
  | .p15 y1 y2 y3 y4 y5 y6 y7 => ⟨[(1, .po 0 0), (35, .im (.sl false (.pair .str (.pair (.sl false (.pair .str (.pair (.int .i64) (.pair .str .unit)))) (.pair (.sl false .str) (.pair (.int .i64) (.pair (.int .i64) (.pair (.int .i64) (.pair (.sl false (.int .i64)) (.pair .bool (.pair (.int .i64) .unit)))))))))) y1), (36, .im (.int .i64) y2), (37, .im (.int .i64) y3)], [(0, .obj [.im (.sl false (.pair .str (.pair (.sl false (.pair .str (.pair (.int .i64) (.pair .str .unit)))) (.pair (.sl false .str) (.pair (.int .i64) (.pair (.int .i64) (.pair (.int .i64) (.pair (.sl false (.int .i64)) (.pair .bool (.pair (.int .i64) .unit)))))))))) y4, .im (.sl false (.pair (.int .i64) (.pair (.sl false (.pair (.int .i64) (.pair (.int .i64) .unit))) (.pair (.sl false (.pair (.int .i64) (.pair (.int .i64) .unit))) (.pair (.sl false (.pair (.int .i64) (.pair (.int .i64) .unit))) (.pair (.sl false (.pair (.int .i64) (.pair (.int .i64) .unit))) (.pair (.sl false (.pair (.int .i64) (.pair (.int .i64) .unit))) (.pair (.sl false (.int .i64)) .unit)))))))) y5, .im (.sl false (.pair .str (.pair (.sl false (.pair .str (.pair (.int .i64) (.pair .str .unit)))) (.pair (.int .i64) (.pair (.int .i64) .unit))))) y6, .im (.sl false (.pair (.sl false (.pair .str (.pair (.int .i64) (.pair .str .unit)))) (.pair (.sl false (.pair .str (.pair (.int .i64) (.pair .str .unit)))) (.pair (.sl false .str) .unit)))) y7])], 1⟩
  | .p29 y1 y2 y3 y4 y5 y6 y7 y8 y9 y10 => ⟨[(1, .po 0 0), (35, .im (.sl false (.pair .str (.pair (.sl false (.pair .str (.pair (.int .i64) (.pair .str .unit)))) (.pair (.sl false .str) (.pair (.int .i64) (.pair (.int .i64) (.pair (.int .i64) (.pair (.sl false (.int .i64)) (.pair .bool (.pair (.int .i64) .unit)))))))))) y1), (36, .im (.int .i64) y2), (37, .im (.int .i64) y3), (42, .im (.sl false (.int .i64)) y4), (43, .im (.int .i64) y5), (44, .im (.int .i64) y6)], [(0, .obj [.im (.sl false (.pair .str (.pair (.sl false (.pair .str (.pair (.int .i64) (.pair .str .unit)))) (.pair (.sl false .str) (.pair (.int .i64) (.pair (.int .i64) (.pair (.int .i64) (.pair (.sl false (.int .i64)) (.pair .bool (.pair (.int .i64) .unit)))))))))) y7, .im (.sl false (.pair (.int .i64) (.pair (.sl false (.pair (.int .i64) (.pair (.int .i64) .unit))) (.pair (.sl false (.pair (.int .i64) (.pair (.int .i64) .unit))) (.pair (.sl false (.pair (.int .i64) (.pair (.int .i64) .unit))) (.pair (.sl false (.pair (.int .i64) (.pair (.int .i64) .unit))) (.pair (.sl false (.pair (.int .i64) (.pair (.int .i64) .unit))) (.pair (.sl false (.int .i64)) .unit)))))))) y8, .im (.sl false (.pair .str (.pair (.sl false (.pair .str (.pair (.int .i64) (.pair .str .unit)))) (.pair (.int .i64) (.pair (.int .i64) .unit))))) y9, .im (.sl false (.pair (.sl false (.pair .str (.pair (.int .i64) (.pair .str .unit)))) (.pair (.sl false (.pair .str (.pair (.int .i64) (.pair .str .unit)))) (.pair (.sl false .str) .unit)))) y10])], 1⟩
def impl_GoodNotify.step (n : Nat) (K : impl_GoodNotify.Pt → Option (Tup [.bool])) : impl_GoodNotify.Pt → Option (Tup [.bool])
  | .p0 a0 => (impl_GoodRoutes n a0.1).bind fun r4 => cond (!r4) (K (.p4 true a0.1 a0.2.1 a0.2.2.1 a0.2.2.2.1)) ((impl_GoodSilences n a0.2.2.1).bind fun r5 => cond (!r5) (K (.p4 true a0.1 a0.2.1 a0.2.2.1 a0.2.2.2.1)) ((impl_GoodInhibits n a0.2.2.2.1).bind fun r6 => cond (!r6) (K (.p4 true a0.1 a0.2.1 a0.2.2.1 a0.2.2.2.1)) (cond (decide ((20 : Int) < ((List.length a0.2.1) : Int))) (K (.p4 true a0.1 a0.2.1 a0.2.2.1 a0.2.2.2.1)) ((slices_ContainsFunc_Interval_impl_GoodNotify_1 n a0.2.1).bind fun r7 => K (.p4 r7 a0.1 a0.2.1 a0.2.2.1 a0.2.2.2.1)))))
  | .p4 y1 y2 y3 y4 y5 => cond y1 (some false) (K (.p15 y2 ((List.length y2) : Int) (0 : Int) y2 y3 y4 y5))
  | .p15 y1 y2 y3 y4 y5 y6 y7 => cond (decide (y3 < y2)) (cond (inB y3 (List.length y1)) (K (.p29 y1 y2 y3 (List.getD y1 (Int.toNat y3) default).2.2.2.2.2.2.1 ((List.length (List.getD y1 (Int.toNat y3) default).2.2.2.2.2.2.1) : Int) (0 : Int) y4 y5 y6 y7)) (none)) (some true)
  | .p29 y1 y2 y3 y4 y5 y6 y7 y8 y9 y10 => cond (decide (y6 < y5)) (cond (inB y6 (List.length y4)) (cond (decide (((List.length y8) : Int) ≤ (List.getD y4 (Int.toNat y6) default))) (some false) (K (.p29 y1 y2 y3 y4 y5 (IntKind.wrap .i64 (y6 + (1 : Int))) y7 y8 y9 y10))) (none)) (K (.p15 y1 y2 (IntKind.wrap .i64 (y3 + (1 : Int))) y7 y8 y9 y10))
def impl_GoodNotify (n : Nat) (a0 : (List ((ByteArray) × ((List ((ByteArray) × ((Int) × ((ByteArray) × (Unit))))) × ((List (ByteArray)) × ((Int) × ((Int) × ((Int) × ((List (Int)) × ((Bool) × ((Int) × (Unit))))))))))) × ((List ((Int) × ((List ((Int) × ((Int) × (Unit)))) × ((List ((Int) × ((Int) × (Unit)))) × ((List ((Int) × ((Int) × (Unit)))) × ((List ((Int) × ((Int) × (Unit)))) × ((List ((Int) × ((Int) × (Unit)))) × ((List (Int)) × (Unit))))))))) × ((List ((ByteArray) × ((List ((ByteArray) × ((Int) × ((ByteArray) × (Unit))))) × ((Int) × ((Int) × (Unit)))))) × ((List ((List ((ByteArray) × ((Int) × ((ByteArray) × (Unit))))) × ((List ((ByteArray) × ((Int) × ((ByteArray) × (Unit))))) × ((List (ByteArray)) × (Unit))))) × (Unit))))) : Option (Tup [.bool]) := goRec impl_GoodNotify.step n (.p0 a0)
def impl_GoodNotify.spec : Ctr := ⟨10, [.v (.pair (.sl false (.pair .str (.pair (.sl false (.pair .str (.pair (.int .i64) (.pair .str .unit)))) (.pair (.sl false .str) (.pair (.int .i64) (.pair (.int .i64) (.pair (.int .i64) (.pair (.sl false (.int .i64)) (.pair .bool (.pair (.int .i64) .unit)))))))))) (.pair (.sl false (.pair (.int .i64) (.pair (.sl false (.pair (.int .i64) (.pair (.int .i64) .unit))) (.pair (.sl false (.pair (.int .i64) (.pair (.int .i64) .unit))) (.pair (.sl false (.pair (.int .i64) (.pair (.int .i64) .unit))) (.pair (.sl false (.pair (.int .i64) (.pair (.int .i64) .unit))) (.pair (.sl false (.pair (.int .i64) (.pair (.int .i64) .unit))) (.pair (.sl false (.int .i64)) .unit)))))))) (.pair (.sl false (.pair .str (.pair (.sl false (.pair .str (.pair (.int .i64) (.pair .str .unit)))) (.pair (.int .i64) (.pair (.int .i64) .unit))))) (.pair (.sl false (.pair (.sl false (.pair .str (.pair (.int .i64) (.pair .str .unit)))) (.pair (.sl false (.pair .str (.pair (.int .i64) (.pair .str .unit)))) (.pair (.sl false .str) .unit)))) .unit))))], [.bool], [], fun n x => impl_GoodNotify n x.1⟩
theorem impl_GoodNotify.seg_eq : SegEq ty gl impl_GoodNotify.F impl_GoodNotify.md impl_GoodNotify.T impl_GoodNotify.spec impl_GoodNotify.lb impl_GoodNotify.st impl_GoodNotify.step := by
  intro n goto y; cases y <;> kernel_rfl
theorem impl_GoodNotify.text : Text Go.Proofs.Tryz.prog impl_GoodNotify.F impl_GoodNotify.spec := textOf Go.Proofs.Tryz.f10
theorem impl_GoodNotify.ok : CtrOK Go.Proofs.Tryz.prog gl impl_GoodNotify.spec :=
  ctr_okS tabs impl_GoodNotify.text impl_GoodNotify.seg_eq (fun n x => ⟨.p0 x.1, rfl, rfl, rfl⟩) (consC impl_GoodRoutes.ok (consC impl_GoodSilences.ok (consC impl_GoodInhibits.ok (consC impl_GoodNotify_1.ok (consC slices_ContainsFunc_Interval_impl_GoodNotify_1.ok (nilC))))))

/-! loop.example/g00039/impl.daysTo -/
def impl_daysTo.T : List Ctr := []
def impl_daysTo.md : List (Nat × List Md) := []
noncomputable def impl_daysTo.F : Fun := ⟨(Go.Proofs.Tryz.f188.body).getD .skip, [.v (.int .i64)], [(.tmp 2, (.int .i64))], [], 0, []⟩
inductive impl_daysTo.Pt where
  | p0 (a0 : Int)
def impl_daysTo.lb : impl_daysTo.Pt → Nat
  | .p0 _ => 0
def impl_daysTo.st : impl_daysTo.Pt → St
  | .p0 a0 => enter [.v (.int .i64) a0] 0
def impl_daysTo.step (n : Nat) (K : impl_daysTo.Pt → Option (Tup [(.int .i64)])) : impl_daysTo.Pt → Option (Tup [(.int .i64)])
  | .p0 a0 => some (IntKind.wrap .i64 ((IntKind.wrap .i64 ((IntKind.wrap .i64 ((IntKind.wrap .i64 (a0 - (1970 : Int))) * (365 : Int))) + (IntKind.wrap .i64 ((IntKind.wrap .i64 ((IntKind.wrap .i64 (Int.tdiv (IntKind.wrap .i64 (a0 - (1 : Int))) (4 : Int))) - (IntKind.wrap .i64 (Int.tdiv (IntKind.wrap .i64 (a0 - (1 : Int))) (100 : Int))))) + (IntKind.wrap .i64 (Int.tdiv (IntKind.wrap .i64 (a0 - (1 : Int))) (400 : Int))))))) - (477 : Int)))
def impl_daysTo (n : Nat) (a0 : Int) : Option (Tup [(.int .i64)]) := goRec impl_daysTo.step n (.p0 a0)
def impl_daysTo.spec : Ctr := ⟨188, [.v (.int .i64)], [(.int .i64)], [], fun n x => impl_daysTo n x.1⟩
theorem impl_daysTo.seg_eq : SegEq ty gl impl_daysTo.F impl_daysTo.md impl_daysTo.T impl_daysTo.spec impl_daysTo.lb impl_daysTo.st impl_daysTo.step := by
  intro n goto y; cases y <;> kernel_rfl
theorem impl_daysTo.text : Text Go.Proofs.Tryz.prog impl_daysTo.F impl_daysTo.spec := textOf Go.Proofs.Tryz.f188
theorem impl_daysTo.ok : CtrOK Go.Proofs.Tryz.prog gl impl_daysTo.spec :=
  ctr_okS tabs impl_daysTo.text impl_daysTo.seg_eq (fun n x => ⟨.p0 x.1, rfl, rfl, rfl⟩) (nilC)

/-! loop.example/g00039/impl.leap -/
def impl_leap.T : List Ctr := []
def impl_leap.md : List (Nat × List Md) := []
noncomputable def impl_leap.F : Fun := ⟨(Go.Proofs.Tryz.f202.body).getD .skip, [.v (.int .i64)], [(.tmp 2, .bool)], [], 0, []⟩
inductive impl_leap.Pt where
  | p0 (a0 : Int)
def impl_leap.lb : impl_leap.Pt → Nat
  | .p0 _ => 0
def impl_leap.st : impl_leap.Pt → St
  | .p0 a0 => enter [.v (.int .i64) a0] 0
def impl_leap.step (n : Nat) (K : impl_leap.Pt → Option (Tup [.bool])) : impl_leap.Pt → Option (Tup [.bool])
  | .p0 a0 => cond (decide ((Int.tmod a0 (4 : Int)) = (0 : Int))) (cond (!(decide ((Int.tmod a0 (100 : Int)) = (0 : Int)))) (some true) (some (decide ((Int.tmod a0 (400 : Int)) = (0 : Int))))) (some false)
def impl_leap (n : Nat) (a0 : Int) : Option (Tup [.bool]) := goRec impl_leap.step n (.p0 a0)
def impl_leap.spec : Ctr := ⟨202, [.v (.int .i64)], [.bool], [], fun n x => impl_leap n x.1⟩
theorem impl_leap.seg_eq : SegEq ty gl impl_leap.F impl_leap.md impl_leap.T impl_leap.spec impl_leap.lb impl_leap.st impl_leap.step := by
  intro n goto y; cases y <;> kernel_rfl
theorem impl_leap.text : Text Go.Proofs.Tryz.prog impl_leap.F impl_leap.spec := textOf Go.Proofs.Tryz.f202
theorem impl_leap.ok : CtrOK Go.Proofs.Tryz.prog gl impl_leap.spec :=
  ctr_okS tabs impl_leap.text impl_leap.seg_eq (fun n x => ⟨.p0 x.1, rfl, rfl, rfl⟩) (nilC)

/-! loop.example/g00039/impl.daysIn -/
def impl_daysIn.T : List Ctr := [impl_leap.spec]
def impl_daysIn.md : List (Nat × List Md) := []
noncomputable def impl_daysIn.F : Fun := ⟨(Go.Proofs.Tryz.f189.body).getD .skip, [.v (.int .i64), .v (.int .i64)], [(.tmp 4, (.int .i64))], [], 0, []⟩
inductive impl_daysIn.Pt where
  | p0 (a0 : Int) (a1 : Int)
def impl_daysIn.lb : impl_daysIn.Pt → Nat
  | .p0 _ _ => 0
def impl_daysIn.st : impl_daysIn.Pt → St
  | .p0 a0 a1 => enter [.v (.int .i64) a0, .v (.int .i64) a1] 0
def impl_daysIn.step (n : Nat) (K : impl_daysIn.Pt → Option (Tup [(.int .i64)])) : impl_daysIn.Pt → Option (Tup [(.int .i64)])
  | .p0 a0 a1 => cond (decide (a1 = (2 : Int))) ((impl_leap n a0).bind fun r5 => cond r5 (some (29 : Int)) (cond (inB a1 13) (some (List.getD (List.set (List.set (List.set (List.set (List.set (List.set (List.set (List.set (List.set (List.set (List.set (List.set (List.set (List.replicate 13 (default : Int)) 0 (0 : Int)) 1 (31 : Int)) 2 (28 : Int)) 3 (31 : Int)) 4 (30 : Int)) 5 (31 : Int)) 6 (30 : Int)) 7 (31 : Int)) 8 (31 : Int)) 9 (30 : Int)) 10 (31 : Int)) 11 (30 : Int)) 12 (31 : Int)) (Int.toNat a1) default)) (none))) (cond (inB a1 13) (some (List.getD (List.set (List.set (List.set (List.set (List.set (List.set (List.set (List.set (List.set (List.set (List.set (List.set (List.set (List.replicate 13 (default : Int)) 0 (0 : Int)) 1 (31 : Int)) 2 (28 : Int)) 3 (31 : Int)) 4 (30 : Int)) 5 (31 : Int)) 6 (30 : Int)) 7 (31 : Int)) 8 (31 : Int)) 9 (30 : Int)) 10 (31 : Int)) 11 (30 : Int)) 12 (31 : Int)) (Int.toNat a1) default)) (none))
def impl_daysIn (n : Nat) (a0 : Int) (a1 : Int) : Option (Tup [(.int .i64)]) := goRec impl_daysIn.step n (.p0 a0 a1)
def impl_daysIn.spec : Ctr := ⟨189, [.v (.int .i64), .v (.int .i64)], [(.int .i64)], [], fun n x => impl_daysIn n x.1 x.2.1⟩
theorem impl_daysIn.seg_eq : SegEq ty gl impl_daysIn.F impl_daysIn.md impl_daysIn.T impl_daysIn.spec impl_daysIn.lb impl_daysIn.st impl_daysIn.step := by
  intro n goto y; cases y <;> kernel_rfl
theorem impl_daysIn.text : Text Go.Proofs.Tryz.prog impl_daysIn.F impl_daysIn.spec := textOf Go.Proofs.Tryz.f189
theorem impl_daysIn.ok : CtrOK Go.Proofs.Tryz.prog gl impl_daysIn.spec :=
  ctr_okS tabs impl_daysIn.text impl_daysIn.seg_eq (fun n x => ⟨.p0 x.1 x.2.1, rfl, rfl, rfl⟩) (consC impl_leap.ok (nilC))

/-! loop.example/g00039/impl.DateOf -/
def impl_DateOf.T : List Ctr := [impl_isTime.spec, impl_daysTo.spec, impl_daysIn.spec]
def impl_DateOf.md : List (Nat × List Md) := []
noncomputable def impl_DateOf.F : Fun := ⟨(Go.Proofs.Tryz.f156.body).getD .skip, [.v (.int .i64), .v (.int .i64)], [(.cell 4 183, (.pair (.int .i64) (.pair (.int .i64) (.pair (.int .i64) (.pair (.int .i64) (.pair (.int .i64) (.pair (.int .i64) .unit)))))))], [], 0, [(4, ⟨[0, 1, 4, 26], [], [], false⟩), (19, ⟨[0, 4, 5, 6], [], [], false⟩), (34, ⟨[0, 4, 5, 6, 7, 8], [], [], false⟩)]⟩
inductive impl_DateOf.Pt where
  | p0 (a0 : Int) (a1 : Int)
  | p4 (y1 : Int) (y2 : Int) (y3 : Bool) (y4 : Int) (y5 : Int) (y6 : Int) (y7 : Int) (y8 : Int) (y9 : Int)
  | p19 (y1 : Int) (y2 : Int) (y3 : Int) (y4 : Int) (y5 : Int) (y6 : Int) (y7 : Int) (y8 : Int) (y9 : Int)
  | p34 (y1 : Int) (y2 : Int) (y3 : Int) (y4 : Int) (y5 : Int) (y6 : Int) (y7 : Int) (y8 : Int) (y9 : Int) (y10 : Int) (y11 : Int)
def impl_DateOf.lb : impl_DateOf.Pt → Nat
  | .p0 _ _ => 0
  | .p4 _ _ _ _ _ _ _ _ _ => 4
  | .p19 _ _ _ _ _ _ _ _ _ => 19
  | .p34 _ _ _ _ _ _ _ _ _ _ _ => 34
def impl_DateOf.st : impl_DateOf.Pt → St
  | .p0 a0 a1 => enter [.v (.int .i64) a0, .v (.int .i64) a1] 0
  | .p4 y1 y2 y3 y4 y5 y6 y7 y8 y9 => ⟨[(0, .im (.int .i64) y1), (1, .im (.int .i64) y2), (4, .po 0 0), (26, .im .bool y3)], [(0, .obj [.im (.int .i64) y4, .im (.int .i64) y5, .im (.int .i64) y6, .im (.int .i64) y7, .im (.int .i64) y8, .im (.int .i64) y9])], 1⟩
  | .p19 y1 y2 y3 y4 y5 y6 y7 y8 y9 => ⟨[(0, .im (.int .i64) y1), (4, .po 0 0), (5, .im (.int .i64) y2), (6, .im (.int .i64) y3)], [(0, .obj [.im (.int .i64) y4, .im (.int .i64) y5, .im (.int .i64) y6, .im (.int .i64) y7, .im (.int .i64) y8, .im (.int .i64) y9])], 1⟩
  | .p34 y1 y2 y3 y4 y5 y6 y7 y8 y9 y10 y11 => ⟨[(0, .im (.int .i64) y1), (4, .po 0 0), (5, .im (.int .i64) y2), (6, .im (.int .i64) y3), (7, .im (.int .i64) y4), (8, .im (.int .i64) y5)], [(0, .obj [.im (.int .i64) y6, .im (.int .i64) y7, .im (.int .i64) y8, .im (.int .i64) y9, .im (.int .i64) y10, .im (.int .i64) y11])], 1⟩
def impl_DateOf.step (n : Nat) (K : impl_DateOf.Pt → Option (Tup [(.pair (.int .i64) (.pair (.int .i64) (.pair (.int .i64) (.pair (.int .i64) (.pair (.int .i64) (.pair (.int .i64) .unit))))))])) : impl_DateOf.Pt → Option (Tup [(.pair (.int .i64) (.pair (.int .i64) (.pair (.int .i64) (.pair (.int .i64) (.pair (.int .i64) (.pair (.int .i64) .unit))))))])
  | .p0 a0 a1 => (impl_isTime n a0).bind fun r5 => cond (!r5) (K (.p4 a0 a1 true (default : Int) (default : Int) (default : Int) (default : Int) (default : Int) (default : Int))) (cond (decide (a1 < (-(1440 : Int)))) (K (.p4 a0 a1 true (default : Int) (default : Int) (default : Int) (default : Int) (default : Int) (default : Int))) (cond (decide ((1440 : Int) < a1)) (K (.p4 a0 a1 true (default : Int) (default : Int) (default : Int) (default : Int) (default : Int) (default : Int))) (K (.p4 a0 a1 (decide ((IntKind.wrap .i64 (a0 + (IntKind.wrap .i64 ((60 : Int) * a1)))) < (0 : Int))) (default : Int) (default : Int) (default : Int) (default : Int) (default : Int) (default : Int)))))
  | .p4 y1 y2 y3 y4 y5 y6 y7 y8 y9 => cond y3 (some (default : (Int) × ((Int) × ((Int) × ((Int) × ((Int) × ((Int) × (Unit)))))))) (K (.p19 (IntKind.wrap .i64 (y1 + (IntKind.wrap .i64 ((60 : Int) * y2)))) (IntKind.wrap .i64 (Int.tdiv (IntKind.wrap .i64 (y1 + (IntKind.wrap .i64 ((60 : Int) * y2)))) (86400 : Int))) (IntKind.wrap .i64 ((1970 : Int) + (IntKind.wrap .i64 (Int.tdiv (IntKind.wrap .i64 (Int.tdiv (IntKind.wrap .i64 (y1 + (IntKind.wrap .i64 ((60 : Int) * y2)))) (86400 : Int))) (366 : Int))))) y4 y5 y6 y7 y8 y9))
  | .p19 y1 y2 y3 y4 y5 y6 y7 y8 y9 => (impl_daysTo n (IntKind.wrap .i64 (y3 + (1 : Int)))).bind fun (r12 : Int) => cond (decide (r12 ≤ y2)) (K (.p19 y1 y2 (IntKind.wrap .i64 (y3 + (1 : Int))) y4 y5 y6 y7 y8 y9)) ((impl_daysTo n y3).bind fun (r13 : Int) => K (.p34 y1 y2 y3 (IntKind.wrap .i64 (y2 - r13)) (1 : Int) y4 y5 y6 y7 y8 y9))
  | .p34 y1 y2 y3 y4 y5 y6 y7 y8 y9 y10 y11 => (impl_daysIn n y3 y5).bind fun (r14 : Int) => cond (decide (r14 ≤ y4)) ((impl_daysIn n y3 y5).bind fun (r15 : Int) => K (.p34 y1 y2 y3 (IntKind.wrap .i64 (y4 - r15)) (IntKind.wrap .i64 (y5 + (1 : Int))) y6 y7 y8 y9 y10 y11)) ((impl_daysIn n y3 y5).bind fun (r15 : Int) => some (y3, (y5, ((IntKind.wrap .i64 (y4 + (1 : Int))), (r15, ((Int.tmod (IntKind.wrap .i64 (y2 + (4 : Int))) (7 : Int)), ((IntKind.wrap .i64 (Int.tdiv (Int.tmod y1 (86400 : Int)) (60 : Int))), ())))))))
def impl_DateOf (n : Nat) (a0 : Int) (a1 : Int) : Option (Tup [(.pair (.int .i64) (.pair (.int .i64) (.pair (.int .i64) (.pair (.int .i64) (.pair (.int .i64) (.pair (.int .i64) .unit))))))]) := goRec impl_DateOf.step n (.p0 a0 a1)
def impl_DateOf.spec : Ctr := ⟨156, [.v (.int .i64), .v (.int .i64)], [(.pair (.int .i64) (.pair (.int .i64) (.pair (.int .i64) (.pair (.int .i64) (.pair (.int .i64) (.pair (.int .i64) .unit))))))], [], fun n x => impl_DateOf n x.1 x.2.1⟩
theorem impl_DateOf.seg_eq : SegEq ty gl impl_DateOf.F impl_DateOf.md impl_DateOf.T impl_DateOf.spec impl_DateOf.lb impl_DateOf.st impl_DateOf.step := by
  intro n goto y; cases y <;> kernel_rfl
theorem impl_DateOf.text : Text Go.Proofs.Tryz.prog impl_DateOf.F impl_DateOf.spec := textOf Go.Proofs.Tryz.f156
theorem impl_DateOf.ok : CtrOK Go.Proofs.Tryz.prog gl impl_DateOf.spec :=
  ctr_okS tabs impl_DateOf.text impl_DateOf.seg_eq (fun n x => ⟨.p0 x.1 x.2.1, rfl, rfl, rfl⟩) (consC impl_isTime.ok (consC impl_daysTo.ok (consC impl_daysIn.ok (nilC))))

/-! loop.example/g00039/impl.inRanges -/
def impl_inRanges.T : List Ctr := []
def impl_inRanges.md : List (Nat × List Md) := []
noncomputable def impl_inRanges.F : Fun := ⟨(Go.Proofs.Tryz.f157.body).getD .skip, [.v (.sl false (.pair (.int .i64) (.pair (.int .i64) .unit))), .v (.sl false (.int .i64))], [(.tmp 4, .bool)], [], 0, [(15, ⟨[1, 12, 13, 14], [(12, (.pair (.int .i64) (.pair (.int .i64) .unit)))], [], false⟩), (29, ⟨[1, 6, 12, 13, 14, 18, 19, 20], [(12, (.pair (.int .i64) (.pair (.int .i64) .unit))), (18, (.int .i64))], [], false⟩)]⟩
inductive impl_inRanges.Pt where
  | p0 (a0 : List ((Int) × ((Int) × (Unit)))) (a1 : List (Int))
  | p15 (y1 : List (Int)) (y2 : List ((Int) × ((Int) × (Unit)))) (y3 : Int) (y4 : Int)
  | p29 (y1 : List (Int)) (y2 : List ((Int) × ((Int) × (Unit)))) (y3 : Int) (y4 : Int) (y5 : List (Int)) (y6 : Int) (y7 : Int) (y8 : Int) (y9 : Int)
def impl_inRanges.lb : impl_inRanges.Pt → Nat
  | .p0 _ _ => 0
  | .p15 _ _ _ _ => 15
  | .p29 _ _ _ _ _ _ _ _ _ => 29
def impl_inRanges.st : impl_inRanges.Pt → St
  | .p0 a0 a1 => enter [.v (.sl false (.pair (.int .i64) (.pair (.int .i64) .unit))) a0, .v (.sl false (.int .i64)) a1] 0
  | .p15 y1 y2 y3 y4 => ⟨[(1, .im (.sl false (.int .i64)) y1), (12, .im (.sl false (.pair (.int .i64) (.pair (.int .i64) .unit))) y2), (13, .im (.int .i64) y3), (14, .im (.int .i64) y4)], [], 0⟩
  | .p29 y1 y2 y3 y4 y5 y6 y7 y8 y9 => ⟨[(1, .im (.sl false (.int .i64)) y1), (6, .po 0 0), (12, .im (.sl false (.pair (.int .i64) (.pair (.int .i64) .unit))) y2), (13, .im (.int .i64) y3), (14, .im (.int .i64) y4), (18, .im (.sl false (.int .i64)) y5), (19, .im (.int .i64) y6), (20, .im (.int .i64) y7)], [(0, .obj [.im (.int .i64) y8, .im (.int .i64) y9])], 1⟩
def impl_inRanges.step (n : Nat) (K : impl_inRanges.Pt → Option (Tup [.bool])) : impl_inRanges.Pt → Option (Tup [.bool])
  | .p0 a0 a1 => cond (decide (((List.length a0) : Int) = (0 : Int))) (some true) (K (.p15 a1 a0 ((List.length a0) : Int) (0 : Int)))
  | .p15 y1 y2 y3 y4 => cond (decide (y4 < y3)) (cond (inB y4 (List.length y2)) (K (.p29 y1 y2 y3 y4 y1 ((List.length y1) : Int) (0 : Int) (List.getD y2 (Int.toNat y4) default).1 (List.getD y2 (Int.toNat y4) default).2.1)) (none)) (some false)
  | .p29 y1 y2 y3 y4 y5 y6 y7 y8 y9 => cond (decide (y7 < y6)) (cond (inB y7 (List.length y5)) (cond (decide (y8 ≤ (List.getD y5 (Int.toNat y7) default))) (cond (decide ((List.getD y5 (Int.toNat y7) default) ≤ y9)) (some true) (K (.p29 y1 y2 y3 y4 y5 y6 (IntKind.wrap .i64 (y7 + (1 : Int))) y8 y9))) (K (.p29 y1 y2 y3 y4 y5 y6 (IntKind.wrap .i64 (y7 + (1 : Int))) y8 y9))) (none)) (K (.p15 y1 y2 y3 (IntKind.wrap .i64 (y4 + (1 : Int)))))
def impl_inRanges (n : Nat) (a0 : List ((Int) × ((Int) × (Unit)))) (a1 : List (Int)) : Option (Tup [.bool]) := goRec impl_inRanges.step n (.p0 a0 a1)
def impl_inRanges.spec : Ctr := ⟨157, [.v (.sl false (.pair (.int .i64) (.pair (.int .i64) .unit))), .v (.sl false (.int .i64))], [.bool], [], fun n x => impl_inRanges n x.1 x.2.1⟩
theorem impl_inRanges.seg_eq : SegEq ty gl impl_inRanges.F impl_inRanges.md impl_inRanges.T impl_inRanges.spec impl_inRanges.lb impl_inRanges.st impl_inRanges.step := by
  intro n goto y; cases y <;> kernel_rfl
theorem impl_inRanges.text : Text Go.Proofs.Tryz.prog impl_inRanges.F impl_inRanges.spec := textOf Go.Proofs.Tryz.f157
theorem impl_inRanges.ok : CtrOK Go.Proofs.Tryz.prog gl impl_inRanges.spec :=
  ctr_okS tabs impl_inRanges.text impl_inRanges.seg_eq (fun n x => ⟨.p0 x.1 x.2.1, rfl, rfl, rfl⟩) (nilC)

/-! loop.example/g00039/impl.DayNumber -/
def impl_DayNumber.T : List Ctr := [impl_daysTo.spec, impl_daysIn.spec]
def impl_DayNumber.md : List (Nat × List Md) := []
noncomputable def impl_DayNumber.F : Fun := ⟨(Go.Proofs.Tryz.f159.body).getD .skip, [.v (.int .i64), .v (.int .i64), .v (.int .i64)], [(.tmp 6, (.int .i64))], [], 0, [(4, ⟨[0, 1, 2, 33], [], [], false⟩), (17, ⟨[0, 1, 7, 8], [], [], false⟩)]⟩
inductive impl_DayNumber.Pt where
  | p0 (a0 : Int) (a1 : Int) (a2 : Int)
  | p4 (y1 : Int) (y2 : Int) (y3 : Int) (y4 : Bool)
  | p17 (y1 : Int) (y2 : Int) (y3 : Int) (y4 : Int)
def impl_DayNumber.lb : impl_DayNumber.Pt → Nat
  | .p0 _ _ _ => 0
  | .p4 _ _ _ _ => 4
  | .p17 _ _ _ _ => 17
def impl_DayNumber.st : impl_DayNumber.Pt → St
  | .p0 a0 a1 a2 => enter [.v (.int .i64) a0, .v (.int .i64) a1, .v (.int .i64) a2] 0
  | .p4 y1 y2 y3 y4 => ⟨[(0, .im (.int .i64) y1), (1, .im (.int .i64) y2), (2, .im (.int .i64) y3), (33, .im .bool y4)], [], 0⟩
  | .p17 y1 y2 y3 y4 => ⟨[(0, .im (.int .i64) y1), (1, .im (.int .i64) y2), (7, .im (.int .i64) y3), (8, .im (.int .i64) y4)], [], 0⟩
def impl_DayNumber.step (n : Nat) (K : impl_DayNumber.Pt → Option (Tup [(.int .i64)])) : impl_DayNumber.Pt → Option (Tup [(.int .i64)])
  | .p0 a0 a1 a2 => cond (decide (a0 < (1970 : Int))) (K (.p4 a0 a1 a2 true)) (cond (decide ((40000 : Int) < a0)) (K (.p4 a0 a1 a2 true)) (cond (decide (a1 < (1 : Int))) (K (.p4 a0 a1 a2 true)) (cond (decide ((12 : Int) < a1)) (K (.p4 a0 a1 a2 true)) (cond (decide (a2 < (1 : Int))) (K (.p4 a0 a1 a2 true)) ((impl_daysIn n a0 a1).bind fun (r6 : Int) => K (.p4 a0 a1 a2 (decide (r6 < a2))))))))
  | .p4 y1 y2 y3 y4 => cond y4 (some (-(1 : Int))) ((impl_daysTo n y1).bind fun (r7 : Int) => K (.p17 y1 y2 (IntKind.wrap .i64 ((IntKind.wrap .i64 (r7 + y3)) - (1 : Int))) (1 : Int)))
  | .p17 y1 y2 y3 y4 => cond (decide (y4 < y2)) ((impl_daysIn n y1 y4).bind fun (r7 : Int) => K (.p17 y1 y2 (IntKind.wrap .i64 (y3 + r7)) (IntKind.wrap .i64 (y4 + (1 : Int))))) (some y3)
def impl_DayNumber (n : Nat) (a0 : Int) (a1 : Int) (a2 : Int) : Option (Tup [(.int .i64)]) := goRec impl_DayNumber.step n (.p0 a0 a1 a2)
def impl_DayNumber.spec : Ctr := ⟨159, [.v (.int .i64), .v (.int .i64), .v (.int .i64)], [(.int .i64)], [], fun n x => impl_DayNumber n x.1 x.2.1 x.2.2.1⟩
theorem impl_DayNumber.seg_eq : SegEq ty gl impl_DayNumber.F impl_DayNumber.md impl_DayNumber.T impl_DayNumber.spec impl_DayNumber.lb impl_DayNumber.st impl_DayNumber.step := by
  intro n goto y; cases y <;> kernel_rfl
theorem impl_DayNumber.text : Text Go.Proofs.Tryz.prog impl_DayNumber.F impl_DayNumber.spec := textOf Go.Proofs.Tryz.f159
theorem impl_DayNumber.ok : CtrOK Go.Proofs.Tryz.prog gl impl_DayNumber.spec :=
  ctr_okS tabs impl_DayNumber.text impl_DayNumber.seg_eq (fun n x => ⟨.p0 x.1 x.2.1 x.2.2.1, rfl, rfl, rfl⟩) (consC impl_daysTo.ok (consC impl_daysIn.ok (nilC)))

/-! slices.Index[[]int,int] -/
def slices_Index_int.T : List Ctr := []
def slices_Index_int.md : List (Nat × List Md) := []
noncomputable def slices_Index_int.F : Fun := ⟨(Go.Proofs.Tryz.f190.body).getD .skip, [.v (.sl false (.int .i64)), .v (.int .i64)], [(.tmp 4, (.int .i64))], [], 0, [(7, ⟨[0, 1, 7, 8], [], [], false⟩)]⟩
inductive slices_Index_int.Pt where
  | p0 (a0 : List (Int)) (a1 : Int)
  | p7 (y1 : List (Int)) (y2 : Int) (y3 : Int) (y4 : Int)
def slices_Index_int.lb : slices_Index_int.Pt → Nat
  | .p0 _ _ => 0
  | .p7 _ _ _ _ => 7
def slices_Index_int.st : slices_Index_int.Pt → St
  | .p0 a0 a1 => enter [.v (.sl false (.int .i64)) a0, .v (.int .i64) a1] 0
  | .p7 y1 y2 y3 y4 => ⟨[(0, .im (.sl false (.int .i64)) y1), (1, .im (.int .i64) y2), (7, .im (.int .i64) y3), (8, .im (.int .i64) y4)], [], 0⟩
def slices_Index_int.step (n : Nat) (K : slices_Index_int.Pt → Option (Tup [(.int .i64)])) : slices_Index_int.Pt → Option (Tup [(.int .i64)])
  | .p0 a0 a1 => K (.p7 a0 a1 ((List.length a0) : Int) (0 : Int))
  | .p7 y1 y2 y3 y4 => cond (decide (y4 < y3)) (cond (inB y4 (List.length y1)) (cond (decide (y2 = (List.getD y1 (Int.toNat y4) default))) (some y4) (K (.p7 y1 y2 y3 (IntKind.wrap .i64 (y4 + (1 : Int)))))) (none)) (some (-(1 : Int)))
def slices_Index_int (n : Nat) (a0 : List (Int)) (a1 : Int) : Option (Tup [(.int .i64)]) := goRec slices_Index_int.step n (.p0 a0 a1)
def slices_Index_int.spec : Ctr := ⟨190, [.v (.sl false (.int .i64)), .v (.int .i64)], [(.int .i64)], [], fun n x => slices_Index_int n x.1 x.2.1⟩
theorem slices_Index_int.seg_eq : SegEq ty gl slices_Index_int.F slices_Index_int.md slices_Index_int.T slices_Index_int.spec slices_Index_int.lb slices_Index_int.st slices_Index_int.step := by
  intro n goto y; cases y <;> kernel_rfl
theorem slices_Index_int.text : Text Go.Proofs.Tryz.prog slices_Index_int.F slices_Index_int.spec := textOf Go.Proofs.Tryz.f190
theorem slices_Index_int.ok : CtrOK Go.Proofs.Tryz.prog gl slices_Index_int.spec :=
  ctr_okS tabs slices_Index_int.text slices_Index_int.seg_eq (fun n x => ⟨.p0 x.1 x.2.1, rfl, rfl, rfl⟩) (nilC)

/-! slices.Contains[[]int,int] -/
def slices_Contains_int.T : List Ctr := [slices_Index_int.spec]
def slices_Contains_int.md : List (Nat × List Md) := []
noncomputable def slices_Contains_int.F : Fun := ⟨(Go.Proofs.Tryz.f158.body).getD .skip, [.v (.sl false (.int .i64)), .v (.int .i64)], [(.tmp 4, .bool)], [], 0, []⟩
inductive slices_Contains_int.Pt where
  | p0 (a0 : List (Int)) (a1 : Int)
def slices_Contains_int.lb : slices_Contains_int.Pt → Nat
  | .p0 _ _ => 0
def slices_Contains_int.st : slices_Contains_int.Pt → St
  | .p0 a0 a1 => enter [.v (.sl false (.int .i64)) a0, .v (.int .i64) a1] 0
def slices_Contains_int.step (n : Nat) (K : slices_Contains_int.Pt → Option (Tup [.bool])) : slices_Contains_int.Pt → Option (Tup [.bool])
  | .p0 a0 a1 => (slices_Index_int n a0 a1).bind fun (r5 : Int) => some (decide ((0 : Int) ≤ r5))
def slices_Contains_int (n : Nat) (a0 : List (Int)) (a1 : Int) : Option (Tup [.bool]) := goRec slices_Contains_int.step n (.p0 a0 a1)
def slices_Contains_int.spec : Ctr := ⟨158, [.v (.sl false (.int .i64)), .v (.int .i64)], [.bool], [], fun n x => slices_Contains_int n x.1 x.2.1⟩
theorem slices_Contains_int.seg_eq : SegEq ty gl slices_Contains_int.F slices_Contains_int.md slices_Contains_int.T slices_Contains_int.spec slices_Contains_int.lb slices_Contains_int.st slices_Contains_int.step := by
  intro n goto y; cases y <;> kernel_rfl
theorem slices_Contains_int.text : Text Go.Proofs.Tryz.prog slices_Contains_int.F slices_Contains_int.spec := textOf Go.Proofs.Tryz.f158
theorem slices_Contains_int.ok : CtrOK Go.Proofs.Tryz.prog gl slices_Contains_int.spec :=
  ctr_okS tabs slices_Contains_int.text slices_Contains_int.seg_eq (fun n x => ⟨.p0 x.1 x.2.1, rfl, rfl, rfl⟩) (consC slices_Index_int.ok (nilC))

/-! loop.example/g00039/impl.InInterval -/
def impl_InInterval.T : List Ctr := [impl_isTime.spec, impl_GoodInterval.spec, impl_DateOf.spec, impl_inRanges.spec, impl_DayNumber.spec, slices_Contains_int.spec]
def impl_InInterval.md : List (Nat × List Md) := []
noncomputable def impl_InInterval.F : Fun := ⟨(Go.Proofs.Tryz.f111.body).getD .skip, [.v (.pair (.int .i64) (.pair (.sl false (.pair (.int .i64) (.pair (.int .i64) .unit))) (.pair (.sl false (.pair (.int .i64) (.pair (.int .i64) .unit))) (.pair (.sl false (.pair (.int .i64) (.pair (.int .i64) .unit))) (.pair (.sl false (.pair (.int .i64) (.pair (.int .i64) .unit))) (.pair (.sl false (.pair (.int .i64) (.pair (.int .i64) .unit))) (.pair (.sl false (.int .i64)) .unit))))))), .v (.int .i64)], [(.tmp 4, .bool)], [], 0, [(4, ⟨[1, 2, 13], [], [(2, 1, (.pair (.int .i64) (.pair (.int .i64) .unit))), (2, 2, (.pair (.int .i64) (.pair (.int .i64) .unit))), (2, 3, (.pair (.int .i64) (.pair (.int .i64) .unit))), (2, 4, (.pair (.int .i64) (.pair (.int .i64) .unit))), (2, 5, (.pair (.int .i64) (.pair (.int .i64) .unit))), (2, 6, (.int .i64))], false⟩)]⟩
inductive impl_InInterval.Pt where
  | p0 (a0 : (Int) × ((List ((Int) × ((Int) × (Unit)))) × ((List ((Int) × ((Int) × (Unit)))) × ((List ((Int) × ((Int) × (Unit)))) × ((List ((Int) × ((Int) × (Unit)))) × ((List ((Int) × ((Int) × (Unit)))) × ((List (Int)) × (Unit)))))))) (a1 : Int)
  | p4 (y1 : Int) (y2 : Bool) (y3 : Int) (y4 : List ((Int) × ((Int) × (Unit)))) (y5 : List ((Int) × ((Int) × (Unit)))) (y6 : List ((Int) × ((Int) × (Unit)))) (y7 : List ((Int) × ((Int) × (Unit)))) (y8 : List ((Int) × ((Int) × (Unit)))) (y9 : List (Int))
def impl_InInterval.lb : impl_InInterval.Pt → Nat
  | .p0 _ _ => 0
  | .p4 _ _ _ _ _ _ _ _ _ => 4
def impl_InInterval.st : impl_InInterval.Pt → St
  | .p0 a0 a1 => enter [.v (.pair (.int .i64) (.pair (.sl false (.pair (.int .i64) (.pair (.int .i64) .unit))) (.pair (.sl false (.pair (.int .i64) (.pair (.int .i64) .unit))) (.pair (.sl false (.pair (.int .i64) (.pair (.int .i64) .unit))) (.pair (.sl false (.pair (.int .i64) (.pair (.int .i64) .unit))) (.pair (.sl false (.pair (.int .i64) (.pair (.int .i64) .unit))) (.pair (.sl false (.int .i64)) .unit))))))) a0, .v (.int .i64) a1] 0
  | .p4 y1 y2 y3 y4 y5 y6 y7 y8 y9 => ⟨[(1, .im (.int .i64) y1), (2, .po 0 0), (13, .im .bool y2)], [(0, .obj [.im (.int .i64) y3, .im (.sl false (.pair (.int .i64) (.pair (.int .i64) .unit))) y4, .im (.sl false (.pair (.int .i64) (.pair (.int .i64) .unit))) y5, .im (.sl false (.pair (.int .i64) (.pair (.int .i64) .unit))) y6, .im (.sl false (.pair (.int .i64) (.pair (.int .i64) .unit))) y7, .im (.sl false (.pair (.int .i64) (.pair (.int .i64) .unit))) y8, .im (.sl false (.int .i64)) y9])], 1⟩
def impl_InInterval.step (n : Nat) (K : impl_InInterval.Pt → Option (Tup [.bool])) : impl_InInterval.Pt → Option (Tup [.bool])
  | .p0 a0 a1 => (impl_GoodInterval n a0).bind fun r5 => cond (!r5) (K (.p4 a1 true a0.1 a0.2.1 a0.2.2.1 a0.2.2.2.1 a0.2.2.2.2.1 a0.2.2.2.2.2.1 a0.2.2.2.2.2.2.1)) ((impl_isTime n a1).bind fun r6 => K (.p4 a1 (!r6) a0.1 a0.2.1 a0.2.2.1 a0.2.2.2.1 a0.2.2.2.2.1 a0.2.2.2.2.2.1 a0.2.2.2.2.2.2.1))
  | .p4 y1 y2 y3 y4 y5 y6 y7 y8 y9 => cond y2 (some false) ((impl_DateOf n y1 y3).bind fun r12 => cond (decide (r12.1 = (0 : Int))) (some false) ((impl_inRanges n y4 [r12.2.2.2.2.2.1]).bind fun r13 => cond r13 ((impl_inRanges n y5 [r12.2.2.2.2.1]).bind fun r14 => cond r14 ((impl_inRanges n y6 [r12.2.2.1, (IntKind.wrap .i64 ((IntKind.wrap .i64 (r12.2.2.1 - r12.2.2.2.1)) - (1 : Int)))]).bind fun r15 => cond r15 ((impl_inRanges n y7 [r12.2.1]).bind fun r16 => cond r16 ((impl_inRanges n y8 [r12.1]).bind fun r17 => cond r17 ((impl_DayNumber n r12.1 r12.2.1 r12.2.2.1).bind fun (r18 : Int) => (slices_Contains_int n y9 r18).bind fun r19 => some (!r19)) (some false)) (some false)) (some false)) (some false)) (some false)))
def impl_InInterval (n : Nat) (a0 : (Int) × ((List ((Int) × ((Int) × (Unit)))) × ((List ((Int) × ((Int) × (Unit)))) × ((List ((Int) × ((Int) × (Unit)))) × ((List ((Int) × ((Int) × (Unit)))) × ((List ((Int) × ((Int) × (Unit)))) × ((List (Int)) × (Unit)))))))) (a1 : Int) : Option (Tup [.bool]) := goRec impl_InInterval.step n (.p0 a0 a1)
def impl_InInterval.spec : Ctr := ⟨111, [.v (.pair (.int .i64) (.pair (.sl false (.pair (.int .i64) (.pair (.int .i64) .unit))) (.pair (.sl false (.pair (.int .i64) (.pair (.int .i64) .unit))) (.pair (.sl false (.pair (.int .i64) (.pair (.int .i64) .unit))) (.pair (.sl false (.pair (.int .i64) (.pair (.int .i64) .unit))) (.pair (.sl false (.pair (.int .i64) (.pair (.int .i64) .unit))) (.pair (.sl false (.int .i64)) .unit))))))), .v (.int .i64)], [.bool], [], fun n x => impl_InInterval n x.1 x.2.1⟩
theorem impl_InInterval.seg_eq : SegEq ty gl impl_InInterval.F impl_InInterval.md impl_InInterval.T impl_InInterval.spec impl_InInterval.lb impl_InInterval.st impl_InInterval.step := by
  intro n goto y; cases y <;> kernel_rfl
theorem impl_InInterval.text : Text Go.Proofs.Tryz.prog impl_InInterval.F impl_InInterval.spec := textOf Go.Proofs.Tryz.f111
theorem impl_InInterval.ok : CtrOK Go.Proofs.Tryz.prog gl impl_InInterval.spec :=
  ctr_okS tabs impl_InInterval.text impl_InInterval.seg_eq (fun n x => ⟨.p0 x.1 x.2.1, rfl, rfl, rfl⟩) (consC impl_isTime.ok (consC impl_GoodInterval.ok (consC impl_DateOf.ok (consC impl_inRanges.ok (consC impl_DayNumber.ok (consC slices_Contains_int.ok (nilC)))))))

/-! loop.example/g00039/impl.mutedAt$1 -/
def impl_mutedAt_1.T : List Ctr := [impl_InInterval.spec]
def impl_mutedAt_1.md : List (Nat × List Md) := []
noncomputable def impl_mutedAt_1.F : Fun := ⟨(Go.Proofs.Tryz.f110.body).getD .skip, [.v (.int .i64), .q (.pair (.sl false (.pair .str (.pair (.sl false (.pair .str (.pair (.int .i64) (.pair .str .unit)))) (.pair (.sl false .str) (.pair (.int .i64) (.pair (.int .i64) (.pair (.int .i64) (.pair (.sl false (.int .i64)) (.pair .bool (.pair (.int .i64) .unit)))))))))) (.pair (.sl false (.pair (.int .i64) (.pair (.sl false (.pair (.int .i64) (.pair (.int .i64) .unit))) (.pair (.sl false (.pair (.int .i64) (.pair (.int .i64) .unit))) (.pair (.sl false (.pair (.int .i64) (.pair (.int .i64) .unit))) (.pair (.sl false (.pair (.int .i64) (.pair (.int .i64) .unit))) (.pair (.sl false (.pair (.int .i64) (.pair (.int .i64) .unit))) (.pair (.sl false (.int .i64)) .unit)))))))) (.pair (.sl false (.pair .str (.pair (.sl false (.pair .str (.pair (.int .i64) (.pair .str .unit)))) (.pair (.int .i64) (.pair (.int .i64) .unit))))) (.pair (.sl false (.pair (.sl false (.pair .str (.pair (.int .i64) (.pair .str .unit)))) (.pair (.sl false (.pair .str (.pair (.int .i64) (.pair .str .unit)))) (.pair (.sl false .str) .unit)))) .unit)))), .q (.int .i64)], [(.tmp 4, .bool)], [], 0, []⟩
inductive impl_mutedAt_1.Pt where
  | p0 (a0 : Int) (a1 : (List ((ByteArray) × ((List ((ByteArray) × ((Int) × ((ByteArray) × (Unit))))) × ((List (ByteArray)) × ((Int) × ((Int) × ((Int) × ((List (Int)) × ((Bool) × ((Int) × (Unit))))))))))) × ((List ((Int) × ((List ((Int) × ((Int) × (Unit)))) × ((List ((Int) × ((Int) × (Unit)))) × ((List ((Int) × ((Int) × (Unit)))) × ((List ((Int) × ((Int) × (Unit)))) × ((List ((Int) × ((Int) × (Unit)))) × ((List (Int)) × (Unit))))))))) × ((List ((ByteArray) × ((List ((ByteArray) × ((Int) × ((ByteArray) × (Unit))))) × ((Int) × ((Int) × (Unit)))))) × ((List ((List ((ByteArray) × ((Int) × ((ByteArray) × (Unit))))) × ((List ((ByteArray) × ((Int) × ((ByteArray) × (Unit))))) × ((List (ByteArray)) × (Unit))))) × (Unit))))) (a2 : Int)
def impl_mutedAt_1.lb : impl_mutedAt_1.Pt → Nat
  | .p0 _ _ _ => 0
def impl_mutedAt_1.st : impl_mutedAt_1.Pt → St
  | .p0 a0 a1 a2 => enter [.v (.int .i64) a0, .q (.pair (.sl false (.pair .str (.pair (.sl false (.pair .str (.pair (.int .i64) (.pair .str .unit)))) (.pair (.sl false .str) (.pair (.int .i64) (.pair (.int .i64) (.pair (.int .i64) (.pair (.sl false (.int .i64)) (.pair .bool (.pair (.int .i64) .unit)))))))))) (.pair (.sl false (.pair (.int .i64) (.pair (.sl false (.pair (.int .i64) (.pair (.int .i64) .unit))) (.pair (.sl false (.pair (.int .i64) (.pair (.int .i64) .unit))) (.pair (.sl false (.pair (.int .i64) (.pair (.int .i64) .unit))) (.pair (.sl false (.pair (.int .i64) (.pair (.int .i64) .unit))) (.pair (.sl false (.pair (.int .i64) (.pair (.int .i64) .unit))) (.pair (.sl false (.int .i64)) .unit)))))))) (.pair (.sl false (.pair .str (.pair (.sl false (.pair .str (.pair (.int .i64) (.pair .str .unit)))) (.pair (.int .i64) (.pair (.int .i64) .unit))))) (.pair (.sl false (.pair (.sl false (.pair .str (.pair (.int .i64) (.pair .str .unit)))) (.pair (.sl false (.pair .str (.pair (.int .i64) (.pair .str .unit)))) (.pair (.sl false .str) .unit)))) .unit)))) a1, .q (.int .i64) a2] 0
def impl_mutedAt_1.step (n : Nat) (K : impl_mutedAt_1.Pt → Option (Tup [.bool])) : impl_mutedAt_1.Pt → Option (Tup [.bool])
  | .p0 a0 a1 a2 => cond (inB a0 (List.length a1.2.1)) ((impl_InInterval n (List.getD a1.2.1 (Int.toNat a0) default) a2).bind fun r6 => some r6) (none)
def impl_mutedAt_1 (n : Nat) (a0 : Int) (a1 : (List ((ByteArray) × ((List ((ByteArray) × ((Int) × ((ByteArray) × (Unit))))) × ((List (ByteArray)) × ((Int) × ((Int) × ((Int) × ((List (Int)) × ((Bool) × ((Int) × (Unit))))))))))) × ((List ((Int) × ((List ((Int) × ((Int) × (Unit)))) × ((List ((Int) × ((Int) × (Unit)))) × ((List ((Int) × ((Int) × (Unit)))) × ((List ((Int) × ((Int) × (Unit)))) × ((List ((Int) × ((Int) × (Unit)))) × ((List (Int)) × (Unit))))))))) × ((List ((ByteArray) × ((List ((ByteArray) × ((Int) × ((ByteArray) × (Unit))))) × ((Int) × ((Int) × (Unit)))))) × ((List ((List ((ByteArray) × ((Int) × ((ByteArray) × (Unit))))) × ((List ((ByteArray) × ((Int) × ((ByteArray) × (Unit))))) × ((List (ByteArray)) × (Unit))))) × (Unit))))) (a2 : Int) : Option (Tup [.bool]) := goRec impl_mutedAt_1.step n (.p0 a0 a1 a2)
def impl_mutedAt_1.spec : Ctr := ⟨110, [.v (.int .i64), .q (.pair (.sl false (.pair .str (.pair (.sl false (.pair .str (.pair (.int .i64) (.pair .str .unit)))) (.pair (.sl false .str) (.pair (.int .i64) (.pair (.int .i64) (.pair (.int .i64) (.pair (.sl false (.int .i64)) (.pair .bool (.pair (.int .i64) .unit)))))))))) (.pair (.sl false (.pair (.int .i64) (.pair (.sl false (.pair (.int .i64) (.pair (.int .i64) .unit))) (.pair (.sl false (.pair (.int .i64) (.pair (.int .i64) .unit))) (.pair (.sl false (.pair (.int .i64) (.pair (.int .i64) .unit))) (.pair (.sl false (.pair (.int .i64) (.pair (.int .i64) .unit))) (.pair (.sl false (.pair (.int .i64) (.pair (.int .i64) .unit))) (.pair (.sl false (.int .i64)) .unit)))))))) (.pair (.sl false (.pair .str (.pair (.sl false (.pair .str (.pair (.int .i64) (.pair .str .unit)))) (.pair (.int .i64) (.pair (.int .i64) .unit))))) (.pair (.sl false (.pair (.sl false (.pair .str (.pair (.int .i64) (.pair .str .unit)))) (.pair (.sl false (.pair .str (.pair (.int .i64) (.pair .str .unit)))) (.pair (.sl false .str) .unit)))) .unit)))), .q (.int .i64)], [.bool], [], fun n x => impl_mutedAt_1 n x.1 x.2.1 x.2.2.1⟩
theorem impl_mutedAt_1.seg_eq : SegEq ty gl impl_mutedAt_1.F impl_mutedAt_1.md impl_mutedAt_1.T impl_mutedAt_1.spec impl_mutedAt_1.lb impl_mutedAt_1.st impl_mutedAt_1.step := by
  intro n goto y; cases y <;> kernel_rfl
theorem impl_mutedAt_1.text : Text Go.Proofs.Tryz.prog impl_mutedAt_1.F impl_mutedAt_1.spec := textOf Go.Proofs.Tryz.f110
theorem impl_mutedAt_1.ok : CtrOK Go.Proofs.Tryz.prog gl impl_mutedAt_1.spec :=
  ctr_okS tabs impl_mutedAt_1.text impl_mutedAt_1.seg_eq (fun n x => ⟨.p0 x.1 x.2.1 x.2.2.1, rfl, rfl, rfl⟩) (consC impl_InInterval.ok (nilC))

/-! slices.IndexFunc[[]int,int] -/
def slices_IndexFunc_int_impl_mutedAt_1.T : List Ctr := [impl_mutedAt_1.spec]
def slices_IndexFunc_int_impl_mutedAt_1.md : List (Nat × List Md) := [(110, [.v, .q (.pair (.sl false (.pair .str (.pair (.sl false (.pair .str (.pair (.int .i64) (.pair .str .unit)))) (.pair (.sl false .str) (.pair (.int .i64) (.pair (.int .i64) (.pair (.int .i64) (.pair (.sl false (.int .i64)) (.pair .bool (.pair (.int .i64) .unit)))))))))) (.pair (.sl false (.pair (.int .i64) (.pair (.sl false (.pair (.int .i64) (.pair (.int .i64) .unit))) (.pair (.sl false (.pair (.int .i64) (.pair (.int .i64) .unit))) (.pair (.sl false (.pair (.int .i64) (.pair (.int .i64) .unit))) (.pair (.sl false (.pair (.int .i64) (.pair (.int .i64) .unit))) (.pair (.sl false (.pair (.int .i64) (.pair (.int .i64) .unit))) (.pair (.sl false (.int .i64)) .unit)))))))) (.pair (.sl false (.pair .str (.pair (.sl false (.pair .str (.pair (.int .i64) (.pair .str .unit)))) (.pair (.int .i64) (.pair (.int .i64) .unit))))) (.pair (.sl false (.pair (.sl false (.pair .str (.pair (.int .i64) (.pair .str .unit)))) (.pair (.sl false (.pair .str (.pair (.int .i64) (.pair .str .unit)))) (.pair (.sl false .str) .unit)))) .unit)))), .q (.int .i64)]), (1000110, [.q (.pair (.sl false (.pair .str (.pair (.sl false (.pair .str (.pair (.int .i64) (.pair .str .unit)))) (.pair (.sl false .str) (.pair (.int .i64) (.pair (.int .i64) (.pair (.int .i64) (.pair (.sl false (.int .i64)) (.pair .bool (.pair (.int .i64) .unit)))))))))) (.pair (.sl false (.pair (.int .i64) (.pair (.sl false (.pair (.int .i64) (.pair (.int .i64) .unit))) (.pair (.sl false (.pair (.int .i64) (.pair (.int .i64) .unit))) (.pair (.sl false (.pair (.int .i64) (.pair (.int .i64) .unit))) (.pair (.sl false (.pair (.int .i64) (.pair (.int .i64) .unit))) (.pair (.sl false (.pair (.int .i64) (.pair (.int .i64) .unit))) (.pair (.sl false (.int .i64)) .unit)))))))) (.pair (.sl false (.pair .str (.pair (.sl false (.pair .str (.pair (.int .i64) (.pair .str .unit)))) (.pair (.int .i64) (.pair (.int .i64) .unit))))) (.pair (.sl false (.pair (.sl false (.pair .str (.pair (.int .i64) (.pair .str .unit)))) (.pair (.sl false (.pair .str (.pair (.int .i64) (.pair .str .unit)))) (.pair (.sl false .str) .unit)))) .unit)))), .q (.int .i64)])]
noncomputable def slices_IndexFunc_int_impl_mutedAt_1.F : Fun := ⟨(Go.Proofs.Tryz.f155.body).getD .skip, [.v (.sl false (.int .i64)), .fn 110 [.q (.pair (.sl false (.pair .str (.pair (.sl false (.pair .str (.pair (.int .i64) (.pair .str .unit)))) (.pair (.sl false .str) (.pair (.int .i64) (.pair (.int .i64) (.pair (.int .i64) (.pair (.sl false (.int .i64)) (.pair .bool (.pair (.int .i64) .unit)))))))))) (.pair (.sl false (.pair (.int .i64) (.pair (.sl false (.pair (.int .i64) (.pair (.int .i64) .unit))) (.pair (.sl false (.pair (.int .i64) (.pair (.int .i64) .unit))) (.pair (.sl false (.pair (.int .i64) (.pair (.int .i64) .unit))) (.pair (.sl false (.pair (.int .i64) (.pair (.int .i64) .unit))) (.pair (.sl false (.pair (.int .i64) (.pair (.int .i64) .unit))) (.pair (.sl false (.int .i64)) .unit)))))))) (.pair (.sl false (.pair .str (.pair (.sl false (.pair .str (.pair (.int .i64) (.pair .str .unit)))) (.pair (.int .i64) (.pair (.int .i64) .unit))))) (.pair (.sl false (.pair (.sl false (.pair .str (.pair (.int .i64) (.pair .str .unit)))) (.pair (.sl false (.pair .str (.pair (.int .i64) (.pair .str .unit)))) (.pair (.sl false .str) .unit)))) .unit)))), .q (.int .i64)]], [(.tmp 4, (.int .i64))], [], 0, [(7, ⟨[0, 1, 7, 8], [], [], false⟩)]⟩
inductive slices_IndexFunc_int_impl_mutedAt_1.Pt where
  | p0 (a0 : List (Int)) (a1 : (List ((ByteArray) × ((List ((ByteArray) × ((Int) × ((ByteArray) × (Unit))))) × ((List (ByteArray)) × ((Int) × ((Int) × ((Int) × ((List (Int)) × ((Bool) × ((Int) × (Unit))))))))))) × ((List ((Int) × ((List ((Int) × ((Int) × (Unit)))) × ((List ((Int) × ((Int) × (Unit)))) × ((List ((Int) × ((Int) × (Unit)))) × ((List ((Int) × ((Int) × (Unit)))) × ((List ((Int) × ((Int) × (Unit)))) × ((List (Int)) × (Unit))))))))) × ((List ((ByteArray) × ((List ((ByteArray) × ((Int) × ((ByteArray) × (Unit))))) × ((Int) × ((Int) × (Unit)))))) × ((List ((List ((ByteArray) × ((Int) × ((ByteArray) × (Unit))))) × ((List ((ByteArray) × ((Int) × ((ByteArray) × (Unit))))) × ((List (ByteArray)) × (Unit))))) × (Unit))))) (a2 : Int)
  | p7 (y1 : List (Int)) (y2 : Int) (y3 : Int) (y4 : (List ((ByteArray) × ((List ((ByteArray) × ((Int) × ((ByteArray) × (Unit))))) × ((List (ByteArray)) × ((Int) × ((Int) × ((Int) × ((List (Int)) × ((Bool) × ((Int) × (Unit))))))))))) × ((List ((Int) × ((List ((Int) × ((Int) × (Unit)))) × ((List ((Int) × ((Int) × (Unit)))) × ((List ((Int) × ((Int) × (Unit)))) × ((List ((Int) × ((Int) × (Unit)))) × ((List ((Int) × ((Int) × (Unit)))) × ((List (Int)) × (Unit))))))))) × ((List ((ByteArray) × ((List ((ByteArray) × ((Int) × ((ByteArray) × (Unit))))) × ((Int) × ((Int) × (Unit)))))) × ((List ((List ((ByteArray) × ((Int) × ((ByteArray) × (Unit))))) × ((List ((ByteArray) × ((Int) × ((ByteArray) × (Unit))))) × ((List (ByteArray)) × (Unit))))) × (Unit))))) (y5 : Int)
def slices_IndexFunc_int_impl_mutedAt_1.lb : slices_IndexFunc_int_impl_mutedAt_1.Pt → Nat
  | .p0 _ _ _ => 0
  | .p7 _ _ _ _ _ => 7
def slices_IndexFunc_int_impl_mutedAt_1.st : slices_IndexFunc_int_impl_mutedAt_1.Pt → St
  | .p0 a0 a1 a2 => enter [.v (.sl false (.int .i64)) a0, .fn 110 [.q (.pair (.sl false (.pair .str (.pair (.sl false (.pair .str (.pair (.int .i64) (.pair .str .unit)))) (.pair (.sl false .str) (.pair (.int .i64) (.pair (.int .i64) (.pair (.int .i64) (.pair (.sl false (.int .i64)) (.pair .bool (.pair (.int .i64) .unit)))))))))) (.pair (.sl false (.pair (.int .i64) (.pair (.sl false (.pair (.int .i64) (.pair (.int .i64) .unit))) (.pair (.sl false (.pair (.int .i64) (.pair (.int .i64) .unit))) (.pair (.sl false (.pair (.int .i64) (.pair (.int .i64) .unit))) (.pair (.sl false (.pair (.int .i64) (.pair (.int .i64) .unit))) (.pair (.sl false (.pair (.int .i64) (.pair (.int .i64) .unit))) (.pair (.sl false (.int .i64)) .unit)))))))) (.pair (.sl false (.pair .str (.pair (.sl false (.pair .str (.pair (.int .i64) (.pair .str .unit)))) (.pair (.int .i64) (.pair (.int .i64) .unit))))) (.pair (.sl false (.pair (.sl false (.pair .str (.pair (.int .i64) (.pair .str .unit)))) (.pair (.sl false (.pair .str (.pair (.int .i64) (.pair .str .unit)))) (.pair (.sl false .str) .unit)))) .unit)))) a1, .q (.int .i64) a2]] 0
  | .p7 y1 y2 y3 y4 y5 => ⟨[(0, .im (.sl false (.int .i64)) y1), (1, .fn 110 [.po 0 0, .po 1 0]), (7, .im (.int .i64) y2), (8, .im (.int .i64) y3)], [(0, .imm (.pair (.sl false (.pair .str (.pair (.sl false (.pair .str (.pair (.int .i64) (.pair .str .unit)))) (.pair (.sl false .str) (.pair (.int .i64) (.pair (.int .i64) (.pair (.int .i64) (.pair (.sl false (.int .i64)) (.pair .bool (.pair (.int .i64) .unit)))))))))) (.pair (.sl false (.pair (.int .i64) (.pair (.sl false (.pair (.int .i64) (.pair (.int .i64) .unit))) (.pair (.sl false (.pair (.int .i64) (.pair (.int .i64) .unit))) (.pair (.sl false (.pair (.int .i64) (.pair (.int .i64) .unit))) (.pair (.sl false (.pair (.int .i64) (.pair (.int .i64) .unit))) (.pair (.sl false (.pair (.int .i64) (.pair (.int .i64) .unit))) (.pair (.sl false (.int .i64)) .unit)))))))) (.pair (.sl false (.pair .str (.pair (.sl false (.pair .str (.pair (.int .i64) (.pair .str .unit)))) (.pair (.int .i64) (.pair (.int .i64) .unit))))) (.pair (.sl false (.pair (.sl false (.pair .str (.pair (.int .i64) (.pair .str .unit)))) (.pair (.sl false (.pair .str (.pair (.int .i64) (.pair .str .unit)))) (.pair (.sl false .str) .unit)))) .unit)))) y4), (1, .imm (.int .i64) y5)], 2⟩
def slices_IndexFunc_int_impl_mutedAt_1.step (n : Nat) (K : slices_IndexFunc_int_impl_mutedAt_1.Pt → Option (Tup [(.int .i64)])) : slices_IndexFunc_int_impl_mutedAt_1.Pt → Option (Tup [(.int .i64)])
  | .p0 a0 a1 a2 => K (.p7 a0 ((List.length a0) : Int) (0 : Int) a1 a2)
  | .p7 y1 y2 y3 y4 y5 => cond (decide (y3 < y2)) (cond (inB y3 (List.length y1)) ((impl_mutedAt_1 n (List.getD y1 (Int.toNat y3) default) (List.getD [y4] 0 default) (List.getD [y5] 0 default)).bind fun r8 => cond r8 (some y3) (K (.p7 y1 y2 (IntKind.wrap .i64 (y3 + (1 : Int))) y4 y5))) (none)) (some (-(1 : Int)))
def slices_IndexFunc_int_impl_mutedAt_1 (n : Nat) (a0 : List (Int)) (a1 : (List ((ByteArray) × ((List ((ByteArray) × ((Int) × ((ByteArray) × (Unit))))) × ((List (ByteArray)) × ((Int) × ((Int) × ((Int) × ((List (Int)) × ((Bool) × ((Int) × (Unit))))))))))) × ((List ((Int) × ((List ((Int) × ((Int) × (Unit)))) × ((List ((Int) × ((Int) × (Unit)))) × ((List ((Int) × ((Int) × (Unit)))) × ((List ((Int) × ((Int) × (Unit)))) × ((List ((Int) × ((Int) × (Unit)))) × ((List (Int)) × (Unit))))))))) × ((List ((ByteArray) × ((List ((ByteArray) × ((Int) × ((ByteArray) × (Unit))))) × ((Int) × ((Int) × (Unit)))))) × ((List ((List ((ByteArray) × ((Int) × ((ByteArray) × (Unit))))) × ((List ((ByteArray) × ((Int) × ((ByteArray) × (Unit))))) × ((List (ByteArray)) × (Unit))))) × (Unit))))) (a2 : Int) : Option (Tup [(.int .i64)]) := goRec slices_IndexFunc_int_impl_mutedAt_1.step n (.p0 a0 a1 a2)
def slices_IndexFunc_int_impl_mutedAt_1.spec : Ctr := ⟨155, [.v (.sl false (.int .i64)), .fn 110 [.q (.pair (.sl false (.pair .str (.pair (.sl false (.pair .str (.pair (.int .i64) (.pair .str .unit)))) (.pair (.sl false .str) (.pair (.int .i64) (.pair (.int .i64) (.pair (.int .i64) (.pair (.sl false (.int .i64)) (.pair .bool (.pair (.int .i64) .unit)))))))))) (.pair (.sl false (.pair (.int .i64) (.pair (.sl false (.pair (.int .i64) (.pair (.int .i64) .unit))) (.pair (.sl false (.pair (.int .i64) (.pair (.int .i64) .unit))) (.pair (.sl false (.pair (.int .i64) (.pair (.int .i64) .unit))) (.pair (.sl false (.pair (.int .i64) (.pair (.int .i64) .unit))) (.pair (.sl false (.pair (.int .i64) (.pair (.int .i64) .unit))) (.pair (.sl false (.int .i64)) .unit)))))))) (.pair (.sl false (.pair .str (.pair (.sl false (.pair .str (.pair (.int .i64) (.pair .str .unit)))) (.pair (.int .i64) (.pair (.int .i64) .unit))))) (.pair (.sl false (.pair (.sl false (.pair .str (.pair (.int .i64) (.pair .str .unit)))) (.pair (.sl false (.pair .str (.pair (.int .i64) (.pair .str .unit)))) (.pair (.sl false .str) .unit)))) .unit)))), .q (.int .i64)]], [(.int .i64)], [], fun n x => slices_IndexFunc_int_impl_mutedAt_1 n x.1 x.2.1.1 x.2.1.2.1⟩
theorem slices_IndexFunc_int_impl_mutedAt_1.seg_eq : SegEq ty gl slices_IndexFunc_int_impl_mutedAt_1.F slices_IndexFunc_int_impl_mutedAt_1.md slices_IndexFunc_int_impl_mutedAt_1.T slices_IndexFunc_int_impl_mutedAt_1.spec slices_IndexFunc_int_impl_mutedAt_1.lb slices_IndexFunc_int_impl_mutedAt_1.st slices_IndexFunc_int_impl_mutedAt_1.step := by
  intro n goto y; cases y <;> kernel_rfl
theorem slices_IndexFunc_int_impl_mutedAt_1.text : Text Go.Proofs.Tryz.prog slices_IndexFunc_int_impl_mutedAt_1.F slices_IndexFunc_int_impl_mutedAt_1.spec := textOf Go.Proofs.Tryz.f155
theorem slices_IndexFunc_int_impl_mutedAt_1.ok : CtrOK Go.Proofs.Tryz.prog gl slices_IndexFunc_int_impl_mutedAt_1.spec :=
  ctr_okS tabs slices_IndexFunc_int_impl_mutedAt_1.text slices_IndexFunc_int_impl_mutedAt_1.seg_eq (fun n x => ⟨.p0 x.1 x.2.1.1 x.2.1.2.1, rfl, rfl, rfl⟩) (consC impl_mutedAt_1.ok (nilC))

/-! slices.ContainsFunc[[]int,int] -/
def slices_ContainsFunc_int_impl_mutedAt_1.T : List Ctr := [slices_IndexFunc_int_impl_mutedAt_1.spec]
def slices_ContainsFunc_int_impl_mutedAt_1.md : List (Nat × List Md) := [(155, [.v, .fn]), (110, [.v, .q (.pair (.sl false (.pair .str (.pair (.sl false (.pair .str (.pair (.int .i64) (.pair .str .unit)))) (.pair (.sl false .str) (.pair (.int .i64) (.pair (.int .i64) (.pair (.int .i64) (.pair (.sl false (.int .i64)) (.pair .bool (.pair (.int .i64) .unit)))))))))) (.pair (.sl false (.pair (.int .i64) (.pair (.sl false (.pair (.int .i64) (.pair (.int .i64) .unit))) (.pair (.sl false (.pair (.int .i64) (.pair (.int .i64) .unit))) (.pair (.sl false (.pair (.int .i64) (.pair (.int .i64) .unit))) (.pair (.sl false (.pair (.int .i64) (.pair (.int .i64) .unit))) (.pair (.sl false (.pair (.int .i64) (.pair (.int .i64) .unit))) (.pair (.sl false (.int .i64)) .unit)))))))) (.pair (.sl false (.pair .str (.pair (.sl false (.pair .str (.pair (.int .i64) (.pair .str .unit)))) (.pair (.int .i64) (.pair (.int .i64) .unit))))) (.pair (.sl false (.pair (.sl false (.pair .str (.pair (.int .i64) (.pair .str .unit)))) (.pair (.sl false (.pair .str (.pair (.int .i64) (.pair .str .unit)))) (.pair (.sl false .str) .unit)))) .unit)))), .q (.int .i64)]), (1000110, [.q (.pair (.sl false (.pair .str (.pair (.sl false (.pair .str (.pair (.int .i64) (.pair .str .unit)))) (.pair (.sl false .str) (.pair (.int .i64) (.pair (.int .i64) (.pair (.int .i64) (.pair (.sl false (.int .i64)) (.pair .bool (.pair (.int .i64) .unit)))))))))) (.pair (.sl false (.pair (.int .i64) (.pair (.sl false (.pair (.int .i64) (.pair (.int .i64) .unit))) (.pair (.sl false (.pair (.int .i64) (.pair (.int .i64) .unit))) (.pair (.sl false (.pair (.int .i64) (.pair (.int .i64) .unit))) (.pair (.sl false (.pair (.int .i64) (.pair (.int .i64) .unit))) (.pair (.sl false (.pair (.int .i64) (.pair (.int .i64) .unit))) (.pair (.sl false (.int .i64)) .unit)))))))) (.pair (.sl false (.pair .str (.pair (.sl false (.pair .str (.pair (.int .i64) (.pair .str .unit)))) (.pair (.int .i64) (.pair (.int .i64) .unit))))) (.pair (.sl false (.pair (.sl false (.pair .str (.pair (.int .i64) (.pair .str .unit)))) (.pair (.sl false (.pair .str (.pair (.int .i64) (.pair .str .unit)))) (.pair (.sl false .str) .unit)))) .unit)))), .q (.int .i64)])]
noncomputable def slices_ContainsFunc_int_impl_mutedAt_1.F : Fun := ⟨(Go.Proofs.Tryz.f109.body).getD .skip, [.v (.sl false (.int .i64)), .fn 110 [.q (.pair (.sl false (.pair .str (.pair (.sl false (.pair .str (.pair (.int .i64) (.pair .str .unit)))) (.pair (.sl false .str) (.pair (.int .i64) (.pair (.int .i64) (.pair (.int .i64) (.pair (.sl false (.int .i64)) (.pair .bool (.pair (.int .i64) .unit)))))))))) (.pair (.sl false (.pair (.int .i64) (.pair (.sl false (.pair (.int .i64) (.pair (.int .i64) .unit))) (.pair (.sl false (.pair (.int .i64) (.pair (.int .i64) .unit))) (.pair (.sl false (.pair (.int .i64) (.pair (.int .i64) .unit))) (.pair (.sl false (.pair (.int .i64) (.pair (.int .i64) .unit))) (.pair (.sl false (.pair (.int .i64) (.pair (.int .i64) .unit))) (.pair (.sl false (.int .i64)) .unit)))))))) (.pair (.sl false (.pair .str (.pair (.sl false (.pair .str (.pair (.int .i64) (.pair .str .unit)))) (.pair (.int .i64) (.pair (.int .i64) .unit))))) (.pair (.sl false (.pair (.sl false (.pair .str (.pair (.int .i64) (.pair .str .unit)))) (.pair (.sl false (.pair .str (.pair (.int .i64) (.pair .str .unit)))) (.pair (.sl false .str) .unit)))) .unit)))), .q (.int .i64)]], [(.tmp 4, .bool)], [], 0, []⟩
inductive slices_ContainsFunc_int_impl_mutedAt_1.Pt where
  | p0 (a0 : List (Int)) (a1 : (List ((ByteArray) × ((List ((ByteArray) × ((Int) × ((ByteArray) × (Unit))))) × ((List (ByteArray)) × ((Int) × ((Int) × ((Int) × ((List (Int)) × ((Bool) × ((Int) × (Unit))))))))))) × ((List ((Int) × ((List ((Int) × ((Int) × (Unit)))) × ((List ((Int) × ((Int) × (Unit)))) × ((List ((Int) × ((Int) × (Unit)))) × ((List ((Int) × ((Int) × (Unit)))) × ((List ((Int) × ((Int) × (Unit)))) × ((List (Int)) × (Unit))))))))) × ((List ((ByteArray) × ((List ((ByteArray) × ((Int) × ((ByteArray) × (Unit))))) × ((Int) × ((Int) × (Unit)))))) × ((List ((List ((ByteArray) × ((Int) × ((ByteArray) × (Unit))))) × ((List ((ByteArray) × ((Int) × ((ByteArray) × (Unit))))) × ((List (ByteArray)) × (Unit))))) × (Unit))))) (a2 : Int)
def slices_ContainsFunc_int_impl_mutedAt_1.lb : slices_ContainsFunc_int_impl_mutedAt_1.Pt → Nat
  | .p0 _ _ _ => 0
def slices_ContainsFunc_int_impl_mutedAt_1.st : slices_ContainsFunc_int_impl_mutedAt_1.Pt → St
  | .p0 a0 a1 a2 => enter [.v (.sl false (.int .i64)) a0, .fn 110 [.q (.pair (.sl false (.pair .str (.pair (.sl false (.pair .str (.pair (.int .i64) (.pair .str .unit)))) (.pair (.sl false .str) (.pair (.int .i64) (.pair (.int .i64) (.pair (.int .i64) (.pair (.sl false (.int .i64)) (.pair .bool (.pair (.int .i64) .unit)))))))))) (.pair (.sl false (.pair (.int .i64) (.pair (.sl false (.pair (.int .i64) (.pair (.int .i64) .unit))) (.pair (.sl false (.pair (.int .i64) (.pair (.int .i64) .unit))) (.pair (.sl false (.pair (.int .i64) (.pair (.int .i64) .unit))) (.pair (.sl false (.pair (.int .i64) (.pair (.int .i64) .unit))) (.pair (.sl false (.pair (.int .i64) (.pair (.int .i64) .unit))) (.pair (.sl false (.int .i64)) .unit)))))))) (.pair (.sl false (.pair .str (.pair (.sl false (.pair .str (.pair (.int .i64) (.pair .str .unit)))) (.pair (.int .i64) (.pair (.int .i64) .unit))))) (.pair (.sl false (.pair (.sl false (.pair .str (.pair (.int .i64) (.pair .str .unit)))) (.pair (.sl false (.pair .str (.pair (.int .i64) (.pair .str .unit)))) (.pair (.sl false .str) .unit)))) .unit)))) a1, .q (.int .i64) a2]] 0
def slices_ContainsFunc_int_impl_mutedAt_1.step (n : Nat) (K : slices_ContainsFunc_int_impl_mutedAt_1.Pt → Option (Tup [.bool])) : slices_ContainsFunc_int_impl_mutedAt_1.Pt → Option (Tup [.bool])
  | .p0 a0 a1 a2 => (slices_IndexFunc_int_impl_mutedAt_1 n a0 (List.getD [a1] 0 default) (List.getD [a2] 0 default)).bind fun (r6 : Int) => some (decide ((0 : Int) ≤ r6))
def slices_ContainsFunc_int_impl_mutedAt_1 (n : Nat) (a0 : List (Int)) (a1 : (List ((ByteArray) × ((List ((ByteArray) × ((Int) × ((ByteArray) × (Unit))))) × ((List (ByteArray)) × ((Int) × ((Int) × ((Int) × ((List (Int)) × ((Bool) × ((Int) × (Unit))))))))))) × ((List ((Int) × ((List ((Int) × ((Int) × (Unit)))) × ((List ((Int) × ((Int) × (Unit)))) × ((List ((Int) × ((Int) × (Unit)))) × ((List ((Int) × ((Int) × (Unit)))) × ((List ((Int) × ((Int) × (Unit)))) × ((List (Int)) × (Unit))))))))) × ((List ((ByteArray) × ((List ((ByteArray) × ((Int) × ((ByteArray) × (Unit))))) × ((Int) × ((Int) × (Unit)))))) × ((List ((List ((ByteArray) × ((Int) × ((ByteArray) × (Unit))))) × ((List ((ByteArray) × ((Int) × ((ByteArray) × (Unit))))) × ((List (ByteArray)) × (Unit))))) × (Unit))))) (a2 : Int) : Option (Tup [.bool]) := goRec slices_ContainsFunc_int_impl_mutedAt_1.step n (.p0 a0 a1 a2)
def slices_ContainsFunc_int_impl_mutedAt_1.spec : Ctr := ⟨109, [.v (.sl false (.int .i64)), .fn 110 [.q (.pair (.sl false (.pair .str (.pair (.sl false (.pair .str (.pair (.int .i64) (.pair .str .unit)))) (.pair (.sl false .str) (.pair (.int .i64) (.pair (.int .i64) (.pair (.int .i64) (.pair (.sl false (.int .i64)) (.pair .bool (.pair (.int .i64) .unit)))))))))) (.pair (.sl false (.pair (.int .i64) (.pair (.sl false (.pair (.int .i64) (.pair (.int .i64) .unit))) (.pair (.sl false (.pair (.int .i64) (.pair (.int .i64) .unit))) (.pair (.sl false (.pair (.int .i64) (.pair (.int .i64) .unit))) (.pair (.sl false (.pair (.int .i64) (.pair (.int .i64) .unit))) (.pair (.sl false (.pair (.int .i64) (.pair (.int .i64) .unit))) (.pair (.sl false (.int .i64)) .unit)))))))) (.pair (.sl false (.pair .str (.pair (.sl false (.pair .str (.pair (.int .i64) (.pair .str .unit)))) (.pair (.int .i64) (.pair (.int .i64) .unit))))) (.pair (.sl false (.pair (.sl false (.pair .str (.pair (.int .i64) (.pair .str .unit)))) (.pair (.sl false (.pair .str (.pair (.int .i64) (.pair .str .unit)))) (.pair (.sl false .str) .unit)))) .unit)))), .q (.int .i64)]], [.bool], [], fun n x => slices_ContainsFunc_int_impl_mutedAt_1 n x.1 x.2.1.1 x.2.1.2.1⟩
theorem slices_ContainsFunc_int_impl_mutedAt_1.seg_eq : SegEq ty gl slices_ContainsFunc_int_impl_mutedAt_1.F slices_ContainsFunc_int_impl_mutedAt_1.md slices_ContainsFunc_int_impl_mutedAt_1.T slices_ContainsFunc_int_impl_mutedAt_1.spec slices_ContainsFunc_int_impl_mutedAt_1.lb slices_ContainsFunc_int_impl_mutedAt_1.st slices_ContainsFunc_int_impl_mutedAt_1.step := by
  intro n goto y; cases y <;> kernel_rfl
theorem slices_ContainsFunc_int_impl_mutedAt_1.text : Text Go.Proofs.Tryz.prog slices_ContainsFunc_int_impl_mutedAt_1.F slices_ContainsFunc_int_impl_mutedAt_1.spec := textOf Go.Proofs.Tryz.f109
theorem slices_ContainsFunc_int_impl_mutedAt_1.ok : CtrOK Go.Proofs.Tryz.prog gl slices_ContainsFunc_int_impl_mutedAt_1.spec :=
  ctr_okS tabs slices_ContainsFunc_int_impl_mutedAt_1.text slices_ContainsFunc_int_impl_mutedAt_1.seg_eq (fun n x => ⟨.p0 x.1 x.2.1.1 x.2.1.2.1, rfl, rfl, rfl⟩) (consC slices_IndexFunc_int_impl_mutedAt_1.ok (nilC))

/-! loop.example/g00039/impl.mutedAt -/
def impl_mutedAt.T : List Ctr := [impl_mutedAt_1.spec, slices_ContainsFunc_int_impl_mutedAt_1.spec]
def impl_mutedAt.md : List (Nat × List Md) := [(110, [.v, .q (.pair (.sl false (.pair .str (.pair (.sl false (.pair .str (.pair (.int .i64) (.pair .str .unit)))) (.pair (.sl false .str) (.pair (.int .i64) (.pair (.int .i64) (.pair (.int .i64) (.pair (.sl false (.int .i64)) (.pair .bool (.pair (.int .i64) .unit)))))))))) (.pair (.sl false (.pair (.int .i64) (.pair (.sl false (.pair (.int .i64) (.pair (.int .i64) .unit))) (.pair (.sl false (.pair (.int .i64) (.pair (.int .i64) .unit))) (.pair (.sl false (.pair (.int .i64) (.pair (.int .i64) .unit))) (.pair (.sl false (.pair (.int .i64) (.pair (.int .i64) .unit))) (.pair (.sl false (.pair (.int .i64) (.pair (.int .i64) .unit))) (.pair (.sl false (.int .i64)) .unit)))))))) (.pair (.sl false (.pair .str (.pair (.sl false (.pair .str (.pair (.int .i64) (.pair .str .unit)))) (.pair (.int .i64) (.pair (.int .i64) .unit))))) (.pair (.sl false (.pair (.sl false (.pair .str (.pair (.int .i64) (.pair .str .unit)))) (.pair (.sl false (.pair .str (.pair (.int .i64) (.pair .str .unit)))) (.pair (.sl false .str) .unit)))) .unit)))), .q (.int .i64)]), (1000110, [.q (.pair (.sl false (.pair .str (.pair (.sl false (.pair .str (.pair (.int .i64) (.pair .str .unit)))) (.pair (.sl false .str) (.pair (.int .i64) (.pair (.int .i64) (.pair (.int .i64) (.pair (.sl false (.int .i64)) (.pair .bool (.pair (.int .i64) .unit)))))))))) (.pair (.sl false (.pair (.int .i64) (.pair (.sl false (.pair (.int .i64) (.pair (.int .i64) .unit))) (.pair (.sl false (.pair (.int .i64) (.pair (.int .i64) .unit))) (.pair (.sl false (.pair (.int .i64) (.pair (.int .i64) .unit))) (.pair (.sl false (.pair (.int .i64) (.pair (.int .i64) .unit))) (.pair (.sl false (.pair (.int .i64) (.pair (.int .i64) .unit))) (.pair (.sl false (.int .i64)) .unit)))))))) (.pair (.sl false (.pair .str (.pair (.sl false (.pair .str (.pair (.int .i64) (.pair .str .unit)))) (.pair (.int .i64) (.pair (.int .i64) .unit))))) (.pair (.sl false (.pair (.sl false (.pair .str (.pair (.int .i64) (.pair .str .unit)))) (.pair (.sl false (.pair .str (.pair (.int .i64) (.pair .str .unit)))) (.pair (.sl false .str) .unit)))) .unit)))), .q (.int .i64)]), (109, [.v, .fn])]
noncomputable def impl_mutedAt.F : Fun := ⟨(Go.Proofs.Tryz.f61.body).getD .skip, [.v (.pair (.sl false (.pair .str (.pair (.sl false (.pair .str (.pair (.int .i64) (.pair .str .unit)))) (.pair (.sl false .str) (.pair (.int .i64) (.pair (.int .i64) (.pair (.int .i64) (.pair (.sl false (.int .i64)) (.pair .bool (.pair (.int .i64) .unit)))))))))) (.pair (.sl false (.pair (.int .i64) (.pair (.sl false (.pair (.int .i64) (.pair (.int .i64) .unit))) (.pair (.sl false (.pair (.int .i64) (.pair (.int .i64) .unit))) (.pair (.sl false (.pair (.int .i64) (.pair (.int .i64) .unit))) (.pair (.sl false (.pair (.int .i64) (.pair (.int .i64) .unit))) (.pair (.sl false (.pair (.int .i64) (.pair (.int .i64) .unit))) (.pair (.sl false (.int .i64)) .unit)))))))) (.pair (.sl false (.pair .str (.pair (.sl false (.pair .str (.pair (.int .i64) (.pair .str .unit)))) (.pair (.int .i64) (.pair (.int .i64) .unit))))) (.pair (.sl false (.pair (.sl false (.pair .str (.pair (.int .i64) (.pair .str .unit)))) (.pair (.sl false (.pair .str (.pair (.int .i64) (.pair .str .unit)))) (.pair (.sl false .str) .unit)))) .unit)))), .v (.int .i64), .v (.int .i64)], [(.tmp 6, .bool)], [], 0, []⟩
inductive impl_mutedAt.Pt where
  | p0 (a0 : (List ((ByteArray) × ((List ((ByteArray) × ((Int) × ((ByteArray) × (Unit))))) × ((List (ByteArray)) × ((Int) × ((Int) × ((Int) × ((List (Int)) × ((Bool) × ((Int) × (Unit))))))))))) × ((List ((Int) × ((List ((Int) × ((Int) × (Unit)))) × ((List ((Int) × ((Int) × (Unit)))) × ((List ((Int) × ((Int) × (Unit)))) × ((List ((Int) × ((Int) × (Unit)))) × ((List ((Int) × ((Int) × (Unit)))) × ((List (Int)) × (Unit))))))))) × ((List ((ByteArray) × ((List ((ByteArray) × ((Int) × ((ByteArray) × (Unit))))) × ((Int) × ((Int) × (Unit)))))) × ((List ((List ((ByteArray) × ((Int) × ((ByteArray) × (Unit))))) × ((List ((ByteArray) × ((Int) × ((ByteArray) × (Unit))))) × ((List (ByteArray)) × (Unit))))) × (Unit))))) (a1 : Int) (a2 : Int)
def impl_mutedAt.lb : impl_mutedAt.Pt → Nat
  | .p0 _ _ _ => 0
def impl_mutedAt.st : impl_mutedAt.Pt → St
  | .p0 a0 a1 a2 => enter [.v (.pair (.sl false (.pair .str (.pair (.sl false (.pair .str (.pair (.int .i64) (.pair .str .unit)))) (.pair (.sl false .str) (.pair (.int .i64) (.pair (.int .i64) (.pair (.int .i64) (.pair (.sl false (.int .i64)) (.pair .bool (.pair (.int .i64) .unit)))))))))) (.pair (.sl false (.pair (.int .i64) (.pair (.sl false (.pair (.int .i64) (.pair (.int .i64) .unit))) (.pair (.sl false (.pair (.int .i64) (.pair (.int .i64) .unit))) (.pair (.sl false (.pair (.int .i64) (.pair (.int .i64) .unit))) (.pair (.sl false (.pair (.int .i64) (.pair (.int .i64) .unit))) (.pair (.sl false (.pair (.int .i64) (.pair (.int .i64) .unit))) (.pair (.sl false (.int .i64)) .unit)))))))) (.pair (.sl false (.pair .str (.pair (.sl false (.pair .str (.pair (.int .i64) (.pair .str .unit)))) (.pair (.int .i64) (.pair (.int .i64) .unit))))) (.pair (.sl false (.pair (.sl false (.pair .str (.pair (.int .i64) (.pair .str .unit)))) (.pair (.sl false (.pair .str (.pair (.int .i64) (.pair .str .unit)))) (.pair (.sl false .str) .unit)))) .unit)))) a0, .v (.int .i64) a1, .v (.int .i64) a2] 0
def impl_mutedAt.step (n : Nat) (K : impl_mutedAt.Pt → Option (Tup [.bool])) : impl_mutedAt.Pt → Option (Tup [.bool])
  | .p0 a0 a1 a2 => cond (inB a1 (List.length a0.1)) ((slices_ContainsFunc_int_impl_mutedAt_1 n (List.getD a0.1 (Int.toNat a1) default).2.2.2.2.2.2.1 a0 a2).bind fun r6 => some r6) (none)
def impl_mutedAt (n : Nat) (a0 : (List ((ByteArray) × ((List ((ByteArray) × ((Int) × ((ByteArray) × (Unit))))) × ((List (ByteArray)) × ((Int) × ((Int) × ((Int) × ((List (Int)) × ((Bool) × ((Int) × (Unit))))))))))) × ((List ((Int) × ((List ((Int) × ((Int) × (Unit)))) × ((List ((Int) × ((Int) × (Unit)))) × ((List ((Int) × ((Int) × (Unit)))) × ((List ((Int) × ((Int) × (Unit)))) × ((List ((Int) × ((Int) × (Unit)))) × ((List (Int)) × (Unit))))))))) × ((List ((ByteArray) × ((List ((ByteArray) × ((Int) × ((ByteArray) × (Unit))))) × ((Int) × ((Int) × (Unit)))))) × ((List ((List ((ByteArray) × ((Int) × ((ByteArray) × (Unit))))) × ((List ((ByteArray) × ((Int) × ((ByteArray) × (Unit))))) × ((List (ByteArray)) × (Unit))))) × (Unit))))) (a1 : Int) (a2 : Int) : Option (Tup [.bool]) := goRec impl_mutedAt.step n (.p0 a0 a1 a2)
def impl_mutedAt.spec : Ctr := ⟨61, [.v (.pair (.sl false (.pair .str (.pair (.sl false (.pair .str (.pair (.int .i64) (.pair .str .unit)))) (.pair (.sl false .str) (.pair (.int .i64) (.pair (.int .i64) (.pair (.int .i64) (.pair (.sl false (.int .i64)) (.pair .bool (.pair (.int .i64) .unit)))))))))) (.pair (.sl false (.pair (.int .i64) (.pair (.sl false (.pair (.int .i64) (.pair (.int .i64) .unit))) (.pair (.sl false (.pair (.int .i64) (.pair (.int .i64) .unit))) (.pair (.sl false (.pair (.int .i64) (.pair (.int .i64) .unit))) (.pair (.sl false (.pair (.int .i64) (.pair (.int .i64) .unit))) (.pair (.sl false (.pair (.int .i64) (.pair (.int .i64) .unit))) (.pair (.sl false (.int .i64)) .unit)))))))) (.pair (.sl false (.pair .str (.pair (.sl false (.pair .str (.pair (.int .i64) (.pair .str .unit)))) (.pair (.int .i64) (.pair (.int .i64) .unit))))) (.pair (.sl false (.pair (.sl false (.pair .str (.pair (.int .i64) (.pair .str .unit)))) (.pair (.sl false (.pair .str (.pair (.int .i64) (.pair .str .unit)))) (.pair (.sl false .str) .unit)))) .unit)))), .v (.int .i64), .v (.int .i64)], [.bool], [], fun n x => impl_mutedAt n x.1 x.2.1 x.2.2.1⟩
theorem impl_mutedAt.seg_eq : SegEq ty gl impl_mutedAt.F impl_mutedAt.md impl_mutedAt.T impl_mutedAt.spec impl_mutedAt.lb impl_mutedAt.st impl_mutedAt.step := by
  intro n goto y; cases y <;> kernel_rfl
theorem impl_mutedAt.text : Text Go.Proofs.Tryz.prog impl_mutedAt.F impl_mutedAt.spec := textOf Go.Proofs.Tryz.f61
theorem impl_mutedAt.ok : CtrOK Go.Proofs.Tryz.prog gl impl_mutedAt.spec :=
  ctr_okS tabs impl_mutedAt.text impl_mutedAt.seg_eq (fun n x => ⟨.p0 x.1 x.2.1 x.2.2.1, rfl, rfl, rfl⟩) (consC impl_mutedAt_1.ok (consC slices_ContainsFunc_int_impl_mutedAt_1.ok (nilC)))

/-! loop.example/g00039/impl.MutedAt -/
def impl_MutedAt.T : List Ctr := [impl_isTime.spec, impl_GoodNotify.spec, impl_mutedAt.spec]
def impl_MutedAt.md : List (Nat × List Md) := []
noncomputable def impl_MutedAt.F : Fun := ⟨(Go.Proofs.Tryz.f18.body).getD .skip, [.v (.pair (.sl false (.pair .str (.pair (.sl false (.pair .str (.pair (.int .i64) (.pair .str .unit)))) (.pair (.sl false .str) (.pair (.int .i64) (.pair (.int .i64) (.pair (.int .i64) (.pair (.sl false (.int .i64)) (.pair .bool (.pair (.int .i64) .unit)))))))))) (.pair (.sl false (.pair (.int .i64) (.pair (.sl false (.pair (.int .i64) (.pair (.int .i64) .unit))) (.pair (.sl false (.pair (.int .i64) (.pair (.int .i64) .unit))) (.pair (.sl false (.pair (.int .i64) (.pair (.int .i64) .unit))) (.pair (.sl false (.pair (.int .i64) (.pair (.int .i64) .unit))) (.pair (.sl false (.pair (.int .i64) (.pair (.int .i64) .unit))) (.pair (.sl false (.int .i64)) .unit)))))))) (.pair (.sl false (.pair .str (.pair (.sl false (.pair .str (.pair (.int .i64) (.pair .str .unit)))) (.pair (.int .i64) (.pair (.int .i64) .unit))))) (.pair (.sl false (.pair (.sl false (.pair .str (.pair (.int .i64) (.pair .str .unit)))) (.pair (.sl false (.pair .str (.pair (.int .i64) (.pair .str .unit)))) (.pair (.sl false .str) .unit)))) .unit)))), .v (.int .i64), .v (.int .i64)], [(.tmp 6, .bool)], [], 0, []⟩
inductive impl_MutedAt.Pt where
  | p0 (a0 : (List ((ByteArray) × ((List ((ByteArray) × ((Int) × ((ByteArray) × (Unit))))) × ((List (ByteArray)) × ((Int) × ((Int) × ((Int) × ((List (Int)) × ((Bool) × ((Int) × (Unit))))))))))) × ((List ((Int) × ((List ((Int) × ((Int) × (Unit)))) × ((List ((Int) × ((Int) × (Unit)))) × ((List ((Int) × ((Int) × (Unit)))) × ((List ((Int) × ((Int) × (Unit)))) × ((List ((Int) × ((Int) × (Unit)))) × ((List (Int)) × (Unit))))))))) × ((List ((ByteArray) × ((List ((ByteArray) × ((Int) × ((ByteArray) × (Unit))))) × ((Int) × ((Int) × (Unit)))))) × ((List ((List ((ByteArray) × ((Int) × ((ByteArray) × (Unit))))) × ((List ((ByteArray) × ((Int) × ((ByteArray) × (Unit))))) × ((List (ByteArray)) × (Unit))))) × (Unit))))) (a1 : Int) (a2 : Int)
def impl_MutedAt.lb : impl_MutedAt.Pt → Nat
  | .p0 _ _ _ => 0
def impl_MutedAt.st : impl_MutedAt.Pt → St
  | .p0 a0 a1 a2 => enter [.v (.pair (.sl false (.pair .str (.pair (.sl false (.pair .str (.pair (.int .i64) (.pair .str .unit)))) (.pair (.sl false .str) (.pair (.int .i64) (.pair (.int .i64) (.pair (.int .i64) (.pair (.sl false (.int .i64)) (.pair .bool (.pair (.int .i64) .unit)))))))))) (.pair (.sl false (.pair (.int .i64) (.pair (.sl false (.pair (.int .i64) (.pair (.int .i64) .unit))) (.pair (.sl false (.pair (.int .i64) (.pair (.int .i64) .unit))) (.pair (.sl false (.pair (.int .i64) (.pair (.int .i64) .unit))) (.pair (.sl false (.pair (.int .i64) (.pair (.int .i64) .unit))) (.pair (.sl false (.pair (.int .i64) (.pair (.int .i64) .unit))) (.pair (.sl false (.int .i64)) .unit)))))))) (.pair (.sl false (.pair .str (.pair (.sl false (.pair .str (.pair (.int .i64) (.pair .str .unit)))) (.pair (.int .i64) (.pair (.int .i64) .unit))))) (.pair (.sl false (.pair (.sl false (.pair .str (.pair (.int .i64) (.pair .str .unit)))) (.pair (.sl false (.pair .str (.pair (.int .i64) (.pair .str .unit)))) (.pair (.sl false .str) .unit)))) .unit)))) a0, .v (.int .i64) a1, .v (.int .i64) a2] 0
def impl_MutedAt.step (n : Nat) (K : impl_MutedAt.Pt → Option (Tup [.bool])) : impl_MutedAt.Pt → Option (Tup [.bool])
  | .p0 a0 a1 a2 => (impl_GoodNotify n a0).bind fun r6 => cond r6 (cond (decide ((0 : Int) ≤ a1)) (cond (decide (a1 < ((List.length a0.1) : Int))) ((impl_isTime n a2).bind fun r7 => cond r7 ((impl_mutedAt n a0 a1 a2).bind fun r8 => some r8) (some false)) (some false)) (some false)) (some false)
def impl_MutedAt (n : Nat) (a0 : (List ((ByteArray) × ((List ((ByteArray) × ((Int) × ((ByteArray) × (Unit))))) × ((List (ByteArray)) × ((Int) × ((Int) × ((Int) × ((List (Int)) × ((Bool) × ((Int) × (Unit))))))))))) × ((List ((Int) × ((List ((Int) × ((Int) × (Unit)))) × ((List ((Int) × ((Int) × (Unit)))) × ((List ((Int) × ((Int) × (Unit)))) × ((List ((Int) × ((Int) × (Unit)))) × ((List ((Int) × ((Int) × (Unit)))) × ((List (Int)) × (Unit))))))))) × ((List ((ByteArray) × ((List ((ByteArray) × ((Int) × ((ByteArray) × (Unit))))) × ((Int) × ((Int) × (Unit)))))) × ((List ((List ((ByteArray) × ((Int) × ((ByteArray) × (Unit))))) × ((List ((ByteArray) × ((Int) × ((ByteArray) × (Unit))))) × ((List (ByteArray)) × (Unit))))) × (Unit))))) (a1 : Int) (a2 : Int) : Option (Tup [.bool]) := goRec impl_MutedAt.step n (.p0 a0 a1 a2)
def impl_MutedAt.spec : Ctr := ⟨18, [.v (.pair (.sl false (.pair .str (.pair (.sl false (.pair .str (.pair (.int .i64) (.pair .str .unit)))) (.pair (.sl false .str) (.pair (.int .i64) (.pair (.int .i64) (.pair (.int .i64) (.pair (.sl false (.int .i64)) (.pair .bool (.pair (.int .i64) .unit)))))))))) (.pair (.sl false (.pair (.int .i64) (.pair (.sl false (.pair (.int .i64) (.pair (.int .i64) .unit))) (.pair (.sl false (.pair (.int .i64) (.pair (.int .i64) .unit))) (.pair (.sl false (.pair (.int .i64) (.pair (.int .i64) .unit))) (.pair (.sl false (.pair (.int .i64) (.pair (.int .i64) .unit))) (.pair (.sl false (.pair (.int .i64) (.pair (.int .i64) .unit))) (.pair (.sl false (.int .i64)) .unit)))))))) (.pair (.sl false (.pair .str (.pair (.sl false (.pair .str (.pair (.int .i64) (.pair .str .unit)))) (.pair (.int .i64) (.pair (.int .i64) .unit))))) (.pair (.sl false (.pair (.sl false (.pair .str (.pair (.int .i64) (.pair .str .unit)))) (.pair (.sl false (.pair .str (.pair (.int .i64) (.pair .str .unit)))) (.pair (.sl false .str) .unit)))) .unit)))), .v (.int .i64), .v (.int .i64)], [.bool], [], fun n x => impl_MutedAt n x.1 x.2.1 x.2.2.1⟩
theorem impl_MutedAt.seg_eq : SegEq ty gl impl_MutedAt.F impl_MutedAt.md impl_MutedAt.T impl_MutedAt.spec impl_MutedAt.lb impl_MutedAt.st impl_MutedAt.step := by
  intro n goto y; cases y <;> kernel_rfl
theorem impl_MutedAt.text : Text Go.Proofs.Tryz.prog impl_MutedAt.F impl_MutedAt.spec := textOf Go.Proofs.Tryz.f18
theorem impl_MutedAt.ok : CtrOK Go.Proofs.Tryz.prog gl impl_MutedAt.spec :=
  ctr_okS tabs impl_MutedAt.text impl_MutedAt.seg_eq (fun n x => ⟨.p0 x.1 x.2.1 x.2.2.1, rfl, rfl, rfl⟩) (consC impl_isTime.ok (consC impl_GoodNotify.ok (consC impl_mutedAt.ok (nilC))))

/-! loop.example/g00039/laws.eqMatcher -/
def laws_eqMatcher.T : List Ctr := []
def laws_eqMatcher.md : List (Nat × List Md) := []
noncomputable def laws_eqMatcher.F : Fun := ⟨(Go.Proofs.Tryz.f177.body).getD .skip, [.v (.pair .str (.pair (.int .i64) (.pair .str .unit))), .v (.pair .str (.pair (.int .i64) (.pair .str .unit)))], [(.tmp 4, .bool)], [], 0, []⟩
inductive laws_eqMatcher.Pt where
  | p0 (a0 : (ByteArray) × ((Int) × ((ByteArray) × (Unit)))) (a1 : (ByteArray) × ((Int) × ((ByteArray) × (Unit))))
def laws_eqMatcher.lb : laws_eqMatcher.Pt → Nat
  | .p0 _ _ => 0
def laws_eqMatcher.st : laws_eqMatcher.Pt → St
  | .p0 a0 a1 => enter [.v (.pair .str (.pair (.int .i64) (.pair .str .unit))) a0, .v (.pair .str (.pair (.int .i64) (.pair .str .unit))) a1] 0
def laws_eqMatcher.step (n : Nat) (K : laws_eqMatcher.Pt → Option (Tup [.bool])) : laws_eqMatcher.Pt → Option (Tup [.bool])
  | .p0 a0 a1 => cond (!(seq a0.1 a1.1)) (some false) (cond (!(decide (a0.2.1 = a1.2.1))) (some false) (cond (!(seq a0.2.2.1 a1.2.2.1)) (some false) (some true)))
def laws_eqMatcher (n : Nat) (a0 : (ByteArray) × ((Int) × ((ByteArray) × (Unit)))) (a1 : (ByteArray) × ((Int) × ((ByteArray) × (Unit)))) : Option (Tup [.bool]) := goRec laws_eqMatcher.step n (.p0 a0 a1)
def laws_eqMatcher.spec : Ctr := ⟨177, [.v (.pair .str (.pair (.int .i64) (.pair .str .unit))), .v (.pair .str (.pair (.int .i64) (.pair .str .unit)))], [.bool], [], fun n x => laws_eqMatcher n x.1 x.2.1⟩
theorem laws_eqMatcher.seg_eq : SegEq ty gl laws_eqMatcher.F laws_eqMatcher.md laws_eqMatcher.T laws_eqMatcher.spec laws_eqMatcher.lb laws_eqMatcher.st laws_eqMatcher.step := by
  intro n goto y; cases y <;> kernel_rfl
theorem laws_eqMatcher.text : Text Go.Proofs.Tryz.prog laws_eqMatcher.F laws_eqMatcher.spec := textOf Go.Proofs.Tryz.f177
theorem laws_eqMatcher.ok : CtrOK Go.Proofs.Tryz.prog gl laws_eqMatcher.spec :=
  ctr_okS tabs laws_eqMatcher.text laws_eqMatcher.seg_eq (fun n x => ⟨.p0 x.1 x.2.1, rfl, rfl, rfl⟩) (nilC)

/-! loop.example/g00039/laws.eqMatcherS -/
def laws_eqMatcherS.T : List Ctr := [laws_eqMatcher.spec]
def laws_eqMatcherS.md : List (Nat × List Md) := []
noncomputable def laws_eqMatcherS.F : Fun := ⟨(Go.Proofs.Tryz.f126.body).getD .skip, [.v (.sl false (.pair .str (.pair (.int .i64) (.pair .str .unit)))), .v (.sl false (.pair .str (.pair (.int .i64) (.pair .str .unit))))], [(.tmp 4, .bool)], [], 0, [(15, ⟨[0, 1, 5], [], [], false⟩)]⟩
inductive laws_eqMatcherS.Pt where
  | p0 (a0 : List ((ByteArray) × ((Int) × ((ByteArray) × (Unit))))) (a1 : List ((ByteArray) × ((Int) × ((ByteArray) × (Unit)))))
  | p15 (y1 : List ((ByteArray) × ((Int) × ((ByteArray) × (Unit))))) (y2 : List ((ByteArray) × ((Int) × ((ByteArray) × (Unit))))) (y3 : Int)
def laws_eqMatcherS.lb : laws_eqMatcherS.Pt → Nat
  | .p0 _ _ => 0
  | .p15 _ _ _ => 15
def laws_eqMatcherS.st : laws_eqMatcherS.Pt → St
  | .p0 a0 a1 => enter [.v (.sl false (.pair .str (.pair (.int .i64) (.pair .str .unit)))) a0, .v (.sl false (.pair .str (.pair (.int .i64) (.pair .str .unit)))) a1] 0
  | .p15 y1 y2 y3 => ⟨[(0, .im (.sl false (.pair .str (.pair (.int .i64) (.pair .str .unit)))) y1), (1, .im (.sl false (.pair .str (.pair (.int .i64) (.pair .str .unit)))) y2), (5, .im (.int .i64) y3)], [], 0⟩
def laws_eqMatcherS.step (n : Nat) (K : laws_eqMatcherS.Pt → Option (Tup [.bool])) : laws_eqMatcherS.Pt → Option (Tup [.bool])
  | .p0 a0 a1 => cond (!(decide (((List.length a0) : Int) = ((List.length a1) : Int)))) (some false) (K (.p15 a0 a1 (0 : Int)))
  | .p15 y1 y2 y3 => cond (decide (y3 < ((List.length y1) : Int))) (cond (inB y3 (List.length y1)) (cond (inB y3 (List.length y2)) ((laws_eqMatcher n (List.getD y1 (Int.toNat y3) default) (List.getD y2 (Int.toNat y3) default)).bind fun r6 => cond (!r6) (some false) (K (.p15 y1 y2 (IntKind.wrap .i64 (y3 + (1 : Int)))))) (none)) (none)) (some true)
def laws_eqMatcherS (n : Nat) (a0 : List ((ByteArray) × ((Int) × ((ByteArray) × (Unit))))) (a1 : List ((ByteArray) × ((Int) × ((ByteArray) × (Unit))))) : Option (Tup [.bool]) := goRec laws_eqMatcherS.step n (.p0 a0 a1)
def laws_eqMatcherS.spec : Ctr := ⟨126, [.v (.sl false (.pair .str (.pair (.int .i64) (.pair .str .unit)))), .v (.sl false (.pair .str (.pair (.int .i64) (.pair .str .unit))))], [.bool], [], fun n x => laws_eqMatcherS n x.1 x.2.1⟩
theorem laws_eqMatcherS.seg_eq : SegEq ty gl laws_eqMatcherS.F laws_eqMatcherS.md laws_eqMatcherS.T laws_eqMatcherS.spec laws_eqMatcherS.lb laws_eqMatcherS.st laws_eqMatcherS.step := by
  intro n goto y; cases y <;> kernel_rfl
theorem laws_eqMatcherS.text : Text Go.Proofs.Tryz.prog laws_eqMatcherS.F laws_eqMatcherS.spec := textOf Go.Proofs.Tryz.f126
theorem laws_eqMatcherS.ok : CtrOK Go.Proofs.Tryz.prog gl laws_eqMatcherS.spec :=
  ctr_okS tabs laws_eqMatcherS.text laws_eqMatcherS.seg_eq (fun n x => ⟨.p0 x.1 x.2.1, rfl, rfl, rfl⟩) (consC laws_eqMatcher.ok (nilC))

/-! loop.example/g00039/laws.eqStringS -/
def laws_eqStringS.T : List Ctr := []
def laws_eqStringS.md : List (Nat × List Md) := []
noncomputable def laws_eqStringS.F : Fun := ⟨(Go.Proofs.Tryz.f127.body).getD .skip, [.v (.sl false .str), .v (.sl false .str)], [(.tmp 4, .bool)], [], 0, [(15, ⟨[0, 1, 5], [], [], false⟩)]⟩
inductive laws_eqStringS.Pt where
  | p0 (a0 : List (ByteArray)) (a1 : List (ByteArray))
  | p15 (y1 : List (ByteArray)) (y2 : List (ByteArray)) (y3 : Int)
def laws_eqStringS.lb : laws_eqStringS.Pt → Nat
  | .p0 _ _ => 0
  | .p15 _ _ _ => 15
def laws_eqStringS.st : laws_eqStringS.Pt → St
  | .p0 a0 a1 => enter [.v (.sl false .str) a0, .v (.sl false .str) a1] 0
  | .p15 y1 y2 y3 => ⟨[(0, .im (.sl false .str) y1), (1, .im (.sl false .str) y2), (5, .im (.int .i64) y3)], [], 0⟩
def laws_eqStringS.step (n : Nat) (K : laws_eqStringS.Pt → Option (Tup [.bool])) : laws_eqStringS.Pt → Option (Tup [.bool])
  | .p0 a0 a1 => cond (!(decide (((List.length a0) : Int) = ((List.length a1) : Int)))) (some false) (K (.p15 a0 a1 (0 : Int)))
  | .p15 y1 y2 y3 => cond (decide (y3 < ((List.length y1) : Int))) (cond (inB y3 (List.length y1)) (cond (inB y3 (List.length y2)) (cond (!(seq (List.getD y1 (Int.toNat y3) default) (List.getD y2 (Int.toNat y3) default))) (some false) (K (.p15 y1 y2 (IntKind.wrap .i64 (y3 + (1 : Int)))))) (none)) (none)) (some true)
def laws_eqStringS (n : Nat) (a0 : List (ByteArray)) (a1 : List (ByteArray)) : Option (Tup [.bool]) := goRec laws_eqStringS.step n (.p0 a0 a1)
def laws_eqStringS.spec : Ctr := ⟨127, [.v (.sl false .str), .v (.sl false .str)], [.bool], [], fun n x => laws_eqStringS n x.1 x.2.1⟩
theorem laws_eqStringS.seg_eq : SegEq ty gl laws_eqStringS.F laws_eqStringS.md laws_eqStringS.T laws_eqStringS.spec laws_eqStringS.lb laws_eqStringS.st laws_eqStringS.step := by
  intro n goto y; cases y <;> kernel_rfl
theorem laws_eqStringS.text : Text Go.Proofs.Tryz.prog laws_eqStringS.F laws_eqStringS.spec := textOf Go.Proofs.Tryz.f127
theorem laws_eqStringS.ok : CtrOK Go.Proofs.Tryz.prog gl laws_eqStringS.spec :=
  ctr_okS tabs laws_eqStringS.text laws_eqStringS.seg_eq (fun n x => ⟨.p0 x.1 x.2.1, rfl, rfl, rfl⟩) (nilC)

/-! loop.example/g00039/laws.eqIntS -/
def laws_eqIntS.T : List Ctr := []
def laws_eqIntS.md : List (Nat × List Md) := []
noncomputable def laws_eqIntS.F : Fun := ⟨(Go.Proofs.Tryz.f25.body).getD .skip, [.v (.sl false (.int .i64)), .v (.sl false (.int .i64))], [(.tmp 4, .bool)], [], 0, [(15, ⟨[0, 1, 5], [], [], false⟩)]⟩
inductive laws_eqIntS.Pt where
  | p0 (a0 : List (Int)) (a1 : List (Int))
  | p15 (y1 : List (Int)) (y2 : List (Int)) (y3 : Int)
def laws_eqIntS.lb : laws_eqIntS.Pt → Nat
  | .p0 _ _ => 0
  | .p15 _ _ _ => 15
def laws_eqIntS.st : laws_eqIntS.Pt → St
  | .p0 a0 a1 => enter [.v (.sl false (.int .i64)) a0, .v (.sl false (.int .i64)) a1] 0
  | .p15 y1 y2 y3 => ⟨[(0, .im (.sl false (.int .i64)) y1), (1, .im (.sl false (.int .i64)) y2), (5, .im (.int .i64) y3)], [], 0⟩
def laws_eqIntS.step (n : Nat) (K : laws_eqIntS.Pt → Option (Tup [.bool])) : laws_eqIntS.Pt → Option (Tup [.bool])
  | .p0 a0 a1 => cond (!(decide (((List.length a0) : Int) = ((List.length a1) : Int)))) (some false) (K (.p15 a0 a1 (0 : Int)))
  | .p15 y1 y2 y3 => cond (decide (y3 < ((List.length y1) : Int))) (cond (inB y3 (List.length y1)) (cond (inB y3 (List.length y2)) (cond (!(decide ((List.getD y1 (Int.toNat y3) default) = (List.getD y2 (Int.toNat y3) default)))) (some false) (K (.p15 y1 y2 (IntKind.wrap .i64 (y3 + (1 : Int)))))) (none)) (none)) (some true)
def laws_eqIntS (n : Nat) (a0 : List (Int)) (a1 : List (Int)) : Option (Tup [.bool]) := goRec laws_eqIntS.step n (.p0 a0 a1)
def laws_eqIntS.spec : Ctr := ⟨25, [.v (.sl false (.int .i64)), .v (.sl false (.int .i64))], [.bool], [], fun n x => laws_eqIntS n x.1 x.2.1⟩
theorem laws_eqIntS.seg_eq : SegEq ty gl laws_eqIntS.F laws_eqIntS.md laws_eqIntS.T laws_eqIntS.spec laws_eqIntS.lb laws_eqIntS.st laws_eqIntS.step := by
  intro n goto y; cases y <;> kernel_rfl
theorem laws_eqIntS.text : Text Go.Proofs.Tryz.prog laws_eqIntS.F laws_eqIntS.spec := textOf Go.Proofs.Tryz.f25
theorem laws_eqIntS.ok : CtrOK Go.Proofs.Tryz.prog gl laws_eqIntS.spec :=
  ctr_okS tabs laws_eqIntS.text laws_eqIntS.seg_eq (fun n x => ⟨.p0 x.1 x.2.1, rfl, rfl, rfl⟩) (nilC)

/-! loop.example/g00039/laws.eqRoute -/
def laws_eqRoute.T : List Ctr := [laws_eqMatcherS.spec, laws_eqStringS.spec, laws_eqIntS.spec]
def laws_eqRoute.md : List (Nat × List Md) := []
noncomputable def laws_eqRoute.F : Fun := ⟨(Go.Proofs.Tryz.f71.body).getD .skip, [.v (.pair .str (.pair (.sl false (.pair .str (.pair (.int .i64) (.pair .str .unit)))) (.pair (.sl false .str) (.pair (.int .i64) (.pair (.int .i64) (.pair (.int .i64) (.pair (.sl false (.int .i64)) (.pair .bool (.pair (.int .i64) .unit))))))))), .v (.pair .str (.pair (.sl false (.pair .str (.pair (.int .i64) (.pair .str .unit)))) (.pair (.sl false .str) (.pair (.int .i64) (.pair (.int .i64) (.pair (.int .i64) (.pair (.sl false (.int .i64)) (.pair .bool (.pair (.int .i64) .unit)))))))))], [(.tmp 4, .bool)], [], 0, []⟩
inductive laws_eqRoute.Pt where
  | p0 (a0 : (ByteArray) × ((List ((ByteArray) × ((Int) × ((ByteArray) × (Unit))))) × ((List (ByteArray)) × ((Int) × ((Int) × ((Int) × ((List (Int)) × ((Bool) × ((Int) × (Unit)))))))))) (a1 : (ByteArray) × ((List ((ByteArray) × ((Int) × ((ByteArray) × (Unit))))) × ((List (ByteArray)) × ((Int) × ((Int) × ((Int) × ((List (Int)) × ((Bool) × ((Int) × (Unit))))))))))
def laws_eqRoute.lb : laws_eqRoute.Pt → Nat
  | .p0 _ _ => 0
def laws_eqRoute.st : laws_eqRoute.Pt → St
  | .p0 a0 a1 => enter [.v (.pair .str (.pair (.sl false (.pair .str (.pair (.int .i64) (.pair .str .unit)))) (.pair (.sl false .str) (.pair (.int .i64) (.pair (.int .i64) (.pair (.int .i64) (.pair (.sl false (.int .i64)) (.pair .bool (.pair (.int .i64) .unit))))))))) a0, .v (.pair .str (.pair (.sl false (.pair .str (.pair (.int .i64) (.pair .str .unit)))) (.pair (.sl false .str) (.pair (.int .i64) (.pair (.int .i64) (.pair (.int .i64) (.pair (.sl false (.int .i64)) (.pair .bool (.pair (.int .i64) .unit))))))))) a1] 0
def laws_eqRoute.step (n : Nat) (K : laws_eqRoute.Pt → Option (Tup [.bool])) : laws_eqRoute.Pt → Option (Tup [.bool])
  | .p0 a0 a1 => cond (!(seq a0.1 a1.1)) (some false) ((laws_eqMatcherS n a0.2.1 a1.2.1).bind fun r5 => cond (!r5) (some false) ((laws_eqStringS n a0.2.2.1 a1.2.2.1).bind fun r6 => cond (!r6) (some false) (cond (!(decide (a0.2.2.2.1 = a1.2.2.2.1))) (some false) (cond (!(decide (a0.2.2.2.2.1 = a1.2.2.2.2.1))) (some false) (cond (!(decide (a0.2.2.2.2.2.1 = a1.2.2.2.2.2.1))) (some false) ((laws_eqIntS n a0.2.2.2.2.2.2.1 a1.2.2.2.2.2.2.1).bind fun r7 => cond (!r7) (some false) (cond (a0.2.2.2.2.2.2.2.1 != a1.2.2.2.2.2.2.2.1) (some false) (cond (!(decide (a0.2.2.2.2.2.2.2.2.1 = a1.2.2.2.2.2.2.2.2.1))) (some false) (some true)))))))))
def laws_eqRoute (n : Nat) (a0 : (ByteArray) × ((List ((ByteArray) × ((Int) × ((ByteArray) × (Unit))))) × ((List (ByteArray)) × ((Int) × ((Int) × ((Int) × ((List (Int)) × ((Bool) × ((Int) × (Unit)))))))))) (a1 : (ByteArray) × ((List ((ByteArray) × ((Int) × ((ByteArray) × (Unit))))) × ((List (ByteArray)) × ((Int) × ((Int) × ((Int) × ((List (Int)) × ((Bool) × ((Int) × (Unit)))))))))) : Option (Tup [.bool]) := goRec laws_eqRoute.step n (.p0 a0 a1)
def laws_eqRoute.spec : Ctr := ⟨71, [.v (.pair .str (.pair (.sl false (.pair .str (.pair (.int .i64) (.pair .str .unit)))) (.pair (.sl false .str) (.pair (.int .i64) (.pair (.int .i64) (.pair (.int .i64) (.pair (.sl false (.int .i64)) (.pair .bool (.pair (.int .i64) .unit))))))))), .v (.pair .str (.pair (.sl false (.pair .str (.pair (.int .i64) (.pair .str .unit)))) (.pair (.sl false .str) (.pair (.int .i64) (.pair (.int .i64) (.pair (.int .i64) (.pair (.sl false (.int .i64)) (.pair .bool (.pair (.int .i64) .unit)))))))))], [.bool], [], fun n x => laws_eqRoute n x.1 x.2.1⟩
theorem laws_eqRoute.seg_eq : SegEq ty gl laws_eqRoute.F laws_eqRoute.md laws_eqRoute.T laws_eqRoute.spec laws_eqRoute.lb laws_eqRoute.st laws_eqRoute.step := by
  intro n goto y; cases y <;> kernel_rfl
theorem laws_eqRoute.text : Text Go.Proofs.Tryz.prog laws_eqRoute.F laws_eqRoute.spec := textOf Go.Proofs.Tryz.f71
theorem laws_eqRoute.ok : CtrOK Go.Proofs.Tryz.prog gl laws_eqRoute.spec :=
  ctr_okS tabs laws_eqRoute.text laws_eqRoute.seg_eq (fun n x => ⟨.p0 x.1 x.2.1, rfl, rfl, rfl⟩) (consC laws_eqMatcherS.ok (consC laws_eqStringS.ok (consC laws_eqIntS.ok (nilC))))

/-! loop.example/g00039/laws.eqRouteS -/
def laws_eqRouteS.T : List Ctr := [laws_eqRoute.spec]
def laws_eqRouteS.md : List (Nat × List Md) := []
noncomputable def laws_eqRouteS.F : Fun := ⟨(Go.Proofs.Tryz.f26.body).getD .skip, [.v (.sl false (.pair .str (.pair (.sl false (.pair .str (.pair (.int .i64) (.pair .str .unit)))) (.pair (.sl false .str) (.pair (.int .i64) (.pair (.int .i64) (.pair (.int .i64) (.pair (.sl false (.int .i64)) (.pair .bool (.pair (.int .i64) .unit)))))))))), .v (.sl false (.pair .str (.pair (.sl false (.pair .str (.pair (.int .i64) (.pair .str .unit)))) (.pair (.sl false .str) (.pair (.int .i64) (.pair (.int .i64) (.pair (.int .i64) (.pair (.sl false (.int .i64)) (.pair .bool (.pair (.int .i64) .unit))))))))))], [(.tmp 4, .bool)], [], 0, [(15, ⟨[0, 1, 5], [], [], false⟩)]⟩
inductive laws_eqRouteS.Pt where
  | p0 (a0 : List ((ByteArray) × ((List ((ByteArray) × ((Int) × ((ByteArray) × (Unit))))) × ((List (ByteArray)) × ((Int) × ((Int) × ((Int) × ((List (Int)) × ((Bool) × ((Int) × (Unit))))))))))) (a1 : List ((ByteArray) × ((List ((ByteArray) × ((Int) × ((ByteArray) × (Unit))))) × ((List (ByteArray)) × ((Int) × ((Int) × ((Int) × ((List (Int)) × ((Bool) × ((Int) × (Unit)))))))))))
  | p15 (y1 : List ((ByteArray) × ((List ((ByteArray) × ((Int) × ((ByteArray) × (Unit))))) × ((List (ByteArray)) × ((Int) × ((Int) × ((Int) × ((List (Int)) × ((Bool) × ((Int) × (Unit))))))))))) (y2 : List ((ByteArray) × ((List ((ByteArray) × ((Int) × ((ByteArray) × (Unit))))) × ((List (ByteArray)) × ((Int) × ((Int) × ((Int) × ((List (Int)) × ((Bool) × ((Int) × (Unit))))))))))) (y3 : Int)
def laws_eqRouteS.lb : laws_eqRouteS.Pt → Nat
  | .p0 _ _ => 0
  | .p15 _ _ _ => 15
def laws_eqRouteS.st : laws_eqRouteS.Pt → St
  | .p0 a0 a1 => enter [.v (.sl false (.pair .str (.pair (.sl false (.pair .str (.pair (.int .i64) (.pair .str .unit)))) (.pair (.sl false .str) (.pair (.int .i64) (.pair (.int .i64) (.pair (.int .i64) (.pair (.sl false (.int .i64)) (.pair .bool (.pair (.int .i64) .unit)))))))))) a0, .v (.sl false (.pair .str (.pair (.sl false (.pair .str (.pair (.int .i64) (.pair .str .unit)))) (.pair (.sl false .str) (.pair (.int .i64) (.pair (.int .i64) (.pair (.int .i64) (.pair (.sl false (.int .i64)) (.pair .bool (.pair (.int .i64) .unit)))))))))) a1] 0
  | .p15 y1 y2 y3 => ⟨[(0, .im (.sl false (.pair .str (.pair (.sl false (.pair .str (.pair (.int .i64) (.pair .str .unit)))) (.pair (.sl false .str) (.pair (.int .i64) (.pair (.int .i64) (.pair (.int .i64) (.pair (.sl false (.int .i64)) (.pair .bool (.pair (.int .i64) .unit)))))))))) y1), (1, .im (.sl false (.pair .str (.pair (.sl false (.pair .str (.pair (.int .i64) (.pair .str .unit)))) (.pair (.sl false .str) (.pair (.int .i64) (.pair (.int .i64) (.pair (.int .i64) (.pair (.sl false (.int .i64)) (.pair .bool (.pair (.int .i64) .unit)))))))))) y2), (5, .im (.int .i64) y3)], [], 0⟩
def laws_eqRouteS.step (n : Nat) (K : laws_eqRouteS.Pt → Option (Tup [.bool])) : laws_eqRouteS.Pt → Option (Tup [.bool])
  | .p0 a0 a1 => cond (!(decide (((List.length a0) : Int) = ((List.length a1) : Int)))) (some false) (K (.p15 a0 a1 (0 : Int)))
  | .p15 y1 y2 y3 => cond (decide (y3 < ((List.length y1) : Int))) (cond (inB y3 (List.length y1)) (cond (inB y3 (List.length y2)) ((laws_eqRoute n (List.getD y1 (Int.toNat y3) default) (List.getD y2 (Int.toNat y3) default)).bind fun r6 => cond (!r6) (some false) (K (.p15 y1 y2 (IntKind.wrap .i64 (y3 + (1 : Int)))))) (none)) (none)) (some true)
def laws_eqRouteS (n : Nat) (a0 : List ((ByteArray) × ((List ((ByteArray) × ((Int) × ((ByteArray) × (Unit))))) × ((List (ByteArray)) × ((Int) × ((Int) × ((Int) × ((List (Int)) × ((Bool) × ((Int) × (Unit))))))))))) (a1 : List ((ByteArray) × ((List ((ByteArray) × ((Int) × ((ByteArray) × (Unit))))) × ((List (ByteArray)) × ((Int) × ((Int) × ((Int) × ((List (Int)) × ((Bool) × ((Int) × (Unit))))))))))) : Option (Tup [.bool]) := goRec laws_eqRouteS.step n (.p0 a0 a1)
def laws_eqRouteS.spec : Ctr := ⟨26, [.v (.sl false (.pair .str (.pair (.sl false (.pair .str (.pair (.int .i64) (.pair .str .unit)))) (.pair (.sl false .str) (.pair (.int .i64) (.pair (.int .i64) (.pair (.int .i64) (.pair (.sl false (.int .i64)) (.pair .bool (.pair (.int .i64) .unit)))))))))), .v (.sl false (.pair .str (.pair (.sl false (.pair .str (.pair (.int .i64) (.pair .str .unit)))) (.pair (.sl false .str) (.pair (.int .i64) (.pair (.int .i64) (.pair (.int .i64) (.pair (.sl false (.int .i64)) (.pair .bool (.pair (.int .i64) .unit))))))))))], [.bool], [], fun n x => laws_eqRouteS n x.1 x.2.1⟩
theorem laws_eqRouteS.seg_eq : SegEq ty gl laws_eqRouteS.F laws_eqRouteS.md laws_eqRouteS.T laws_eqRouteS.spec laws_eqRouteS.lb laws_eqRouteS.st laws_eqRouteS.step := by
  intro n goto y; cases y <;> kernel_rfl
theorem laws_eqRouteS.text : Text Go.Proofs.Tryz.prog laws_eqRouteS.F laws_eqRouteS.spec := textOf Go.Proofs.Tryz.f26
theorem laws_eqRouteS.ok : CtrOK Go.Proofs.Tryz.prog gl laws_eqRouteS.spec :=
  ctr_okS tabs laws_eqRouteS.text laws_eqRouteS.seg_eq (fun n x => ⟨.p0 x.1 x.2.1, rfl, rfl, rfl⟩) (consC laws_eqRoute.ok (nilC))

/-! loop.example/g00039/laws.eqRange -/
def laws_eqRange.T : List Ctr := []
def laws_eqRange.md : List (Nat × List Md) := []
noncomputable def laws_eqRange.F : Fun := ⟨(Go.Proofs.Tryz.f185.body).getD .skip, [.v (.pair (.int .i64) (.pair (.int .i64) .unit)), .v (.pair (.int .i64) (.pair (.int .i64) .unit))], [(.tmp 4, .bool)], [], 0, []⟩
inductive laws_eqRange.Pt where
  | p0 (a0 : (Int) × ((Int) × (Unit))) (a1 : (Int) × ((Int) × (Unit)))
def laws_eqRange.lb : laws_eqRange.Pt → Nat
  | .p0 _ _ => 0
def laws_eqRange.st : laws_eqRange.Pt → St
  | .p0 a0 a1 => enter [.v (.pair (.int .i64) (.pair (.int .i64) .unit)) a0, .v (.pair (.int .i64) (.pair (.int .i64) .unit)) a1] 0
def laws_eqRange.step (n : Nat) (K : laws_eqRange.Pt → Option (Tup [.bool])) : laws_eqRange.Pt → Option (Tup [.bool])
  | .p0 a0 a1 => cond (!(decide (a0.1 = a1.1))) (some false) (cond (!(decide (a0.2.1 = a1.2.1))) (some false) (some true))
def laws_eqRange (n : Nat) (a0 : (Int) × ((Int) × (Unit))) (a1 : (Int) × ((Int) × (Unit))) : Option (Tup [.bool]) := goRec laws_eqRange.step n (.p0 a0 a1)
def laws_eqRange.spec : Ctr := ⟨185, [.v (.pair (.int .i64) (.pair (.int .i64) .unit)), .v (.pair (.int .i64) (.pair (.int .i64) .unit))], [.bool], [], fun n x => laws_eqRange n x.1 x.2.1⟩
theorem laws_eqRange.seg_eq : SegEq ty gl laws_eqRange.F laws_eqRange.md laws_eqRange.T laws_eqRange.spec laws_eqRange.lb laws_eqRange.st laws_eqRange.step := by
  intro n goto y; cases y <;> kernel_rfl
theorem laws_eqRange.text : Text Go.Proofs.Tryz.prog laws_eqRange.F laws_eqRange.spec := textOf Go.Proofs.Tryz.f185
theorem laws_eqRange.ok : CtrOK Go.Proofs.Tryz.prog gl laws_eqRange.spec :=
  ctr_okS tabs laws_eqRange.text laws_eqRange.seg_eq (fun n x => ⟨.p0 x.1 x.2.1, rfl, rfl, rfl⟩) (nilC)

/-! loop.example/g00039/laws.eqRangeS -/
def laws_eqRangeS.T : List Ctr := [laws_eqRange.spec]
def laws_eqRangeS.md : List (Nat × List Md) := []
noncomputable def laws_eqRangeS.F : Fun := ⟨(Go.Proofs.Tryz.f149.body).getD .skip, [.v (.sl false (.pair (.int .i64) (.pair (.int .i64) .unit))), .v (.sl false (.pair (.int .i64) (.pair (.int .i64) .unit)))], [(.tmp 4, .bool)], [], 0, [(15, ⟨[0, 1, 5], [], [], false⟩)]⟩
inductive laws_eqRangeS.Pt where
  | p0 (a0 : List ((Int) × ((Int) × (Unit)))) (a1 : List ((Int) × ((Int) × (Unit))))
  | p15 (y1 : List ((Int) × ((Int) × (Unit)))) (y2 : List ((Int) × ((Int) × (Unit)))) (y3 : Int)
def laws_eqRangeS.lb : laws_eqRangeS.Pt → Nat
  | .p0 _ _ => 0
  | .p15 _ _ _ => 15
def laws_eqRangeS.st : laws_eqRangeS.Pt → St
  | .p0 a0 a1 => enter [.v (.sl false (.pair (.int .i64) (.pair (.int .i64) .unit))) a0, .v (.sl false (.pair (.int .i64) (.pair (.int .i64) .unit))) a1] 0
  | .p15 y1 y2 y3 => ⟨[(0, .im (.sl false (.pair (.int .i64) (.pair (.int .i64) .unit))) y1), (1, .im (.sl false (.pair (.int .i64) (.pair (.int .i64) .unit))) y2), (5, .im (.int .i64) y3)], [], 0⟩
def laws_eqRangeS.step (n : Nat) (K : laws_eqRangeS.Pt → Option (Tup [.bool])) : laws_eqRangeS.Pt → Option (Tup [.bool])
  | .p0 a0 a1 => cond (!(decide (((List.length a0) : Int) = ((List.length a1) : Int)))) (some false) (K (.p15 a0 a1 (0 : Int)))
  | .p15 y1 y2 y3 => cond (decide (y3 < ((List.length y1) : Int))) (cond (inB y3 (List.length y1)) (cond (inB y3 (List.length y2)) ((laws_eqRange n (List.getD y1 (Int.toNat y3) default) (List.getD y2 (Int.toNat y3) default)).bind fun r6 => cond (!r6) (some false) (K (.p15 y1 y2 (IntKind.wrap .i64 (y3 + (1 : Int)))))) (none)) (none)) (some true)
def laws_eqRangeS (n : Nat) (a0 : List ((Int) × ((Int) × (Unit)))) (a1 : List ((Int) × ((Int) × (Unit)))) : Option (Tup [.bool]) := goRec laws_eqRangeS.step n (.p0 a0 a1)
def laws_eqRangeS.spec : Ctr := ⟨149, [.v (.sl false (.pair (.int .i64) (.pair (.int .i64) .unit))), .v (.sl false (.pair (.int .i64) (.pair (.int .i64) .unit)))], [.bool], [], fun n x => laws_eqRangeS n x.1 x.2.1⟩
theorem laws_eqRangeS.seg_eq : SegEq ty gl laws_eqRangeS.F laws_eqRangeS.md laws_eqRangeS.T laws_eqRangeS.spec laws_eqRangeS.lb laws_eqRangeS.st laws_eqRangeS.step := by
  intro n goto y; cases y <;> kernel_rfl
theorem laws_eqRangeS.text : Text Go.Proofs.Tryz.prog laws_eqRangeS.F laws_eqRangeS.spec := textOf Go.Proofs.Tryz.f149
theorem laws_eqRangeS.ok : CtrOK Go.Proofs.Tryz.prog gl laws_eqRangeS.spec :=
  ctr_okS tabs laws_eqRangeS.text laws_eqRangeS.seg_eq (fun n x => ⟨.p0 x.1 x.2.1, rfl, rfl, rfl⟩) (consC laws_eqRange.ok (nilC))

/-! loop.example/g00039/laws.eqInterval -/
def laws_eqInterval.T : List Ctr := [laws_eqIntS.spec, laws_eqRangeS.spec]
def laws_eqInterval.md : List (Nat × List Md) := []
noncomputable def laws_eqInterval.F : Fun := ⟨(Go.Proofs.Tryz.f100.body).getD .skip, [.v (.pair (.int .i64) (.pair (.sl false (.pair (.int .i64) (.pair (.int .i64) .unit))) (.pair (.sl false (.pair (.int .i64) (.pair (.int .i64) .unit))) (.pair (.sl false (.pair (.int .i64) (.pair (.int .i64) .unit))) (.pair (.sl false (.pair (.int .i64) (.pair (.int .i64) .unit))) (.pair (.sl false (.pair (.int .i64) (.pair (.int .i64) .unit))) (.pair (.sl false (.int .i64)) .unit))))))), .v (.pair (.int .i64) (.pair (.sl false (.pair (.int .i64) (.pair (.int .i64) .unit))) (.pair (.sl false (.pair (.int .i64) (.pair (.int .i64) .unit))) (.pair (.sl false (.pair (.int .i64) (.pair (.int .i64) .unit))) (.pair (.sl false (.pair (.int .i64) (.pair (.int .i64) .unit))) (.pair (.sl false (.pair (.int .i64) (.pair (.int .i64) .unit))) (.pair (.sl false (.int .i64)) .unit)))))))], [(.tmp 4, .bool)], [], 0, []⟩
inductive laws_eqInterval.Pt where
  | p0 (a0 : (Int) × ((List ((Int) × ((Int) × (Unit)))) × ((List ((Int) × ((Int) × (Unit)))) × ((List ((Int) × ((Int) × (Unit)))) × ((List ((Int) × ((Int) × (Unit)))) × ((List ((Int) × ((Int) × (Unit)))) × ((List (Int)) × (Unit)))))))) (a1 : (Int) × ((List ((Int) × ((Int) × (Unit)))) × ((List ((Int) × ((Int) × (Unit)))) × ((List ((Int) × ((Int) × (Unit)))) × ((List ((Int) × ((Int) × (Unit)))) × ((List ((Int) × ((Int) × (Unit)))) × ((List (Int)) × (Unit))))))))
def laws_eqInterval.lb : laws_eqInterval.Pt → Nat
  | .p0 _ _ => 0
def laws_eqInterval.st : laws_eqInterval.Pt → St
  | .p0 a0 a1 => enter [.v (.pair (.int .i64) (.pair (.sl false (.pair (.int .i64) (.pair (.int .i64) .unit))) (.pair (.sl false (.pair (.int .i64) (.pair (.int .i64) .unit))) (.pair (.sl false (.pair (.int .i64) (.pair (.int .i64) .unit))) (.pair (.sl false (.pair (.int .i64) (.pair (.int .i64) .unit))) (.pair (.sl false (.pair (.int .i64) (.pair (.int .i64) .unit))) (.pair (.sl false (.int .i64)) .unit))))))) a0, .v (.pair (.int .i64) (.pair (.sl false (.pair (.int .i64) (.pair (.int .i64) .unit))) (.pair (.sl false (.pair (.int .i64) (.pair (.int .i64) .unit))) (.pair (.sl false (.pair (.int .i64) (.pair (.int .i64) .unit))) (.pair (.sl false (.pair (.int .i64) (.pair (.int .i64) .unit))) (.pair (.sl false (.pair (.int .i64) (.pair (.int .i64) .unit))) (.pair (.sl false (.int .i64)) .unit))))))) a1] 0
def laws_eqInterval.step (n : Nat) (K : laws_eqInterval.Pt → Option (Tup [.bool])) : laws_eqInterval.Pt → Option (Tup [.bool])
  | .p0 a0 a1 => cond (!(decide (a0.1 = a1.1))) (some false) ((laws_eqRangeS n a0.2.1 a1.2.1).bind fun r5 => cond (!r5) (some false) ((laws_eqRangeS n a0.2.2.1 a1.2.2.1).bind fun r6 => cond (!r6) (some false) ((laws_eqRangeS n a0.2.2.2.1 a1.2.2.2.1).bind fun r7 => cond (!r7) (some false) ((laws_eqRangeS n a0.2.2.2.2.1 a1.2.2.2.2.1).bind fun r8 => cond (!r8) (some false) ((laws_eqRangeS n a0.2.2.2.2.2.1 a1.2.2.2.2.2.1).bind fun r9 => cond (!r9) (some false) ((laws_eqIntS n a0.2.2.2.2.2.2.1 a1.2.2.2.2.2.2.1).bind fun r10 => cond (!r10) (some false) (some true)))))))
def laws_eqInterval (n : Nat) (a0 : (Int) × ((List ((Int) × ((Int) × (Unit)))) × ((List ((Int) × ((Int) × (Unit)))) × ((List ((Int) × ((Int) × (Unit)))) × ((List ((Int) × ((Int) × (Unit)))) × ((List ((Int) × ((Int) × (Unit)))) × ((List (Int)) × (Unit)))))))) (a1 : (Int) × ((List ((Int) × ((Int) × (Unit)))) × ((List ((Int) × ((Int) × (Unit)))) × ((List ((Int) × ((Int) × (Unit)))) × ((List ((Int) × ((Int) × (Unit)))) × ((List ((Int) × ((Int) × (Unit)))) × ((List (Int)) × (Unit)))))))) : Option (Tup [.bool]) := goRec laws_eqInterval.step n (.p0 a0 a1)
def laws_eqInterval.spec : Ctr := ⟨100, [.v (.pair (.int .i64) (.pair (.sl false (.pair (.int .i64) (.pair (.int .i64) .unit))) (.pair (.sl false (.pair (.int .i64) (.pair (.int .i64) .unit))) (.pair (.sl false (.pair (.int .i64) (.pair (.int .i64) .unit))) (.pair (.sl false (.pair (.int .i64) (.pair (.int .i64) .unit))) (.pair (.sl false (.pair (.int .i64) (.pair (.int .i64) .unit))) (.pair (.sl false (.int .i64)) .unit))))))), .v (.pair (.int .i64) (.pair (.sl false (.pair (.int .i64) (.pair (.int .i64) .unit))) (.pair (.sl false (.pair (.int .i64) (.pair (.int .i64) .unit))) (.pair (.sl false (.pair (.int .i64) (.pair (.int .i64) .unit))) (.pair (.sl false (.pair (.int .i64) (.pair (.int .i64) .unit))) (.pair (.sl false (.pair (.int .i64) (.pair (.int .i64) .unit))) (.pair (.sl false (.int .i64)) .unit)))))))], [.bool], [], fun n x => laws_eqInterval n x.1 x.2.1⟩
theorem laws_eqInterval.seg_eq : SegEq ty gl laws_eqInterval.F laws_eqInterval.md laws_eqInterval.T laws_eqInterval.spec laws_eqInterval.lb laws_eqInterval.st laws_eqInterval.step := by
  intro n goto y; cases y <;> kernel_rfl
theorem laws_eqInterval.text : Text Go.Proofs.Tryz.prog laws_eqInterval.F laws_eqInterval.spec := textOf Go.Proofs.Tryz.f100
theorem laws_eqInterval.ok : CtrOK Go.Proofs.Tryz.prog gl laws_eqInterval.spec :=
  ctr_okS tabs laws_eqInterval.text laws_eqInterval.seg_eq (fun n x => ⟨.p0 x.1 x.2.1, rfl, rfl, rfl⟩) (consC laws_eqIntS.ok (consC laws_eqRangeS.ok (nilC)))

/-! loop.example/g00039/laws.eqIntervalS -/
def laws_eqIntervalS.T : List Ctr := [laws_eqInterval.spec]
def laws_eqIntervalS.md : List (Nat × List Md) := []
noncomputable def laws_eqIntervalS.F : Fun := ⟨(Go.Proofs.Tryz.f48.body).getD .skip, [.v (.sl false (.pair (.int .i64) (.pair (.sl false (.pair (.int .i64) (.pair (.int .i64) .unit))) (.pair (.sl false (.pair (.int .i64) (.pair (.int .i64) .unit))) (.pair (.sl false (.pair (.int .i64) (.pair (.int .i64) .unit))) (.pair (.sl false (.pair (.int .i64) (.pair (.int .i64) .unit))) (.pair (.sl false (.pair (.int .i64) (.pair (.int .i64) .unit))) (.pair (.sl false (.int .i64)) .unit)))))))), .v (.sl false (.pair (.int .i64) (.pair (.sl false (.pair (.int .i64) (.pair (.int .i64) .unit))) (.pair (.sl false (.pair (.int .i64) (.pair (.int .i64) .unit))) (.pair (.sl false (.pair (.int .i64) (.pair (.int .i64) .unit))) (.pair (.sl false (.pair (.int .i64) (.pair (.int .i64) .unit))) (.pair (.sl false (.pair (.int .i64) (.pair (.int .i64) .unit))) (.pair (.sl false (.int .i64)) .unit))))))))], [(.tmp 4, .bool)], [], 0, [(15, ⟨[0, 1, 5], [], [], false⟩)]⟩
inductive laws_eqIntervalS.Pt where
  | p0 (a0 : List ((Int) × ((List ((Int) × ((Int) × (Unit)))) × ((List ((Int) × ((Int) × (Unit)))) × ((List ((Int) × ((Int) × (Unit)))) × ((List ((Int) × ((Int) × (Unit)))) × ((List ((Int) × ((Int) × (Unit)))) × ((List (Int)) × (Unit))))))))) (a1 : List ((Int) × ((List ((Int) × ((Int) × (Unit)))) × ((List ((Int) × ((Int) × (Unit)))) × ((List ((Int) × ((Int) × (Unit)))) × ((List ((Int) × ((Int) × (Unit)))) × ((List ((Int) × ((Int) × (Unit)))) × ((List (Int)) × (Unit)))))))))
  | p15 (y1 : List ((Int) × ((List ((Int) × ((Int) × (Unit)))) × ((List ((Int) × ((Int) × (Unit)))) × ((List ((Int) × ((Int) × (Unit)))) × ((List ((Int) × ((Int) × (Unit)))) × ((List ((Int) × ((Int) × (Unit)))) × ((List (Int)) × (Unit))))))))) (y2 : List ((Int) × ((List ((Int) × ((Int) × (Unit)))) × ((List ((Int) × ((Int) × (Unit)))) × ((List ((Int) × ((Int) × (Unit)))) × ((List ((Int) × ((Int) × (Unit)))) × ((List ((Int) × ((Int) × (Unit)))) × ((List (Int)) × (Unit))))))))) (y3 : Int)
def laws_eqIntervalS.lb : laws_eqIntervalS.Pt → Nat
  | .p0 _ _ => 0
  | .p15 _ _ _ => 15
def laws_eqIntervalS.st : laws_eqIntervalS.Pt → St
  | .p0 a0 a1 => enter [.v (.sl false (.pair (.int .i64) (.pair (.sl false (.pair (.int .i64) (.pair (.int .i64) .unit))) (.pair (.sl false (.pair (.int .i64) (.pair (.int .i64) .unit))) (.pair (.sl false (.pair (.int .i64) (.pair (.int .i64) .unit))) (.pair (.sl false (.pair (.int .i64) (.pair (.int .i64) .unit))) (.pair (.sl false (.pair (.int .i64) (.pair (.int .i64) .unit))) (.pair (.sl false (.int .i64)) .unit)))))))) a0, .v (.sl false (.pair (.int .i64) (.pair (.sl false (.pair (.int .i64) (.pair (.int .i64) .unit))) (.pair (.sl false (.pair (.int .i64) (.pair (.int .i64) .unit))) (.pair (.sl false (.pair (.int .i64) (.pair (.int .i64) .unit))) (.pair (.sl false (.pair (.int .i64) (.pair (.int .i64) .unit))) (.pair (.sl false (.pair (.int .i64) (.pair (.int .i64) .unit))) (.pair (.sl false (.int .i64)) .unit)))))))) a1] 0
  | .p15 y1 y2 y3 => ⟨[(0, .im (.sl false (.pair (.int .i64) (.pair (.sl false (.pair (.int .i64) (.pair (.int .i64) .unit))) (.pair (.sl false (.pair (.int .i64) (.pair (.int .i64) .unit))) (.pair (.sl false (.pair (.int .i64) (.pair (.int .i64) .unit))) (.pair (.sl false (.pair (.int .i64) (.pair (.int .i64) .unit))) (.pair (.sl false (.pair (.int .i64) (.pair (.int .i64) .unit))) (.pair (.sl false (.int .i64)) .unit)))))))) y1), (1, .im (.sl false (.pair (.int .i64) (.pair (.sl false (.pair (.int .i64) (.pair (.int .i64) .unit))) (.pair (.sl false (.pair (.int .i64) (.pair (.int .i64) .unit))) (.pair (.sl false (.pair (.int .i64) (.pair (.int .i64) .unit))) (.pair (.sl false (.pair (.int .i64) (.pair (.int .i64) .unit))) (.pair (.sl false (.pair (.int .i64) (.pair (.int .i64) .unit))) (.pair (.sl false (.int .i64)) .unit)))))))) y2), (5, .im (.int .i64) y3)], [], 0⟩
def laws_eqIntervalS.step (n : Nat) (K : laws_eqIntervalS.Pt → Option (Tup [.bool])) : laws_eqIntervalS.Pt → Option (Tup [.bool])
  | .p0 a0 a1 => cond (!(decide (((List.length a0) : Int) = ((List.length a1) : Int)))) (some false) (K (.p15 a0 a1 (0 : Int)))
  | .p15 y1 y2 y3 => cond (decide (y3 < ((List.length y1) : Int))) (cond (inB y3 (List.length y1)) (cond (inB y3 (List.length y2)) ((laws_eqInterval n (List.getD y1 (Int.toNat y3) default) (List.getD y2 (Int.toNat y3) default)).bind fun r6 => cond (!r6) (some false) (K (.p15 y1 y2 (IntKind.wrap .i64 (y3 + (1 : Int)))))) (none)) (none)) (some true)
def laws_eqIntervalS (n : Nat) (a0 : List ((Int) × ((List ((Int) × ((Int) × (Unit)))) × ((List ((Int) × ((Int) × (Unit)))) × ((List ((Int) × ((Int) × (Unit)))) × ((List ((Int) × ((Int) × (Unit)))) × ((List ((Int) × ((Int) × (Unit)))) × ((List (Int)) × (Unit))))))))) (a1 : List ((Int) × ((List ((Int) × ((Int) × (Unit)))) × ((List ((Int) × ((Int) × (Unit)))) × ((List ((Int) × ((Int) × (Unit)))) × ((List ((Int) × ((Int) × (Unit)))) × ((List ((Int) × ((Int) × (Unit)))) × ((List (Int)) × (Unit))))))))) : Option (Tup [.bool]) := goRec laws_eqIntervalS.step n (.p0 a0 a1)
def laws_eqIntervalS.spec : Ctr := ⟨48, [.v (.sl false (.pair (.int .i64) (.pair (.sl false (.pair (.int .i64) (.pair (.int .i64) .unit))) (.pair (.sl false (.pair (.int .i64) (.pair (.int .i64) .unit))) (.pair (.sl false (.pair (.int .i64) (.pair (.int .i64) .unit))) (.pair (.sl false (.pair (.int .i64) (.pair (.int .i64) .unit))) (.pair (.sl false (.pair (.int .i64) (.pair (.int .i64) .unit))) (.pair (.sl false (.int .i64)) .unit)))))))), .v (.sl false (.pair (.int .i64) (.pair (.sl false (.pair (.int .i64) (.pair (.int .i64) .unit))) (.pair (.sl false (.pair (.int .i64) (.pair (.int .i64) .unit))) (.pair (.sl false (.pair (.int .i64) (.pair (.int .i64) .unit))) (.pair (.sl false (.pair (.int .i64) (.pair (.int .i64) .unit))) (.pair (.sl false (.pair (.int .i64) (.pair (.int .i64) .unit))) (.pair (.sl false (.int .i64)) .unit))))))))], [.bool], [], fun n x => laws_eqIntervalS n x.1 x.2.1⟩
theorem laws_eqIntervalS.seg_eq : SegEq ty gl laws_eqIntervalS.F laws_eqIntervalS.md laws_eqIntervalS.T laws_eqIntervalS.spec laws_eqIntervalS.lb laws_eqIntervalS.st laws_eqIntervalS.step := by
  intro n goto y; cases y <;> kernel_rfl
theorem laws_eqIntervalS.text : Text Go.Proofs.Tryz.prog laws_eqIntervalS.F laws_eqIntervalS.spec := textOf Go.Proofs.Tryz.f48
theorem laws_eqIntervalS.ok : CtrOK Go.Proofs.Tryz.prog gl laws_eqIntervalS.spec :=
  ctr_okS tabs laws_eqIntervalS.text laws_eqIntervalS.seg_eq (fun n x => ⟨.p0 x.1 x.2.1, rfl, rfl, rfl⟩) (consC laws_eqInterval.ok (nilC))

/-! loop.example/g00039/laws.eqSilence -/
def laws_eqSilence.T : List Ctr := [laws_eqMatcherS.spec]
def laws_eqSilence.md : List (Nat × List Md) := []
noncomputable def laws_eqSilence.F : Fun := ⟨(Go.Proofs.Tryz.f101.body).getD .skip, [.v (.pair .str (.pair (.sl false (.pair .str (.pair (.int .i64) (.pair .str .unit)))) (.pair (.int .i64) (.pair (.int .i64) .unit)))), .v (.pair .str (.pair (.sl false (.pair .str (.pair (.int .i64) (.pair .str .unit)))) (.pair (.int .i64) (.pair (.int .i64) .unit))))], [(.tmp 4, .bool)], [], 0, []⟩
inductive laws_eqSilence.Pt where
  | p0 (a0 : (ByteArray) × ((List ((ByteArray) × ((Int) × ((ByteArray) × (Unit))))) × ((Int) × ((Int) × (Unit))))) (a1 : (ByteArray) × ((List ((ByteArray) × ((Int) × ((ByteArray) × (Unit))))) × ((Int) × ((Int) × (Unit)))))
def laws_eqSilence.lb : laws_eqSilence.Pt → Nat
  | .p0 _ _ => 0
def laws_eqSilence.st : laws_eqSilence.Pt → St
  | .p0 a0 a1 => enter [.v (.pair .str (.pair (.sl false (.pair .str (.pair (.int .i64) (.pair .str .unit)))) (.pair (.int .i64) (.pair (.int .i64) .unit)))) a0, .v (.pair .str (.pair (.sl false (.pair .str (.pair (.int .i64) (.pair .str .unit)))) (.pair (.int .i64) (.pair (.int .i64) .unit)))) a1] 0
def laws_eqSilence.step (n : Nat) (K : laws_eqSilence.Pt → Option (Tup [.bool])) : laws_eqSilence.Pt → Option (Tup [.bool])
  | .p0 a0 a1 => cond (!(seq a0.1 a1.1)) (some false) ((laws_eqMatcherS n a0.2.1 a1.2.1).bind fun r5 => cond (!r5) (some false) (cond (!(decide (a0.2.2.1 = a1.2.2.1))) (some false) (cond (!(decide (a0.2.2.2.1 = a1.2.2.2.1))) (some false) (some true))))
def laws_eqSilence (n : Nat) (a0 : (ByteArray) × ((List ((ByteArray) × ((Int) × ((ByteArray) × (Unit))))) × ((Int) × ((Int) × (Unit))))) (a1 : (ByteArray) × ((List ((ByteArray) × ((Int) × ((ByteArray) × (Unit))))) × ((Int) × ((Int) × (Unit))))) : Option (Tup [.bool]) := goRec laws_eqSilence.step n (.p0 a0 a1)
def laws_eqSilence.spec : Ctr := ⟨101, [.v (.pair .str (.pair (.sl false (.pair .str (.pair (.int .i64) (.pair .str .unit)))) (.pair (.int .i64) (.pair (.int .i64) .unit)))), .v (.pair .str (.pair (.sl false (.pair .str (.pair (.int .i64) (.pair .str .unit)))) (.pair (.int .i64) (.pair (.int .i64) .unit))))], [.bool], [], fun n x => laws_eqSilence n x.1 x.2.1⟩
theorem laws_eqSilence.seg_eq : SegEq ty gl laws_eqSilence.F laws_eqSilence.md laws_eqSilence.T laws_eqSilence.spec laws_eqSilence.lb laws_eqSilence.st laws_eqSilence.step := by
  intro n goto y; cases y <;> kernel_rfl
theorem laws_eqSilence.text : Text Go.Proofs.Tryz.prog laws_eqSilence.F laws_eqSilence.spec := textOf Go.Proofs.Tryz.f101
theorem laws_eqSilence.ok : CtrOK Go.Proofs.Tryz.prog gl laws_eqSilence.spec :=
  ctr_okS tabs laws_eqSilence.text laws_eqSilence.seg_eq (fun n x => ⟨.p0 x.1 x.2.1, rfl, rfl, rfl⟩) (consC laws_eqMatcherS.ok (nilC))

/-! loop.example/g00039/laws.eqSilenceS -/
def laws_eqSilenceS.T : List Ctr := [laws_eqSilence.spec]
def laws_eqSilenceS.md : List (Nat × List Md) := []
noncomputable def laws_eqSilenceS.F : Fun := ⟨(Go.Proofs.Tryz.f49.body).getD .skip, [.v (.sl false (.pair .str (.pair (.sl false (.pair .str (.pair (.int .i64) (.pair .str .unit)))) (.pair (.int .i64) (.pair (.int .i64) .unit))))), .v (.sl false (.pair .str (.pair (.sl false (.pair .str (.pair (.int .i64) (.pair .str .unit)))) (.pair (.int .i64) (.pair (.int .i64) .unit)))))], [(.tmp 4, .bool)], [], 0, [(15, ⟨[0, 1, 5], [], [], false⟩)]⟩
inductive laws_eqSilenceS.Pt where
  | p0 (a0 : List ((ByteArray) × ((List ((ByteArray) × ((Int) × ((ByteArray) × (Unit))))) × ((Int) × ((Int) × (Unit)))))) (a1 : List ((ByteArray) × ((List ((ByteArray) × ((Int) × ((ByteArray) × (Unit))))) × ((Int) × ((Int) × (Unit))))))
  | p15 (y1 : List ((ByteArray) × ((List ((ByteArray) × ((Int) × ((ByteArray) × (Unit))))) × ((Int) × ((Int) × (Unit)))))) (y2 : List ((ByteArray) × ((List ((ByteArray) × ((Int) × ((ByteArray) × (Unit))))) × ((Int) × ((Int) × (Unit)))))) (y3 : Int)
def laws_eqSilenceS.lb : laws_eqSilenceS.Pt → Nat
  | .p0 _ _ => 0
  | .p15 _ _ _ => 15
def laws_eqSilenceS.st : laws_eqSilenceS.Pt → St
  | .p0 a0 a1 => enter [.v (.sl false (.pair .str (.pair (.sl false (.pair .str (.pair (.int .i64) (.pair .str .unit)))) (.pair (.int .i64) (.pair (.int .i64) .unit))))) a0, .v (.sl false (.pair .str (.pair (.sl false (.pair .str (.pair (.int .i64) (.pair .str .unit)))) (.pair (.int .i64) (.pair (.int .i64) .unit))))) a1] 0
  | .p15 y1 y2 y3 => ⟨[(0, .im (.sl false (.pair .str (.pair (.sl false (.pair .str (.pair (.int .i64) (.pair .str .unit)))) (.pair (.int .i64) (.pair (.int .i64) .unit))))) y1), (1, .im (.sl false (.pair .str (.pair (.sl false (.pair .str (.pair (.int .i64) (.pair .str .unit)))) (.pair (.int .i64) (.pair (.int .i64) .unit))))) y2), (5, .im (.int .i64) y3)], [], 0⟩
def laws_eqSilenceS.step (n : Nat) (K : laws_eqSilenceS.Pt → Option (Tup [.bool])) : laws_eqSilenceS.Pt → Option (Tup [.bool])
  | .p0 a0 a1 => cond (!(decide (((List.length a0) : Int) = ((List.length a1) : Int)))) (some false) (K (.p15 a0 a1 (0 : Int)))
  | .p15 y1 y2 y3 => cond (decide (y3 < ((List.length y1) : Int))) (cond (inB y3 (List.length y1)) (cond (inB y3 (List.length y2)) ((laws_eqSilence n (List.getD y1 (Int.toNat y3) default) (List.getD y2 (Int.toNat y3) default)).bind fun r6 => cond (!r6) (some false) (K (.p15 y1 y2 (IntKind.wrap .i64 (y3 + (1 : Int)))))) (none)) (none)) (some true)
def laws_eqSilenceS (n : Nat) (a0 : List ((ByteArray) × ((List ((ByteArray) × ((Int) × ((ByteArray) × (Unit))))) × ((Int) × ((Int) × (Unit)))))) (a1 : List ((ByteArray) × ((List ((ByteArray) × ((Int) × ((ByteArray) × (Unit))))) × ((Int) × ((Int) × (Unit)))))) : Option (Tup [.bool]) := goRec laws_eqSilenceS.step n (.p0 a0 a1)
def laws_eqSilenceS.spec : Ctr := ⟨49, [.v (.sl false (.pair .str (.pair (.sl false (.pair .str (.pair (.int .i64) (.pair .str .unit)))) (.pair (.int .i64) (.pair (.int .i64) .unit))))), .v (.sl false (.pair .str (.pair (.sl false (.pair .str (.pair (.int .i64) (.pair .str .unit)))) (.pair (.int .i64) (.pair (.int .i64) .unit)))))], [.bool], [], fun n x => laws_eqSilenceS n x.1 x.2.1⟩
theorem laws_eqSilenceS.seg_eq : SegEq ty gl laws_eqSilenceS.F laws_eqSilenceS.md laws_eqSilenceS.T laws_eqSilenceS.spec laws_eqSilenceS.lb laws_eqSilenceS.st laws_eqSilenceS.step := by
  intro n goto y; cases y <;> kernel_rfl
theorem laws_eqSilenceS.text : Text Go.Proofs.Tryz.prog laws_eqSilenceS.F laws_eqSilenceS.spec := textOf Go.Proofs.Tryz.f49
theorem laws_eqSilenceS.ok : CtrOK Go.Proofs.Tryz.prog gl laws_eqSilenceS.spec :=
  ctr_okS tabs laws_eqSilenceS.text laws_eqSilenceS.seg_eq (fun n x => ⟨.p0 x.1 x.2.1, rfl, rfl, rfl⟩) (consC laws_eqSilence.ok (nilC))

/-! loop.example/g00039/laws.eqInhibit -/
def laws_eqInhibit.T : List Ctr := [laws_eqMatcherS.spec, laws_eqStringS.spec]
def laws_eqInhibit.md : List (Nat × List Md) := []
noncomputable def laws_eqInhibit.F : Fun := ⟨(Go.Proofs.Tryz.f102.body).getD .skip, [.v (.pair (.sl false (.pair .str (.pair (.int .i64) (.pair .str .unit)))) (.pair (.sl false (.pair .str (.pair (.int .i64) (.pair .str .unit)))) (.pair (.sl false .str) .unit))), .v (.pair (.sl false (.pair .str (.pair (.int .i64) (.pair .str .unit)))) (.pair (.sl false (.pair .str (.pair (.int .i64) (.pair .str .unit)))) (.pair (.sl false .str) .unit)))], [(.tmp 4, .bool)], [], 0, []⟩
inductive laws_eqInhibit.Pt where
  | p0 (a0 : (List ((ByteArray) × ((Int) × ((ByteArray) × (Unit))))) × ((List ((ByteArray) × ((Int) × ((ByteArray) × (Unit))))) × ((List (ByteArray)) × (Unit)))) (a1 : (List ((ByteArray) × ((Int) × ((ByteArray) × (Unit))))) × ((List ((ByteArray) × ((Int) × ((ByteArray) × (Unit))))) × ((List (ByteArray)) × (Unit))))
def laws_eqInhibit.lb : laws_eqInhibit.Pt → Nat
  | .p0 _ _ => 0
def laws_eqInhibit.st : laws_eqInhibit.Pt → St
  | .p0 a0 a1 => enter [.v (.pair (.sl false (.pair .str (.pair (.int .i64) (.pair .str .unit)))) (.pair (.sl false (.pair .str (.pair (.int .i64) (.pair .str .unit)))) (.pair (.sl false .str) .unit))) a0, .v (.pair (.sl false (.pair .str (.pair (.int .i64) (.pair .str .unit)))) (.pair (.sl false (.pair .str (.pair (.int .i64) (.pair .str .unit)))) (.pair (.sl false .str) .unit))) a1] 0
def laws_eqInhibit.step (n : Nat) (K : laws_eqInhibit.Pt → Option (Tup [.bool])) : laws_eqInhibit.Pt → Option (Tup [.bool])
  | .p0 a0 a1 => (laws_eqMatcherS n a0.1 a1.1).bind fun r5 => cond (!r5) (some false) ((laws_eqMatcherS n a0.2.1 a1.2.1).bind fun r6 => cond (!r6) (some false) ((laws_eqStringS n a0.2.2.1 a1.2.2.1).bind fun r7 => cond (!r7) (some false) (some true)))
def laws_eqInhibit (n : Nat) (a0 : (List ((ByteArray) × ((Int) × ((ByteArray) × (Unit))))) × ((List ((ByteArray) × ((Int) × ((ByteArray) × (Unit))))) × ((List (ByteArray)) × (Unit)))) (a1 : (List ((ByteArray) × ((Int) × ((ByteArray) × (Unit))))) × ((List ((ByteArray) × ((Int) × ((ByteArray) × (Unit))))) × ((List (ByteArray)) × (Unit)))) : Option (Tup [.bool]) := goRec laws_eqInhibit.step n (.p0 a0 a1)
def laws_eqInhibit.spec : Ctr := ⟨102, [.v (.pair (.sl false (.pair .str (.pair (.int .i64) (.pair .str .unit)))) (.pair (.sl false (.pair .str (.pair (.int .i64) (.pair .str .unit)))) (.pair (.sl false .str) .unit))), .v (.pair (.sl false (.pair .str (.pair (.int .i64) (.pair .str .unit)))) (.pair (.sl false (.pair .str (.pair (.int .i64) (.pair .str .unit)))) (.pair (.sl false .str) .unit)))], [.bool], [], fun n x => laws_eqInhibit n x.1 x.2.1⟩
theorem laws_eqInhibit.seg_eq : SegEq ty gl laws_eqInhibit.F laws_eqInhibit.md laws_eqInhibit.T laws_eqInhibit.spec laws_eqInhibit.lb laws_eqInhibit.st laws_eqInhibit.step := by
  intro n goto y; cases y <;> kernel_rfl
theorem laws_eqInhibit.text : Text Go.Proofs.Tryz.prog laws_eqInhibit.F laws_eqInhibit.spec := textOf Go.Proofs.Tryz.f102
theorem laws_eqInhibit.ok : CtrOK Go.Proofs.Tryz.prog gl laws_eqInhibit.spec :=
  ctr_okS tabs laws_eqInhibit.text laws_eqInhibit.seg_eq (fun n x => ⟨.p0 x.1 x.2.1, rfl, rfl, rfl⟩) (consC laws_eqMatcherS.ok (consC laws_eqStringS.ok (nilC)))

/-! loop.example/g00039/laws.eqInhibitS -/
def laws_eqInhibitS.T : List Ctr := [laws_eqInhibit.spec]
def laws_eqInhibitS.md : List (Nat × List Md) := []
noncomputable def laws_eqInhibitS.F : Fun := ⟨(Go.Proofs.Tryz.f50.body).getD .skip, [.v (.sl false (.pair (.sl false (.pair .str (.pair (.int .i64) (.pair .str .unit)))) (.pair (.sl false (.pair .str (.pair (.int .i64) (.pair .str .unit)))) (.pair (.sl false .str) .unit)))), .v (.sl false (.pair (.sl false (.pair .str (.pair (.int .i64) (.pair .str .unit)))) (.pair (.sl false (.pair .str (.pair (.int .i64) (.pair .str .unit)))) (.pair (.sl false .str) .unit))))], [(.tmp 4, .bool)], [], 0, [(15, ⟨[0, 1, 5], [], [], false⟩)]⟩
inductive laws_eqInhibitS.Pt where
  | p0 (a0 : List ((List ((ByteArray) × ((Int) × ((ByteArray) × (Unit))))) × ((List ((ByteArray) × ((Int) × ((ByteArray) × (Unit))))) × ((List (ByteArray)) × (Unit))))) (a1 : List ((List ((ByteArray) × ((Int) × ((ByteArray) × (Unit))))) × ((List ((ByteArray) × ((Int) × ((ByteArray) × (Unit))))) × ((List (ByteArray)) × (Unit)))))
  | p15 (y1 : List ((List ((ByteArray) × ((Int) × ((ByteArray) × (Unit))))) × ((List ((ByteArray) × ((Int) × ((ByteArray) × (Unit))))) × ((List (ByteArray)) × (Unit))))) (y2 : List ((List ((ByteArray) × ((Int) × ((ByteArray) × (Unit))))) × ((List ((ByteArray) × ((Int) × ((ByteArray) × (Unit))))) × ((List (ByteArray)) × (Unit))))) (y3 : Int)
def laws_eqInhibitS.lb : laws_eqInhibitS.Pt → Nat
  | .p0 _ _ => 0
  | .p15 _ _ _ => 15
def laws_eqInhibitS.st : laws_eqInhibitS.Pt → St
  | .p0 a0 a1 => enter [.v (.sl false (.pair (.sl false (.pair .str (.pair (.int .i64) (.pair .str .unit)))) (.pair (.sl false (.pair .str (.pair (.int .i64) (.pair .str .unit)))) (.pair (.sl false .str) .unit)))) a0, .v (.sl false (.pair (.sl false (.pair .str (.pair (.int .i64) (.pair .str .unit)))) (.pair (.sl false (.pair .str (.pair (.int .i64) (.pair .str .unit)))) (.pair (.sl false .str) .unit)))) a1] 0
  | .p15 y1 y2 y3 => ⟨[(0, .im (.sl false (.pair (.sl false (.pair .str (.pair (.int .i64) (.pair .str .unit)))) (.pair (.sl false (.pair .str (.pair (.int .i64) (.pair .str .unit)))) (.pair (.sl false .str) .unit)))) y1), (1, .im (.sl false (.pair (.sl false (.pair .str (.pair (.int .i64) (.pair .str .unit)))) (.pair (.sl false (.pair .str (.pair (.int .i64) (.pair .str .unit)))) (.pair (.sl false .str) .unit)))) y2), (5, .im (.int .i64) y3)], [], 0⟩
def laws_eqInhibitS.step (n : Nat) (K : laws_eqInhibitS.Pt → Option (Tup [.bool])) : laws_eqInhibitS.Pt → Option (Tup [.bool])
  | .p0 a0 a1 => cond (!(decide (((List.length a0) : Int) = ((List.length a1) : Int)))) (some false) (K (.p15 a0 a1 (0 : Int)))
  | .p15 y1 y2 y3 => cond (decide (y3 < ((List.length y1) : Int))) (cond (inB y3 (List.length y1)) (cond (inB y3 (List.length y2)) ((laws_eqInhibit n ((List.getD y1 (Int.toNat y3) default).1, ((List.getD y1 (Int.toNat y3) default).2.1, ((List.getD y1 (Int.toNat y3) default).2.2.1, ()))) ((List.getD y2 (Int.toNat y3) default).1, ((List.getD y2 (Int.toNat y3) default).2.1, ((List.getD y2 (Int.toNat y3) default).2.2.1, ())))).bind fun r6 => cond (!r6) (some false) (K (.p15 y1 y2 (IntKind.wrap .i64 (y3 + (1 : Int)))))) (none)) (none)) (some true)
def laws_eqInhibitS (n : Nat) (a0 : List ((List ((ByteArray) × ((Int) × ((ByteArray) × (Unit))))) × ((List ((ByteArray) × ((Int) × ((ByteArray) × (Unit))))) × ((List (ByteArray)) × (Unit))))) (a1 : List ((List ((ByteArray) × ((Int) × ((ByteArray) × (Unit))))) × ((List ((ByteArray) × ((Int) × ((ByteArray) × (Unit))))) × ((List (ByteArray)) × (Unit))))) : Option (Tup [.bool]) := goRec laws_eqInhibitS.step n (.p0 a0 a1)
def laws_eqInhibitS.spec : Ctr := ⟨50, [.v (.sl false (.pair (.sl false (.pair .str (.pair (.int .i64) (.pair .str .unit)))) (.pair (.sl false (.pair .str (.pair (.int .i64) (.pair .str .unit)))) (.pair (.sl false .str) .unit)))), .v (.sl false (.pair (.sl false (.pair .str (.pair (.int .i64) (.pair .str .unit)))) (.pair (.sl false (.pair .str (.pair (.int .i64) (.pair .str .unit)))) (.pair (.sl false .str) .unit))))], [.bool], [], fun n x => laws_eqInhibitS n x.1 x.2.1⟩
theorem laws_eqInhibitS.seg_eq : SegEq ty gl laws_eqInhibitS.F laws_eqInhibitS.md laws_eqInhibitS.T laws_eqInhibitS.spec laws_eqInhibitS.lb laws_eqInhibitS.st laws_eqInhibitS.step := by
  intro n goto y; cases y <;> kernel_rfl
theorem laws_eqInhibitS.text : Text Go.Proofs.Tryz.prog laws_eqInhibitS.F laws_eqInhibitS.spec := textOf Go.Proofs.Tryz.f50
theorem laws_eqInhibitS.ok : CtrOK Go.Proofs.Tryz.prog gl laws_eqInhibitS.spec :=
  ctr_okS tabs laws_eqInhibitS.text laws_eqInhibitS.seg_eq (fun n x => ⟨.p0 x.1 x.2.1, rfl, rfl, rfl⟩) (consC laws_eqInhibit.ok (nilC))

/-! loop.example/g00039/laws.eqNotifyConf -/
def laws_eqNotifyConf.T : List Ctr := [laws_eqRouteS.spec, laws_eqIntervalS.spec, laws_eqSilenceS.spec, laws_eqInhibitS.spec]
def laws_eqNotifyConf.md : List (Nat × List Md) := []
noncomputable def laws_eqNotifyConf.F : Fun := ⟨(Go.Proofs.Tryz.f11.body).getD .skip, [.v (.pair (.sl false (.pair .str (.pair (.sl false (.pair .str (.pair (.int .i64) (.pair .str .unit)))) (.pair (.sl false .str) (.pair (.int .i64) (.pair (.int .i64) (.pair (.int .i64) (.pair (.sl false (.int .i64)) (.pair .bool (.pair (.int .i64) .unit)))))))))) (.pair (.sl false (.pair (.int .i64) (.pair (.sl false (.pair (.int .i64) (.pair (.int .i64) .unit))) (.pair (.sl false (.pair (.int .i64) (.pair (.int .i64) .unit))) (.pair (.sl false (.pair (.int .i64) (.pair (.int .i64) .unit))) (.pair (.sl false (.pair (.int .i64) (.pair (.int .i64) .unit))) (.pair (.sl false (.pair (.int .i64) (.pair (.int .i64) .unit))) (.pair (.sl false (.int .i64)) .unit)))))))) (.pair (.sl false (.pair .str (.pair (.sl false (.pair .str (.pair (.int .i64) (.pair .str .unit)))) (.pair (.int .i64) (.pair (.int .i64) .unit))))) (.pair (.sl false (.pair (.sl false (.pair .str (.pair (.int .i64) (.pair .str .unit)))) (.pair (.sl false (.pair .str (.pair (.int .i64) (.pair .str .unit)))) (.pair (.sl false .str) .unit)))) .unit)))), .v (.pair (.sl false (.pair .str (.pair (.sl false (.pair .str (.pair (.int .i64) (.pair .str .unit)))) (.pair (.sl false .str) (.pair (.int .i64) (.pair (.int .i64) (.pair (.int .i64) (.pair (.sl false (.int .i64)) (.pair .bool (.pair (.int .i64) .unit)))))))))) (.pair (.sl false (.pair (.int .i64) (.pair (.sl false (.pair (.int .i64) (.pair (.int .i64) .unit))) (.pair (.sl false (.pair (.int .i64) (.pair (.int .i64) .unit))) (.pair (.sl false (.pair (.int .i64) (.pair (.int .i64) .unit))) (.pair (.sl false (.pair (.int .i64) (.pair (.int .i64) .unit))) (.pair (.sl false (.pair (.int .i64) (.pair (.int .i64) .unit))) (.pair (.sl false (.int .i64)) .unit)))))))) (.pair (.sl false (.pair .str (.pair (.sl false (.pair .str (.pair (.int .i64) (.pair .str .unit)))) (.pair (.int .i64) (.pair (.int .i64) .unit))))) (.pair (.sl false (.pair (.sl false (.pair .str (.pair (.int .i64) (.pair .str .unit)))) (.pair (.sl false (.pair .str (.pair (.int .i64) (.pair .str .unit)))) (.pair (.sl false .str) .unit)))) .unit))))], [(.tmp 4, .bool)], [], 0, []⟩
inductive laws_eqNotifyConf.Pt where
  | p0 (a0 : (List ((ByteArray) × ((List ((ByteArray) × ((Int) × ((ByteArray) × (Unit))))) × ((List (ByteArray)) × ((Int) × ((Int) × ((Int) × ((List (Int)) × ((Bool) × ((Int) × (Unit))))))))))) × ((List ((Int) × ((List ((Int) × ((Int) × (Unit)))) × ((List ((Int) × ((Int) × (Unit)))) × ((List ((Int) × ((Int) × (Unit)))) × ((List ((Int) × ((Int) × (Unit)))) × ((List ((Int) × ((Int) × (Unit)))) × ((List (Int)) × (Unit))))))))) × ((List ((ByteArray) × ((List ((ByteArray) × ((Int) × ((ByteArray) × (Unit))))) × ((Int) × ((Int) × (Unit)))))) × ((List ((List ((ByteArray) × ((Int) × ((ByteArray) × (Unit))))) × ((List ((ByteArray) × ((Int) × ((ByteArray) × (Unit))))) × ((List (ByteArray)) × (Unit))))) × (Unit))))) (a1 : (List ((ByteArray) × ((List ((ByteArray) × ((Int) × ((ByteArray) × (Unit))))) × ((List (ByteArray)) × ((Int) × ((Int) × ((Int) × ((List (Int)) × ((Bool) × ((Int) × (Unit))))))))))) × ((List ((Int) × ((List ((Int) × ((Int) × (Unit)))) × ((List ((Int) × ((Int) × (Unit)))) × ((List ((Int) × ((Int) × (Unit)))) × ((List ((Int) × ((Int) × (Unit)))) × ((List ((Int) × ((Int) × (Unit)))) × ((List (Int)) × (Unit))))))))) × ((List ((ByteArray) × ((List ((ByteArray) × ((Int) × ((ByteArray) × (Unit))))) × ((Int) × ((Int) × (Unit)))))) × ((List ((List ((ByteArray) × ((Int) × ((ByteArray) × (Unit))))) × ((List ((ByteArray) × ((Int) × ((ByteArray) × (Unit))))) × ((List (ByteArray)) × (Unit))))) × (Unit)))))
def laws_eqNotifyConf.lb : laws_eqNotifyConf.Pt → Nat
  | .p0 _ _ => 0
def laws_eqNotifyConf.st : laws_eqNotifyConf.Pt → St
  | .p0 a0 a1 => enter [.v (.pair (.sl false (.pair .str (.pair (.sl false (.pair .str (.pair (.int .i64) (.pair .str .unit)))) (.pair (.sl false .str) (.pair (.int .i64) (.pair (.int .i64) (.pair (.int .i64) (.pair (.sl false (.int .i64)) (.pair .bool (.pair (.int .i64) .unit)))))))))) (.pair (.sl false (.pair (.int .i64) (.pair (.sl false (.pair (.int .i64) (.pair (.int .i64) .unit))) (.pair (.sl false (.pair (.int .i64) (.pair (.int .i64) .unit))) (.pair (.sl false (.pair (.int .i64) (.pair (.int .i64) .unit))) (.pair (.sl false (.pair (.int .i64) (.pair (.int .i64) .unit))) (.pair (.sl false (.pair (.int .i64) (.pair (.int .i64) .unit))) (.pair (.sl false (.int .i64)) .unit)))))))) (.pair (.sl false (.pair .str (.pair (.sl false (.pair .str (.pair (.int .i64) (.pair .str .unit)))) (.pair (.int .i64) (.pair (.int .i64) .unit))))) (.pair (.sl false (.pair (.sl false (.pair .str (.pair (.int .i64) (.pair .str .unit)))) (.pair (.sl false (.pair .str (.pair (.int .i64) (.pair .str .unit)))) (.pair (.sl false .str) .unit)))) .unit)))) a0, .v (.pair (.sl false (.pair .str (.pair (.sl false (.pair .str (.pair (.int .i64) (.pair .str .unit)))) (.pair (.sl false .str) (.pair (.int .i64) (.pair (.int .i64) (.pair (.int .i64) (.pair (.sl false (.int .i64)) (.pair .bool (.pair (.int .i64) .unit)))))))))) (.pair (.sl false (.pair (.int .i64) (.pair (.sl false (.pair (.int .i64) (.pair (.int .i64) .unit))) (.pair (.sl false (.pair (.int .i64) (.pair (.int .i64) .unit))) (.pair (.sl false (.pair (.int .i64) (.pair (.int .i64) .unit))) (.pair (.sl false (.pair (.int .i64) (.pair (.int .i64) .unit))) (.pair (.sl false (.pair (.int .i64) (.pair (.int .i64) .unit))) (.pair (.sl false (.int .i64)) .unit)))))))) (.pair (.sl false (.pair .str (.pair (.sl false (.pair .str (.pair (.int .i64) (.pair .str .unit)))) (.pair (.int .i64) (.pair (.int .i64) .unit))))) (.pair (.sl false (.pair (.sl false (.pair .str (.pair (.int .i64) (.pair .str .unit)))) (.pair (.sl false (.pair .str (.pair (.int .i64) (.pair .str .unit)))) (.pair (.sl false .str) .unit)))) .unit)))) a1] 0
def laws_eqNotifyConf.step (n : Nat) (K : laws_eqNotifyConf.Pt → Option (Tup [.bool])) : laws_eqNotifyConf.Pt → Option (Tup [.bool])
  | .p0 a0 a1 => (laws_eqRouteS n a0.1 a1.1).bind fun r5 => cond (!r5) (some false) ((laws_eqIntervalS n a0.2.1 a1.2.1).bind fun r6 => cond (!r6) (some false) ((laws_eqSilenceS n a0.2.2.1 a1.2.2.1).bind fun r7 => cond (!r7) (some false) ((laws_eqInhibitS n a0.2.2.2.1 a1.2.2.2.1).bind fun r8 => cond (!r8) (some false) (some true))))
def laws_eqNotifyConf (n : Nat) (a0 : (List ((ByteArray) × ((List ((ByteArray) × ((Int) × ((ByteArray) × (Unit))))) × ((List (ByteArray)) × ((Int) × ((Int) × ((Int) × ((List (Int)) × ((Bool) × ((Int) × (Unit))))))))))) × ((List ((Int) × ((List ((Int) × ((Int) × (Unit)))) × ((List ((Int) × ((Int) × (Unit)))) × ((List ((Int) × ((Int) × (Unit)))) × ((List ((Int) × ((Int) × (Unit)))) × ((List ((Int) × ((Int) × (Unit)))) × ((List (Int)) × (Unit))))))))) × ((List ((ByteArray) × ((List ((ByteArray) × ((Int) × ((ByteArray) × (Unit))))) × ((Int) × ((Int) × (Unit)))))) × ((List ((List ((ByteArray) × ((Int) × ((ByteArray) × (Unit))))) × ((List ((ByteArray) × ((Int) × ((ByteArray) × (Unit))))) × ((List (ByteArray)) × (Unit))))) × (Unit))))) (a1 : (List ((ByteArray) × ((List ((ByteArray) × ((Int) × ((ByteArray) × (Unit))))) × ((List (ByteArray)) × ((Int) × ((Int) × ((Int) × ((List (Int)) × ((Bool) × ((Int) × (Unit))))))))))) × ((List ((Int) × ((List ((Int) × ((Int) × (Unit)))) × ((List ((Int) × ((Int) × (Unit)))) × ((List ((Int) × ((Int) × (Unit)))) × ((List ((Int) × ((Int) × (Unit)))) × ((List ((Int) × ((Int) × (Unit)))) × ((List (Int)) × (Unit))))))))) × ((List ((ByteArray) × ((List ((ByteArray) × ((Int) × ((ByteArray) × (Unit))))) × ((Int) × ((Int) × (Unit)))))) × ((List ((List ((ByteArray) × ((Int) × ((ByteArray) × (Unit))))) × ((List ((ByteArray) × ((Int) × ((ByteArray) × (Unit))))) × ((List (ByteArray)) × (Unit))))) × (Unit))))) : Option (Tup [.bool]) := goRec laws_eqNotifyConf.step n (.p0 a0 a1)
def laws_eqNotifyConf.spec : Ctr := ⟨11, [.v (.pair (.sl false (.pair .str (.pair (.sl false (.pair .str (.pair (.int .i64) (.pair .str .unit)))) (.pair (.sl false .str) (.pair (.int .i64) (.pair (.int .i64) (.pair (.int .i64) (.pair (.sl false (.int .i64)) (.pair .bool (.pair (.int .i64) .unit)))))))))) (.pair (.sl false (.pair (.int .i64) (.pair (.sl false (.pair (.int .i64) (.pair (.int .i64) .unit))) (.pair (.sl false (.pair (.int .i64) (.pair (.int .i64) .unit))) (.pair (.sl false (.pair (.int .i64) (.pair (.int .i64) .unit))) (.pair (.sl false (.pair (.int .i64) (.pair (.int .i64) .unit))) (.pair (.sl false (.pair (.int .i64) (.pair (.int .i64) .unit))) (.pair (.sl false (.int .i64)) .unit)))))))) (.pair (.sl false (.pair .str (.pair (.sl false (.pair .str (.pair (.int .i64) (.pair .str .unit)))) (.pair (.int .i64) (.pair (.int .i64) .unit))))) (.pair (.sl false (.pair (.sl false (.pair .str (.pair (.int .i64) (.pair .str .unit)))) (.pair (.sl false (.pair .str (.pair (.int .i64) (.pair .str .unit)))) (.pair (.sl false .str) .unit)))) .unit)))), .v (.pair (.sl false (.pair .str (.pair (.sl false (.pair .str (.pair (.int .i64) (.pair .str .unit)))) (.pair (.sl false .str) (.pair (.int .i64) (.pair (.int .i64) (.pair (.int .i64) (.pair (.sl false (.int .i64)) (.pair .bool (.pair (.int .i64) .unit)))))))))) (.pair (.sl false (.pair (.int .i64) (.pair (.sl false (.pair (.int .i64) (.pair (.int .i64) .unit))) (.pair (.sl false (.pair (.int .i64) (.pair (.int .i64) .unit))) (.pair (.sl false (.pair (.int .i64) (.pair (.int .i64) .unit))) (.pair (.sl false (.pair (.int .i64) (.pair (.int .i64) .unit))) (.pair (.sl false (.pair (.int .i64) (.pair (.int .i64) .unit))) (.pair (.sl false (.int .i64)) .unit)))))))) (.pair (.sl false (.pair .str (.pair (.sl false (.pair .str (.pair (.int .i64) (.pair .str .unit)))) (.pair (.int .i64) (.pair (.int .i64) .unit))))) (.pair (.sl false (.pair (.sl false (.pair .str (.pair (.int .i64) (.pair .str .unit)))) (.pair (.sl false (.pair .str (.pair (.int .i64) (.pair .str .unit)))) (.pair (.sl false .str) .unit)))) .unit))))], [.bool], [], fun n x => laws_eqNotifyConf n x.1 x.2.1⟩
theorem laws_eqNotifyConf.seg_eq : SegEq ty gl laws_eqNotifyConf.F laws_eqNotifyConf.md laws_eqNotifyConf.T laws_eqNotifyConf.spec laws_eqNotifyConf.lb laws_eqNotifyConf.st laws_eqNotifyConf.step := by
  intro n goto y; cases y <;> kernel_rfl
theorem laws_eqNotifyConf.text : Text Go.Proofs.Tryz.prog laws_eqNotifyConf.F laws_eqNotifyConf.spec := textOf Go.Proofs.Tryz.f11
theorem laws_eqNotifyConf.ok : CtrOK Go.Proofs.Tryz.prog gl laws_eqNotifyConf.spec :=
  ctr_okS tabs laws_eqNotifyConf.text laws_eqNotifyConf.seg_eq (fun n x => ⟨.p0 x.1 x.2.1, rfl, rfl, rfl⟩) (consC laws_eqRouteS.ok (consC laws_eqIntervalS.ok (consC laws_eqSilenceS.ok (consC laws_eqInhibitS.ok (nilC)))))

end Go.NU
