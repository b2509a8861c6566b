/- The machine over typed values, part 4. -/
import Derived.Shelf.Spec.SlicesInsertGrow
import Derived.Test.YtcfcnnamjfgahabV1
import Derived.Test.YtcfcnnamjfgahabV2
import Derived.Test.YtcfcnnamjfgahabV3
set_option linter.unusedSimpArgs false
set_option linter.unusedVariables false
set_option linter.unusedSectionVars false
namespace Go.VM
open Go.RowKit
variable [β : Bor]
theorem run_copy_put {P : Program} {W : World} {t e ty : TypeId} {i : TypeInfo} (ht : P.underlying t = some (.slice e)) (hi : P.info? e = some i) {g : Nat} {cc : Array Value} {ct : TypeId} {fz : Nat × Nat} {o dLen dCap : Nat} {a : Addr} {sLen sCap k : Nat} {cs : List Value}
    (hk : Nat.min sLen dLen = k) (hl : cs.length = k * i.size) (hh : W.heap[g]? = some (.cells cc ct fz)) (hsrc : ∀ j v, cs[j]? = some v → W.cell? (a.add j) = some v) (h1 : ∀ v ∈ cs, v.oneCell' = true) (hf : ∀ j, j < cc.size → ¬ (fz.1 ≤ j ∧ j < fz.2)) (hfit : o + cs.length ≤ cc.size) :
    (Builtin.copy_ #[t, t] ty #[.slice (some ⟨g, o, none⟩) dLen dCap, .slice (some a) sLen sCap]).run P W = .ok (goInt k) (putB W g (.cells (splice cc.toList o cs).toArray ct fz)) := by
  have hfc := run_firstCells_some (P := P) W i.size k a sLen sCap cs hl hsrc
  have hst := run_storeCells (P := P) (b := g) (t := ct) (fz := fz) (off := o) cs 0 cc W hh (by omega) h1 hf
  rw [Nat.add_zero] at hst
  simp [Builtin.copy_, run_underlying ht, run_sizeOf hi, Builtin.lenOf, hk, hfc, hst]
theorem splice_shift {m q X : List Value} {k z : Nat} (hk : k ≤ m.length) (hX : X.length = z) (hq : z ≤ q.length) :
    splice (splice (m ++ q) (k + z) (m.drop k)) k X = (m.take k ++ X ++ m.drop k) ++ q.drop z := by
  subst hX
  have h1 : splice (m ++ q) (k + X.length) (m.drop k) = (m ++ q).take (k + X.length) ++ m.drop k ++ q.drop X.length := by
    simp only [splice]
    congr 1
    rw [List.length_drop, show k + X.length + (m.length - k) = m.length + X.length by omega, List.drop_append, List.drop_eq_nil_of_le (by omega)]
    simp
  have hl : ((m ++ q).take (k + X.length)).length = k + X.length := by rw [List.length_take, List.length_append]; omega
  rw [h1]
  simp only [splice, List.append_assoc]
  congr 1
  · rw [List.take_append_of_le_length (by omega), List.take_take, Nat.min_eq_left (by omega), List.take_append_of_le_length hk]
  · congr 1
    rw [List.drop_append, List.drop_eq_nil_of_le (by omega), hl]
    simp
theorem splice_fill {A Z X D : List Value} {k : Nat} (hk : k = A.length) (hZ : X.length + D.length ≤ Z.length) : splice (splice (A ++ Z) k X) (k + X.length) D = (A ++ X ++ D) ++ Z.drop (X.length + D.length) := by
  subst hk
  have h1 : splice (A ++ Z) A.length X = (A ++ X) ++ Z.drop X.length := by
    simp only [splice]
    rw [List.take_left, List.drop_append, List.drop_eq_nil_of_le (by omega)]
    simp
  rw [h1, show A.length + X.length = (A ++ X).length by rw [List.length_append]]
  simp only [splice]
  rw [List.take_left, List.drop_append, List.drop_eq_nil_of_le (by omega)]
  simp
theorem splice_end {m q X : List Value} {k : Nat} (hk : k = m.length) (hq : X.length ≤ q.length) : splice (m ++ q) k X = (m.take k ++ X ++ m.drop k) ++ q.drop X.length := by
  subst hk
  rw [take_app rfl hq, List.take_of_length_le (Nat.le_refl _), List.drop_eq_nil_of_le (Nat.le_refl _), List.append_nil]
def insL {α : Type} (l : List α) (i : Nat) (x : α) : List α := l.take i ++ x :: l.drop i
theorem insL_len {α : Type} {l : List α} {i : Nat} {x : α} (h : i ≤ l.length) : (insL l i x).length = l.length + 1 := by
  simp only [insL, List.length_append, List.length_take, List.length_cons, List.length_drop]; omega
section
theorem insL_rep {w : World} {u : U} {l : List u.El} {x : u.El} {m X : List Value} {G GX : List Nat} {i : Nat} (hi : i ≤ l.length) (hm : RepL (Rep w true u) l m G) (hx : Rep w true u x X GX) :
    ∃ G1 G2, G = G1 ++ G2 ∧ RepL (Rep w true u) (insL l i x) (m.take (i * u.sz) ++ X ++ m.drop (i * u.sz)) (G1 ++ (GX ++ G2)) := by
  rw [← List.take_append_drop i l] at hm
  obtain ⟨c, d, G1, G2, rfl, rfl, h1, h2⟩ := RepL.of_append hm
  have hc : c.length = i * u.sz := by
    have := RepL.length (fun _ _ _ => Rep.length) h1
    rwa [List.length_take, Nat.min_eq_left hi] at this
  refine ⟨G1, G2, rfl, ?_⟩
  rw [← hc, List.take_left, List.drop_left, List.append_assoc]
  exact RepL.append h1 ⟨X, d, GX, G2, rfl, rfl, hx, h2⟩
/-- what comes back -/
def InsFin (w w' : World) (u : U) (l' : List u.El) (v' : Value) (L : List Nat) : Prop :=
  ∃ F, SlRep w' true false u.sz (Rep w' true u) l' v' F ∧ F.Nodup ∧ (∀ b ∈ F, b < w'.heap.size ∧ (b < w.heap.size → b ∈ L)) ∧ w'.os = w.os ∧ w'.tape = w.tape ∧ w'.output = w.output ∧ w.heap.size ≤ w'.heap.size ∧ ∀ b, b < w.heap.size → b ∉ L → w'.heap[b]? = w.heap[b]?
theorem ins_row {w w' : World} {u : U} {l : List u.El} {x : u.El} {i g cap : Nat} {cc' : Array Value} {t : TypeId} {fz : Nat × Nat} {m q' X : List Value} {G GX L : List Nat}
    (hi : i ≤ l.length) (hcap : l.length + 1 ≤ cap) (hh' : w'.heap[g]? = some (.cells cc' t fz)) (hc' : cc'.toList = (m.take (i * u.sz) ++ X ++ m.drop (i * u.sz)) ++ q') (hm : RepL (Rep w true u) l m G) (hx : Rep w true u x X GX)
    (hf : ∀ j, j < cc'.size + (u.sz - 1) → ¬ (fz.1 ≤ j ∧ j < fz.2)) (hcs : cc'.size = cap * u.sz) (hcm : cap ≤ maxLen)
    (hgL : g < w.heap.size → g ∈ L) (hGL : ∀ b ∈ G ++ GX, b ∈ L) (hng : g ∉ G ++ GX) (hnd : (G ++ GX).Nodup)
    (hfr : ∀ k, k < w.heap.size → k ≠ g → w'.heap[k]? = w.heap[k]?) (hsz : w.heap.size ≤ w'.heap.size) (h1 : w'.os = w.os) (h2 : w'.tape = w.tape) (h3 : w'.output = w.output) :
    InsFin w w' u (insL l i x) (.slice (some ⟨g, 0, none⟩) (l.length + 1) cap) L := by
  have hlt : ∀ b ∈ G ++ GX, b < w.heap.size := fun b hb => by
    rcases List.mem_append.1 hb with hb | hb
    · exact RepL.block_lt (fun h => Rep.block_lt h) hm b hb
    · exact Rep.block_lt hx b hb
  have hm' : RepL (Rep w' true u) l m G := RepL.imp (fun _ _ _ hG => Rep.frame (fun k hk => hfr k (hlt k (List.mem_append.2 (.inl (hG k hk)))) (fun e => hng (e ▸ List.mem_append.2 (.inl (hG k hk)))))) hm
  have hx' : Rep w' true u x X GX := Rep.frame (fun k hk => hfr k (hlt k (List.mem_append.2 (.inr hk))) (fun e => hng (e ▸ List.mem_append.2 (.inr hk)))) hx
  obtain ⟨G1, G2, rfl, hr⟩ := insL_rep hi hm' hx'
  have hp : List.Perm (G1 ++ (GX ++ G2)) ((G1 ++ G2) ++ GX) := by
    rw [List.append_assoc]
    exact List.Perm.append_left _ List.perm_append_comm
  refine ⟨g :: (G1 ++ (GX ++ G2)), .inr ⟨⟨g, 0, none⟩, cap, cc', t, fz, [], _, q', _, by rw [insL_len hi], rfl, (fun h => by cases h), by rw [insL_len hi]; exact hcap, hh', by rw [hc']; rfl, rfl, hr, rfl, fun _ => ⟨rfl, hf, hcs, hcm⟩⟩, ?_, ?_, h1, h2, h3, hsz, ?_⟩
  · exact List.nodup_cons.2 ⟨fun h => hng (hp.mem_iff.1 h), hp.nodup_iff.2 hnd⟩
  · intro b hb
    rcases List.mem_cons.1 hb with rfl | hb
    · exact ⟨lt_of_heap hh', hgL⟩
    · have hb' := hp.mem_iff.1 hb
      exact ⟨Nat.lt_of_lt_of_le (hlt b hb') hsz, fun _ => hGL b hb'⟩
  · intro b hb hL
    exact hfr b hb (fun e => hL (e ▸ hgL (e ▸ hb)))
end
end Go.VM

