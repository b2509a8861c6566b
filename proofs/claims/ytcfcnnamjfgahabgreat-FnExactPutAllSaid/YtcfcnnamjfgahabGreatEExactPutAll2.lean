/- What these functions come to, part 2. -/
import Derived.Test.YtcfcnnamjfgahabGreatV1
import Derived.Test.YtcfcnnamjfgahabGreatV2
import Derived.Test.YtcfcnnamjfgahabGreatV3
import Derived.Test.YtcfcnnamjfgahabGreatV4
import Derived.Test.YtcfcnnamjfgahabGreatFExactPutAll1
import Derived.Test.YtcfcnnamjfgahabGreatFExactPutAll2
import Derived.Test.YtcfcnnamjfgahabGreatEExactPutAll1
open Go Go.VM
set_option maxRecDepth 100000
namespace Go.PA
theorem laws_markPutS.loop (l : List ((List ((ByteArray) × ((ByteArray) × (Unit)))) × ((Int) × ((Int) × (Unit))))) (h : Sm 1048576 (.sl false (.pair (.sl false (.pair .str (.pair .str .unit))) (.pair (.int .i64) (.pair (.int .i64) .unit)))) l) : ∀ d i (k : Nat) (m : List ((List ((ByteArray) × ((ByteArray) × (Unit)))) × ((Int) × ((Int) × (Unit))))), i + d = l.length → m.length = l.length → (∀ j, i ≤ j → j < l.length → m.getD j default = l.getD j default) → k + d * 2097154 ≤ 1152921504606846976 →
    EvP (fun n => goRec laws_markPutS.step n (laws_markPutS.Pt.p7 (k : Int) (i : Int) m)) (fun r => ∃ k2 : Nat, r.1 = (k2 : Int) ∧ k ≤ k2 ∧ k2 ≤ k + d * 2097154 ∧ r.2.length = l.length) := by
  have hl : l.length ≤ 1048576 := h.1
  intro d
  induction d with
  | zero =>
    intro i k m hd h1 h2 hb
    refine EvP.step ?_
    simp only [laws_markPutS.step]
    exact EvP.no (by simp; omega) (EvP.pure ⟨k, rfl, by omega, by omega, h1⟩)
  | succ d ih =>
    intro i k m hd h1 h2 hb
    have hi : i < m.length := by omega
    have hx := h.2 _ (getD_mem (d := default) (show i < l.length by omega))
    refine EvP.step ?_
    simp only [laws_markPutS.step, toNat_cast, Nat.zero_add, List.length_set, getD_set_same hi, List.set_set, i64_nat (show i ≤ 4611686018427387904 by omega), i64_nat (show k ≤ 4611686018427387904 by omega), i64_nat (show k + 1 ≤ 4611686018427387904 by omega), i64_nat (show k + 1 + 1 ≤ 4611686018427387904 by omega), i64_nat (show k + 1 + 1 + 1 ≤ 4611686018427387904 by omega)]
    rw [h2 i (Nat.le_refl _) (by omega)]
    refine EvP.yes (lt_yes hi) ?_
    refine EvP.yes (inB_nat hi) ?_
    refine EvP.bindP (laws_markLabelS.ev (l.getD i default).1 (k) hx.1 (by omega)) ?_
    intro r1 hr1
    obtain ⟨k1, e1, n1', n1, _⟩ := hr1
    rw [e1]
    try simp only [i64_nat (show k1 ≤ 4611686018427387904 by omega), i64_nat (show k1 + 1 ≤ 4611686018427387904 by omega), i64_nat (show k1 + 1 + 1 ≤ 4611686018427387904 by omega), i64_nat (show k1 + 1 + 1 + 1 ≤ 4611686018427387904 by omega)]
    refine EvP.yes (inB_nat hi) ?_
    refine EvP.yes (inB_nat hi) ?_
    refine (ih (i + 1) (k1 + 1 + 1) _ (by omega) (by simpa using h1) (fun j hj1 hj2 => ?_) (by omega)).imp fun r hr => ?_
    · rw [getD_set_other (by omega)]; exact h2 j (by omega) hj2
    · obtain ⟨k9, e9, m9, n9, o9⟩ := hr
      exact ⟨k9, e9, by omega, by omega, o9⟩
theorem laws_markPutS.ev (l : List ((List ((ByteArray) × ((ByteArray) × (Unit)))) × ((Int) × ((Int) × (Unit))))) (k : Nat) (h : Sm 1048576 (.sl false (.pair (.sl false (.pair .str (.pair .str .unit))) (.pair (.int .i64) (.pair (.int .i64) .unit)))) l) (hk : k + 2199025352704 ≤ 1152921504606846976) : EvP (fun n => laws_markPutS n l (k : Int)) (fun r => ∃ k2 : Nat, r.1 = (k2 : Int) ∧ k ≤ k2 ∧ k2 ≤ k + 2199025352704 ∧ r.2.length = l.length) := by
  have hl : l.length ≤ 1048576 := h.1
  refine EvP.step ?_
  simp only [laws_markPutS.step]
  refine (laws_markPutS.loop l h l.length 0 k l (by omega) rfl (fun _ _ _ => rfl) (by omega)).imp fun r hr => ?_
  obtain ⟨k9, e9, m9, n9, o9⟩ := hr
  exact ⟨k9, e9, m9, by omega, o9⟩
theorem laws_markIntS.loop (l : List Int) (k : Nat) (hl : l.length ≤ 1048576) (hk : k ≤ 1152921504606846976) : ∀ d i (m : List Int), i + d = l.length → m.length = l.length → (∀ j, j < i → m.getD j default = ((k + j : Nat) : Int)) →
    EvP (fun n => goRec laws_markIntS.step n (laws_markIntS.Pt.p7 ((k + i : Nat) : Int) (i : Int) m)) (fun r => r.1 = ((k + l.length : Nat) : Int) ∧ r.2.length = l.length ∧ ∀ j, j < l.length → r.2.getD j default = ((k + j : Nat) : Int)) := by
  intro d
  induction d with
  | zero =>
    intro i m h h1 h2
    obtain rfl : i = l.length := by omega
    refine EvP.step ?_
    simp only [laws_markIntS.step]
    exact EvP.no (by simp; omega) (EvP.pure ⟨rfl, h1, h2⟩)
  | succ d ih =>
    intro i m h h1 h2
    have hi : i < m.length := by omega
    refine EvP.step ?_
    simp only [laws_markIntS.step, toNat_cast, Nat.zero_add, i64_nat (show i ≤ 4611686018427387904 by omega), i64_nat (show k + i ≤ 4611686018427387904 by omega)]
    refine EvP.yes (lt_yes hi) (EvP.yes (inB_nat hi) ?_)
    refine ih (i + 1) _ (by omega) (by simpa using h1) fun j hj => ?_
    by_cases e : j = i
    · subst e; rw [getD_set_same hi]
    · rw [getD_set_other e]; exact h2 j (by omega)
theorem laws_markIntS.ev (l : List Int) (k : Nat) (hl : l.length ≤ 1048576) (hk : k ≤ 1152921504606846976) : EvP (fun n => laws_markIntS n l (k : Int)) (fun r => r.1 = ((k + l.length : Nat) : Int) ∧ r.2.length = l.length ∧ ∀ j, j < l.length → r.2.getD j default = ((k + j : Nat) : Int)) := by
  refine EvP.step ?_
  simp only [laws_markIntS.step]
  exact laws_markIntS.loop l k hl hk l.length 0 l (by omega) rfl (fun j hj => by omega)
theorem laws_heldHead.ev (a b c : Int) (l m : List SRE) (h : SerSm l) (hl : m.length = l.length) (hm : ∀ j, j < l.length → serMark (kAt 1 l j) (l.getD j default) (m.getD j default)) : Ev (fun n => laws_heldHead n (a, b, c, m, ()) (1 : Int)) ((kAt 1 l l.length : Nat) : Int) := by
  refine Ev.step ?_
  simp only [laws_heldHead.step]
  exact Ev.bind (laws_heldSeriesS.ev l m h hl hm) (Ev.no not_neg Ev.pure)
theorem laws_heldIntS.loop (l : List Int) (k : Nat) (hl : l.length ≤ 1048576) (hk : k ≤ 1152921504606846976) (hm : ∀ j, j < l.length → l.getD j default = ((k + j : Nat) : Int)) : ∀ d i, i + d = l.length → Ev (fun n => goRec laws_heldIntS.step n (laws_heldIntS.Pt.p7 l ((k + i : Nat) : Int) (i : Int))) ((k + l.length : Nat) : Int) := by
  intro d
  induction d with
  | zero =>
    intro i h
    obtain rfl : i = l.length := by omega
    refine Ev.step ?_
    simp only [laws_heldIntS.step]
    exact Ev.no lt_no Ev.pure
  | succ d ih =>
    intro i h
    have hi : i < l.length := by omega
    refine Ev.step ?_
    simp only [laws_heldIntS.step, toNat_cast, i64_nat (show i ≤ 4611686018427387904 by omega), i64_nat (show k + i ≤ 4611686018427387904 by omega), hm i hi]
    refine Ev.yes (lt_yes hi) (Ev.yes (inB_nat hi) ?_)
    exact Ev.no (by simp) (ih (i + 1) (by omega))
theorem laws_heldIntS.ev (l : List Int) (k : Nat) (hl : l.length ≤ 1048576) (hk : k ≤ 1152921504606846976) (hm : ∀ j, j < l.length → l.getD j default = ((k + j : Nat) : Int)) : Ev (fun n => laws_heldIntS n l (k : Int)) ((k + l.length : Nat) : Int) := by
  refine Ev.step ?_
  simp only [laws_heldIntS.step]
  exact laws_heldIntS.loop l k hl hk hm l.length 0 (by omega)
theorem hd_sm {lim : Int} {l : List SRE} (h : HdOK lim l) : SerSm l ∧ Sm 1048576 (.sl false SRU) l := by
  obtain ⟨a1, a2, a3, a4⟩ := h
  refine ⟨⟨by omega, fun j hj => ?_⟩, ⟨by omega, fun s hs => ?_⟩⟩
  · have := a4 _ (getD_mem hj (d := default))
    exact ⟨this.2.2.1, this.2.1⟩
  · have := a4 s hs
    exact ⟨this.2.2.2, ⟨Nat.le_trans this.2.1 (by decide), fun _ _ => ⟨trivial, trivial, trivial⟩⟩, trivial⟩
theorem putsV_sm {h : HDE} {ps : List PTE} (hb : Sm 1048576 (.sl false SRU) h.2.2.2.1) (hp : Sm 1048576 (.sl false PTU) ps) : (SerSm (putsV h ps).1.2.2.2.1 ∧ Sm 1048576 (.sl false SRU) (putsV h ps).1.2.2.2.1) ∧ (putsV h ps).2.length ≤ 500 := by
  rw [putsV]
  split
  · rename_i c
    have := putN_ok (w := h.1) (nw := h.2.2.1) (out := []) (head_ok c.1 hb) fun p hp' => (hp.2 p hp').1
    exact ⟨hd_sm this.2, by rw [this.1]; simpa using c.2⟩
  · exact ⟨⟨⟨Nat.zero_le _, fun j hj => absurd hj (Nat.not_lt_zero _)⟩, ⟨Nat.zero_le _, fun _ hx => by cases hx⟩⟩, Nat.zero_le _⟩
theorem laws_FnExactPutAll.ev (h : HDE) (ps : List PTE) (hw : Wf HDU h) (hn : Wf (.sl false PTU) ps) : Ev (fun n => laws_FnExactPutAll n h ps) true := by
  obtain ⟨w, lim, nw, l, _⟩ := h
  refine Ev.step ?_
  simp only [laws_FnExactPutAll.step]
  obtain ⟨q0, g0, i0, s0⟩ := laws_szHead.ev (w, lim, nw, l, ()) 1048576 (by omega) (by omega) hw
  refine Ev.bind g0 (Ev.cnd (fun _ => Ev.pure) fun c0 => ?_)
  have b0 : 0 ≤ q0 := by simpa using c0
  have t0 := s0 b0
  obtain ⟨q1, g1, i1, s1⟩ := laws_szPutS.ev ps q0 b0 i0 hn
  refine Ev.bind g1 (Ev.cnd (fun _ => Ev.pure) fun c1 => ?_)
  have b1 : 0 ≤ q1 := by simpa using c1
  have t1 := s1 b1
  have hb : Sm 1048576 (.sl false SRU) l := t0.2.2.2.1
  have to0 := laws_toHead.ev (w, lim, nw, l, ()) t0
  have to1 := laws_toPutS.ev ps t1
  have sp := spec_PutAll.ev (w, lim, nw, l, ()) ps hb t1
  have im := impl_PutAll.ev (w, lim, nw, l, ()) ps hb t1
  obtain ⟨⟨hF, tF⟩, hc⟩ := putsV_sm (h := (w, lim, nw, l, ())) (ps := ps) hb t1
  have e0 := laws_eqHead.ev (w, lim, nw, l, ()) (w, lim, nw, l, ()) t0 t0
  have e1 := laws_eqPutS.ev ps ps t1 t1
  generalize putsV (w, lim, nw, l, ()) ps = R at sp im hF tF hc
  obtain ⟨⟨W, L, N, S, _⟩, C⟩ := R
  have hF : SerSm S := hF
  have tF : Sm 1048576 (.sl false SRU) S := tF
  have hc : C.length ≤ 500 := hc
  have eH := laws_eqHead.ev (W, L, N, S, ()) (W, L, N, S, ()) ⟨trivial, trivial, trivial, tF, trivial⟩ ⟨trivial, trivial, trivial, tF, trivial⟩
  have sC : Sm 1048576 (.sl false (.int .i64)) C := ⟨Nat.le_trans hc (by decide), fun _ _ => trivial⟩
  have eC := laws_eqIntS.ev C C sC sC
  refine Ev.bind to0 (Ev.bind to1 (Ev.bind sp (Ev.bind to0 (Ev.bind to1 (Ev.bind im (Ev.bind eH (Ev.no (by simp [eqB]) (Ev.bind eC ?_))))))))
  rw [show (!eqB C C) = false by simp [eqB]]
  refine Ev.step ?_
  simp only [laws_FnExactPutAll.step]
  refine Ev.no rfl (Ev.bind to0 (Ev.bind e0 (Ev.no (by simp [eqB]) (Ev.bind to1 (Ev.bind e1 (Ev.no (by simp [eqB]) (Ev.bindP (laws_markHead.evN w lim nw l hb) ?_)))))))
  rintro r ⟨k, e, k1⟩
  rw [e]
  refine Ev.bindP (laws_markPutS.ev ps k t1 k1) ?_
  rintro r' ⟨k', e', k1', k2', _⟩
  rw [e']
  refine Ev.no not_neg (Ev.bind eH (Ev.no (by simp [eqB]) (Ev.bind eC ?_)))
  rw [show (!eqB C C) = false by simp [eqB]]
  refine Ev.step ?_
  simp only [laws_FnExactPutAll.step]
  refine Ev.no rfl (Ev.bindP (laws_markHead.vals W L N S hF) ?_)
  rintro r3 ⟨e3, l3, m3⟩
  have hk : kAt 1 S S.length ≤ 1 + 5000 * 200 := by have := kAt_le (k := 1) hF S.length (Nat.le_refl _); have := hF.1; omega
  rw [e3]
  refine Ev.bindP (laws_markIntS.ev C (kAt 1 S S.length) (by omega) (by omega)) ?_
  rintro r4 ⟨e4, l4, m4⟩
  have held := laws_heldHead.ev W L N S r3.2 hF l3 m3
  have heldC := laws_heldIntS.ev r4.2 (kAt 1 S S.length) (by omega) (by omega) (fun j hj => m4 j (by omega))
  rw [l4] at heldC
  rw [e4]
  refine Ev.bind held (Ev.no not_neg (Ev.bind heldC (Ev.no not_neg (Ev.no (by simp) ?_))))
  refine Ev.bind to0 (Ev.bind to1 (Ev.bind im (Ev.bind eH (Ev.no (by simp [eqB]) (Ev.bind eC ?_)))))
  rw [show (!eqB C C) = false by simp [eqB]]
  refine Ev.step ?_
  simp only [laws_FnExactPutAll.step]
  exact Ev.no rfl (Ev.bind held (Ev.no not_neg (Ev.bind heldC (Ev.no not_neg (Ev.no (by simp) Ev.pure)))))
end Go.PA
