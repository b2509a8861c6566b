/- What these functions come to, part 2. -/
import Derived.Test.YtcfcnnamjfgahabGreatV1
import Derived.Test.YtcfcnnamjfgahabGreatV2
import Derived.Test.YtcfcnnamjfgahabGreatV3
import Derived.Test.YtcfcnnamjfgahabGreatFExactTrimSeries1
import Derived.Test.YtcfcnnamjfgahabGreatFExactTrimSeries2
import Derived.Test.YtcfcnnamjfgahabGreatEExactTrimSeries1
open Go Go.VM
set_option maxRecDepth 100000
namespace Go.TS
theorem laws_markNeedS.ev (l : List ((List ((ByteArray) × ((Int) × ((ByteArray) × (Unit))))) × ((Int) × ((Int) × (Unit))))) (k : Nat) (h : Sm 1048576 (.sl false (.pair (.sl false (.pair .str (.pair (.int .i64) (.pair .str .unit)))) (.pair (.int .i64) (.pair (.int .i64) .unit)))) l) (hk : k + 3298536980480 ≤ 1152921504606846976) : EvP (fun n => laws_markNeedS n l (k : Int)) (fun r => ∃ k2 : Nat, r.1 = (k2 : Int) ∧ k ≤ k2 ∧ k2 ≤ k + 3298536980480 ∧ r.2.length = l.length) := by
  have hl : l.length ≤ 1048576 := h.1
  refine EvP.step ?_
  simp only [laws_markNeedS.step]
  refine (laws_markNeedS.loop l h l.length 0 k l (by omega) rfl (fun _ _ _ => rfl) (by omega)).imp fun r hr => ?_
  obtain ⟨k9, e9, m9, n9, o9⟩ := hr
  exact ⟨k9, e9, m9, by omega, o9⟩
theorem laws_markLabelS.loopX (l : List LB) (k : Nat) (hl : l.length ≤ 1048576) (hk : k ≤ 1152921504606846976) : ∀ d i (m : List LB), i + d = l.length → m.length = l.length → (∀ j, j < i → m.getD j default = (markT (k + 2 * j), markT (k + 2 * j + 1), ())) →
    EvP (fun n => goRec laws_markLabelS.step n (laws_markLabelS.Pt.p7 ((k + 2 * i : Nat) : Int) (i : Int) m)) (fun r => r.1 = ((k + 2 * l.length : Nat) : Int) ∧ r.2.length = l.length ∧ ∀ j, j < l.length → r.2.getD j default = (markT (k + 2 * j), markT (k + 2 * j + 1), ())) := by
  intro d
  induction d with
  | zero =>
    intro i m h h1 h2
    obtain rfl : i = l.length := by omega
    refine EvP.step ?_
    simp only [laws_markLabelS.step]
    exact EvP.no (by simp; omega) (EvP.pure ⟨rfl, h1, h2⟩)
  | succ d ih =>
    intro i m h h1 h2
    have hi : i < m.length := by omega
    refine EvP.step ?_
    simp only [laws_markLabelS.step, toNat_cast, Nat.zero_add, List.length_set, getD_set_same hi, List.set_set, i64_nat (show i ≤ 4611686018427387904 by omega), i64_nat (show k + 2 * i ≤ 4611686018427387904 by omega), i64_nat (show k + 2 * i + 1 ≤ 4611686018427387904 by omega)]
    refine EvP.yes (lt_yes hi) (EvP.bind (laws_markText.ev (k + 2 * i) (by omega)) (EvP.yes (inB_nat hi) (EvP.bind (laws_markText.ev (k + 2 * i + 1) (by omega)) (EvP.yes (inB_nat hi) ?_))))
    refine ih (i + 1) _ (by omega) (by simpa using h1) fun j hj => ?_
    by_cases e : j = i
    · subst e; rw [getD_set_same hi]
    · rw [getD_set_other e]; exact h2 j (by omega)
theorem laws_markLabelS.evX (l : List LB) (k : Nat) (hl : l.length ≤ 1048576) (hk : k ≤ 1152921504606846976) : EvP (fun n => laws_markLabelS n l (k : Int)) (fun r => r.1 = ((k + 2 * l.length : Nat) : Int) ∧ r.2.length = l.length ∧ ∀ j, j < l.length → r.2.getD j default = (markT (k + 2 * j), markT (k + 2 * j + 1), ())) := by
  refine EvP.step ?_
  simp only [laws_markLabelS.step]
  exact laws_markLabelS.loopX l k hl hk l.length 0 l (by omega) rfl (fun j hj => by omega)
theorem laws_heldLabelS.loop (l : List LB) (k : Nat) (hl : l.length ≤ 1048576) (hk : k ≤ 1152921504606846976) (hm : ∀ j, j < l.length → l.getD j default = (markT (k + 2 * j), markT (k + 2 * j + 1), ())) : ∀ d i, i + d = l.length → Ev (fun n => goRec laws_heldLabelS.step n (laws_heldLabelS.Pt.p7 l ((k + 2 * i : Nat) : Int) (i : Int))) ((k + 2 * l.length : Nat) : Int) := by
  intro d
  induction d with
  | zero =>
    intro i h
    obtain rfl : i = l.length := by omega
    refine Ev.step ?_
    simp only [laws_heldLabelS.step]
    exact Ev.no lt_no Ev.pure
  | succ d ih =>
    intro i h
    have hi : i < l.length := by omega
    refine Ev.step ?_
    simp only [laws_heldLabelS.step, toNat_cast, i64_nat (show i ≤ 4611686018427387904 by omega), i64_nat (show k + 2 * i ≤ 4611686018427387904 by omega), i64_nat (show k + 2 * i + 1 ≤ 4611686018427387904 by omega), hm i hi]
    refine Ev.yes (lt_yes hi) (Ev.yes (inB_nat hi) (Ev.bind (laws_markText.ev (k + 2 * i) (by omega)) ?_))
    refine Ev.no (by simp [seq]) (Ev.yes (inB_nat hi) (Ev.bind (laws_markText.ev (k + 2 * i + 1) (by omega)) ?_))
    exact Ev.no (by simp [seq]) (ih (i + 1) (by omega))
theorem laws_heldLabelS.ev (l : List LB) (k : Nat) (hl : l.length ≤ 1048576) (hk : k ≤ 1152921504606846976) (hm : ∀ j, j < l.length → l.getD j default = (markT (k + 2 * j), markT (k + 2 * j + 1), ())) : Ev (fun n => laws_heldLabelS n l (k : Int)) ((k + 2 * l.length : Nat) : Int) := by
  refine Ev.step ?_
  simp only [laws_heldLabelS.step]
  exact laws_heldLabelS.loop l k hl hk hm l.length 0 (by omega)
theorem laws_markSampleS.vals (l : List SME) (k : Nat) (hl : l.length ≤ 1048576) (hk : k ≤ 1073741824) : EvP (fun n => laws_markSampleS n l (k : Int)) (fun r => r.1 = ((k + 2 * l.length : Nat) : Int) ∧ r.2.length = l.length ∧ ∀ j, j < l.length → r.2.getD j default = (((k + 2 * j : Nat) : Int), (((k + 2 * j + 1 : Nat) : Int), ()))) := by
  have loop : ∀ d i (m : List SME), i + d = l.length → m.length = l.length → (∀ j, j < i → m.getD j default = (((k + 2 * j : Nat) : Int), (((k + 2 * j + 1 : Nat) : Int), ()))) →
    EvP (fun n => goRec laws_markSampleS.step n (laws_markSampleS.Pt.p7 ((k + 2 * i : Nat) : Int) (i : Int) m)) (fun r => r.1 = ((k + 2 * l.length : Nat) : Int) ∧ r.2.length = l.length ∧ ∀ j, j < l.length → r.2.getD j default = (((k + 2 * j : Nat) : Int), (((k + 2 * j + 1 : Nat) : Int), ()))) := by
    intro d
    induction d with
    | zero =>
      intro i m h h1 h2
      obtain rfl : i = l.length := by omega
      refine EvP.step ?_
      simp only [laws_markSampleS.step]
      exact EvP.no (decide_eq_false (by omega)) (EvP.pure ⟨rfl, h1, h2⟩)
    | succ d ih =>
      intro i m h h1 h2
      have hi : i < m.length := by omega
      refine EvP.step ?_
      simp only [laws_markSampleS.step, toNat_cast, Nat.zero_add, List.length_set, getD_set_same hi, List.set_set, i64_nat (show i ≤ 4611686018427387904 by omega), i64_nat (show k + 2 * i ≤ 4611686018427387904 by omega), i64_nat (show k + 2 * i + 1 ≤ 4611686018427387904 by omega)]
      refine EvP.yes (lt_yes hi) (EvP.yes (inB_nat hi) (EvP.yes (inB_nat (by simpa using hi)) ?_))
      refine ih (i + 1) _ (by omega) (by simpa using h1) fun j hj => ?_
      by_cases e : j = i
      · subst e; rw [getD_set_same hi]
      · rw [getD_set_other e]; exact h2 j (by omega)
  refine EvP.step ?_
  simp only [laws_markSampleS.step]
  exact loop l.length 0 l (by omega) rfl (fun j hj => by omega)
theorem laws_heldSampleS.ev (l : List SME) (k : Nat) (hl : l.length ≤ 1048576) (hk : k ≤ 1073741824) (hm : ∀ j, j < l.length → l.getD j default = (((k + 2 * j : Nat) : Int), (((k + 2 * j + 1 : Nat) : Int), ()))) : Ev (fun n => laws_heldSampleS n l (k : Int)) ((k + 2 * l.length : Nat) : Int) := by
  have loop : ∀ d i, i + d = l.length → Ev (fun n => goRec laws_heldSampleS.step n (laws_heldSampleS.Pt.p7 l ((k + 2 * i : Nat) : Int) (i : Int))) ((k + 2 * l.length : Nat) : Int) := by
    intro d
    induction d with
    | zero =>
      intro i h
      obtain rfl : i = l.length := by omega
      refine Ev.step ?_
      simp only [laws_heldSampleS.step]
      exact Ev.no lt_no Ev.pure
    | succ d ih =>
      intro i h
      have hi : i < l.length := by omega
      refine Ev.step ?_
      simp only [laws_heldSampleS.step, toNat_cast, i64_nat (show i ≤ 4611686018427387904 by omega), i64_nat (show k + 2 * i ≤ 4611686018427387904 by omega), i64_nat (show k + 2 * i + 1 ≤ 4611686018427387904 by omega), hm i hi]
      exact Ev.yes (lt_yes hi) (Ev.yes (inB_nat hi) (Ev.no (by simp) (Ev.yes (inB_nat hi) (Ev.no (by simp) (ih (i + 1) (by omega))))))
  refine Ev.step ?_
  simp only [laws_heldSampleS.step]
  exact loop l.length 0 (by omega)
/-- the number that a series' marks begin with -/
def kAt (k : Nat) (l : List SRE) : Nat → Nat
  | 0 => k
  | j + 1 => kAt k l j + 2 * (l.getD j default).1.length + 2 * (l.getD j default).2.1.length
def serMark (k : Nat) (s : SRE) (x : SRE) : Prop := x.1.length = s.1.length ∧ (∀ j, j < s.1.length → x.1.getD j default = (markT (k + 2 * j), markT (k + 2 * j + 1), ())) ∧ x.2.1.length = s.2.1.length ∧ ∀ j, j < s.2.1.length → x.2.1.getD j default = (((k + 2 * s.1.length + 2 * j : Nat) : Int), (((k + 2 * s.1.length + 2 * j + 1 : Nat) : Int), ()))
def SerSm (l : List SRE) : Prop := l.length ≤ 200 ∧ ∀ j, j < l.length → (l.getD j default).1.length ≤ 20 ∧ (l.getD j default).2.1.length ≤ 2000
theorem kAt_le {k : Nat} {l : List SRE} (h : SerSm l) : ∀ j, j ≤ l.length → kAt k l j ≤ k + 5000 * j
  | 0, _ => Nat.le_refl _
  | j + 1, hj => by
    have := kAt_le (k := k) h j (by omega)
    have := h.2 j (by omega)
    rw [kAt]; omega
theorem laws_markSeriesS.vals (l : List SRE) (h : SerSm l) : EvP (fun n => laws_markSeriesS n l (1 : Int)) (fun r => r.1 = ((kAt 1 l l.length : Nat) : Int) ∧ r.2.length = l.length ∧ ∀ j, j < l.length → serMark (kAt 1 l j) (l.getD j default) (r.2.getD j default)) := by
  have loop : ∀ d i (m : List SRE), i + d = l.length → m.length = l.length → (∀ j, j < i → serMark (kAt 1 l j) (l.getD j default) (m.getD j default)) → (∀ j, i ≤ j → m.getD j default = l.getD j default) →
    EvP (fun n => goRec laws_markSeriesS.step n (laws_markSeriesS.Pt.p7 ((kAt 1 l i : Nat) : Int) (i : Int) m)) (fun r => r.1 = ((kAt 1 l l.length : Nat) : Int) ∧ r.2.length = l.length ∧ ∀ j, j < l.length → serMark (kAt 1 l j) (l.getD j default) (r.2.getD j default)) := by
    intro d
    induction d with
    | zero =>
      intro i m h1 h2 h3 h4
      obtain rfl : i = l.length := by omega
      refine EvP.step ?_
      simp only [laws_markSeriesS.step]
      exact EvP.no (decide_eq_false (by omega)) (EvP.pure ⟨rfl, h2, h3⟩)
    | succ d ih =>
      intro i m h1 h2 h3 h4
      have hi : i < l.length := by omega
      have him : i < m.length := by omega
      have hs := h.2 i hi
      have hk := kAt_le (k := 1) h i (by omega)
      have h200 := h.1
      refine EvP.step ?_
      simp only [laws_markSeriesS.step, toNat_cast, Nat.zero_add, List.length_set, i64_nat (show i ≤ 4611686018427387904 by omega), h4 i (Nat.le_refl _)]
      refine EvP.yes (lt_yes him) (EvP.yes (inB_nat him) (EvP.bindP (laws_markLabelS.evX (l.getD i default).1 (kAt 1 l i) (by omega) (by omega)) ?_))
      rintro ⟨r1, r2⟩ ⟨e1, e2, e3⟩
      have e1 : r1 = _ := e1
      subst e1
      simp only [getD_set_same him, List.set_set]
      refine EvP.yes (inB_nat (by simpa using him)) (EvP.bindP (laws_markSampleS.vals (l.getD i default).2.1 (kAt 1 l i + 2 * (l.getD i default).1.length) (by omega) (by omega)) ?_)
      rintro ⟨q1, q2⟩ ⟨f1, f2, f3⟩
      have f1 : q1 = _ := f1
      subst f1
      refine ih (i + 1) _ (by omega) (by simpa using h2) (fun j hj => ?_) (fun j hj => ?_)
      · by_cases e : j = i
        · subst e
          rw [getD_set_same him]
          exact ⟨e2, e3, f2, f3⟩
        · rw [getD_set_other e]; exact h3 j (by omega)
      · rw [getD_set_other (by omega)]; exact h4 j (by omega)
  refine EvP.step ?_
  simp only [laws_markSeriesS.step]
  exact loop l.length 0 l (by omega) rfl (fun j hj => by omega) (fun _ _ => rfl)
theorem laws_heldSeriesS.ev (l m : List SRE) (h : SerSm l) (hl : m.length = l.length) (hm : ∀ j, j < l.length → serMark (kAt 1 l j) (l.getD j default) (m.getD j default)) : Ev (fun n => laws_heldSeriesS n m (1 : Int)) ((kAt 1 l l.length : Nat) : Int) := by
  have loop : ∀ d i, i + d = l.length → Ev (fun n => goRec laws_heldSeriesS.step n (laws_heldSeriesS.Pt.p7 m ((kAt 1 l i : Nat) : Int) (i : Int))) ((kAt 1 l l.length : Nat) : Int) := by
    intro d
    induction d with
    | zero =>
      intro i hi
      obtain rfl : i = l.length := by omega
      refine Ev.step ?_
      simp only [laws_heldSeriesS.step]
      exact Ev.no (decide_eq_false (by omega)) Ev.pure
    | succ d ih =>
      intro i hi
      have hi' : i < l.length := by omega
      have him : i < m.length := by omega
      have hs := h.2 i hi'
      have hk := kAt_le (k := 1) h i (by omega)
      have h200 := h.1
      obtain ⟨a1, a2, a3, a4⟩ := hm i hi'
      refine Ev.step ?_
      simp only [laws_heldSeriesS.step, toNat_cast, i64_nat (show i ≤ 4611686018427387904 by omega)]
      have g1 := laws_heldLabelS.ev (m.getD i default).1 (kAt 1 l i) (by omega) (by omega) (fun j hj => a2 j (by omega))
      have g2 := laws_heldSampleS.ev (m.getD i default).2.1 (kAt 1 l i + 2 * (l.getD i default).1.length) (by omega) (by omega) (fun j hj => a4 j (by omega))
      rw [a1] at g1
      rw [a3] at g2
      exact Ev.yes (lt_yes him) (Ev.yes (inB_nat him) (Ev.bind g1 (Ev.no not_neg (Ev.yes (inB_nat him) (Ev.bind g2 (Ev.no not_neg (ih (i + 1) (by omega))))))))
  refine Ev.step ?_
  simp only [laws_heldSeriesS.step]
  exact loop l.length 0 (by omega)
theorem trimOne_le {needs : List NDE} {s : SRE} : (trimOne needs s).length ≤ s.2.1.length := List.length_filter_le _ _
theorem trimV_at {needs : List NDE} : ∀ {l : List SRE} {x : SRE}, x ∈ trimV needs l → ∃ s ∈ l, x = (s.1, (trimOne needs s, ()))
  | l, x, hx => by
    obtain ⟨s, hs, h⟩ := List.mem_flatMap.1 hx
    split at h
    · cases h
    · exact ⟨s, hs, List.mem_singleton.1 h⟩
theorem trimV_len {needs : List NDE} : ∀ {l : List SRE}, (trimV needs l).length ≤ l.length
  | [] => Nat.le_refl _
  | s :: l => by
    have := trimV_len (needs := needs) (l := l)
    rw [trimV, List.flatMap_cons, List.length_append]
    have e : (l.flatMap fun s => if (trimOne needs s).length = 0 then [] else [(s.1, (trimOne needs s, ()))]).length ≤ l.length := this
    have hx : (if (trimOne needs s).length = 0 then ([] : List SRE) else [(s.1, (trimOne needs s, ()))]).length ≤ 1 := by
      split
      · exact Nat.zero_le _
      · exact Nat.le_refl _
    rw [List.length_cons]
    omega
theorem trimF_sm {l : List SRE} {needs : List NDE} : SerSm (trimF l needs) := by
  rw [trimF]
  split
  · rename_i hc
    simp only [Bool.and_eq_true] at hc
    have hg := hc.1.1
    have h200 : l.length ≤ 200 := by simp only [seriesB, Bool.and_eq_true, decide_eq_true_eq] at hg; exact hg.1
    refine ⟨Nat.le_trans trimV_len h200, fun j hj => ?_⟩
    obtain ⟨s, hs, e⟩ := trimV_at (getD_mem hj (d := default))
    obtain ⟨i, hi, rfl⟩ := List.getElem_of_mem hs
    have := seriesB_at hg hi
    rw [List.getD_eq_getElem?_getD, List.getElem?_eq_getElem hi, Option.getD_some] at this
    rw [e]
    have := trimOne_le (needs := needs) (s := l[i])
    simp only
    omega
  · exact ⟨Nat.zero_le _, fun j hj => absurd hj (Nat.not_lt_zero _)⟩
theorem trimF_big {l : List SRE} {needs : List NDE} (h : Sm 1048576 (.sl false SRU) l) : Sm 1048576 (.sl false SRU) (trimF l needs) := by
  refine ⟨Nat.le_trans trimF_sm.1 (by decide), fun x hx => ?_⟩
  rw [trimF] at hx
  split at hx
  · obtain ⟨s, hs, rfl⟩ := trimV_at hx
    have m := h.2 s hs
    exact ⟨m.1, ⟨Nat.le_trans trimOne_le m.2.1.1, fun _ _ => ⟨trivial, trivial, trivial⟩⟩, trivial⟩
  · cases hx
theorem laws_FnExactTrimSeries.ev (l : List SRE) (needs : List NDE) (hw : Wf (.sl false SRU) l) (hn : Wf (.sl false NDU) needs) : Ev (fun n => laws_FnExactTrimSeries n l needs) true := by
  refine Ev.step ?_
  simp only [laws_FnExactTrimSeries.step]
  obtain ⟨q0, g0, i0, s0⟩ := laws_szSeriesS.ev l 1048576 (by omega) (by omega) hw
  refine Ev.bind g0 (Ev.cnd (fun _ => Ev.pure) fun c0 => ?_)
  have b0 : 0 ≤ q0 := by simpa using c0
  have t0 := s0 b0
  obtain ⟨q1, g1, i1, s1⟩ := laws_szNeedS.ev needs q0 b0 i0 hn
  refine Ev.bind g1 (Ev.cnd (fun _ => Ev.pure) fun c1 => ?_)
  have b1 : 0 ≤ q1 := by simpa using c1
  have t1 := s1 b1
  have to0 := laws_toSeriesS.ev l t0
  have to1 := laws_toNeedS.ev needs t1
  have im := impl_TrimSeries.ev l needs t0 t1
  have hF := @trimF_sm l needs
  have tF := trimF_big (needs := needs) t0
  have eF := laws_eqSeriesS.ev _ _ tF tF
  have e0 := laws_eqSeriesS.ev l l t0 t0
  have e1 := laws_eqNeedS.ev needs needs t1 t1
  refine Ev.bind to0 (Ev.bind to1 (Ev.bind (spec_TrimSeries.ev l needs t0 t1) (Ev.bind to0 (Ev.bind to1 (Ev.bind im (Ev.bind eF (Ev.no (by simp [eqB]) ?_)))))))
  refine Ev.bind to0 (Ev.bind e0 (Ev.no (by simp [eqB]) (Ev.bind to1 (Ev.bind e1 (Ev.no (by simp [eqB]) ?_)))))
  refine Ev.bindP (laws_markSeriesS.ev l 1 t0 (by omega)) ?_
  rintro r ⟨k, e, k1, k2, _⟩
  rw [e]
  refine Ev.bindP (laws_markNeedS.ev needs k t1 (by omega)) ?_
  rintro r' ⟨k', e', k1', k2', _⟩
  rw [e']
  refine Ev.no not_neg (Ev.bind eF ?_)
  rw [show (!eqB (trimF l needs) (trimF l needs)) = false by simp [eqB]]
  refine Ev.step ?_
  simp only [laws_FnExactTrimSeries.step]
  refine Ev.no rfl (Ev.bindP (laws_markSeriesS.vals (trimF l needs) hF) ?_)
  rintro r3 ⟨e3, l3, m3⟩
  have held := laws_heldSeriesS.ev (trimF l needs) r3.2 hF l3 m3
  rw [e3]
  refine Ev.bind held (Ev.no not_neg (Ev.no (by simp) ?_))
  refine Ev.bind to0 (Ev.bind to1 (Ev.bind im (Ev.bind eF (Ev.no (by simp [eqB]) ?_))))
  exact Ev.bind held (Ev.no not_neg (Ev.no (by simp) Ev.pure))
end Go.TS
