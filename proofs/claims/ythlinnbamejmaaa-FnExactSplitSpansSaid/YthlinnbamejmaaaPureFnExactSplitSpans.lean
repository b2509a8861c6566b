/- Proved: for all whole numbers from, to, step, every, the program's SplitSpans answers the same list of spans as the reference's, twice, and the two answers share no memory with each other. Conditions: none. -/
import Derived.Test.YthlinnbamejmaaaPFnExactSplitSpansx2
namespace Go.Proofs.Ythlinnbamejmaaa.Pure
open Go.RowKit Go.Proofs.Ythlinnbamejmaaa.PFnExactSplitSpans Go.Proofs.YthlinnbamejmaaaW.PrintWords Go.Proofs.YthlinnbamejmaaaW.PrintLast

theorem time_same (a : Int) : spec_l3Time.f a = some (decide (0 ≤ a ∧ a ≤ 1000000000000)) := by
  unfold spec_l3Time.f
  split
  · congr 1; simp; omega
  · congr 1; simp; omega

theorem steps_same (a b c : Int) : impl_goodSteps.f a b c = spec_l16Steps.f a b c := rfl

theorem wrap_in {n : Int} (h : -9223372036854775808 ≤ n) (h' : n < 9223372036854775808) : wrap64 n = n := by unfold wrap64; omega

/-- What the walk over the steps keeps: every span begins and ends in one stretch. -/
def Same (e : Int) (l : List S54) : Prop := ∀ i : Nat, i < l.length → wrap64 (Int.tdiv ((rd_T54 l (i : Int)).f0) e) = wrap64 (Int.tdiv ((rd_T54 l (i : Int)).f1) e)

theorem rd_nat (l : List S54) (i : Nat) : rd_T54 l (i : Int) = l.getD i z54 := by unfold rd_T54; simp

theorem Same.snoc {e : Int} {l : List S54} (h : Same e l) (x : Int) : Same e (l ++ [(⟨x, x⟩ : S54)]) := by
  intro i hi
  rw [rd_nat]
  by_cases c : i < l.length
  · have := h i c
    rw [rd_nat] at this
    have e : (l ++ [(⟨x, x⟩ : S54)]).getD i z54 = l.getD i z54 := by simp [List.getD_eq_getElem?_getD, List.getElem?_append_left c]
    rw [e]
    exact this
  · have : i = l.length := by simp at hi; omega
    subst this
    simp

theorem Same.set {e : Int} {l : List S54} (h : Same e l) (j : Nat) (hj : j < l.length) (x : Int) (hx : wrap64 (Int.tdiv ((rd_T54 l (j : Int)).f0) e) = wrap64 (Int.tdiv x e)) : Same e (l.set j (⟨(rd_T54 l (j : Int)).f0, x⟩ : S54)) := by
  intro i hi
  rw [rd_nat]
  simp only [List.length_set] at hi
  by_cases c : i = j
  · subst c
    simp [List.getD_eq_getElem?_getD, hj, hx]
  · have := h i hi
    rw [rd_nat] at this
    simpa [List.getD_eq_getElem?_getD, List.getElem?_set, Ne.symm c] using this

theorem spans_tell (b s e : Int) (hb : 0 ≤ b) (hb' : b ≤ 1000000000000) (hs : 1 ≤ s) (hs' : s ≤ 1000000000000) (he : 1 ≤ e) (d : Nat) :
    ∀ (l : List S54) (x : Int), 0 ≤ x → x ≤ b + s → (b + 1 - x).toNat ≤ d → (l.length : Int) + (b + 1 - x).toNat ≤ 1000000000001 → Same e l →
      ∃ r : List S54, r.length ≤ 1000000000001 ∧ Ev (fun k => spec_SplitSpans.l0 k b s e l x) r ∧ Ev (fun k => impl_SplitSpans.l0 k b s e l x) r := by
  induction d with
  | zero =>
    intro l x h0 h1 hd hl hS
    have hgt : ¬ x ≤ b := by omega
    exact ⟨l, by omega, Ev.step (f := fun _ => some l) (fun k => by simp only [spec_SplitSpans.l0]; rw [if_neg hgt]) (Ev.now l), Ev.step (f := fun _ => some l) (fun k => by simp only [impl_SplitSpans.l0]; rw [if_neg hgt]) (Ev.now l)⟩
  | succ d ih =>
    intro l x h0 h1 hd hl hS
    by_cases hle : x ≤ b
    · have hw : wrap64 (x + s) = x + s := wrap_in (by omega) (by omega)
      by_cases hpos : (l.length : Int) > 0
      · have hlen : wrap64 ((l.length : Int) - 1) = ((l.length - 1 : Nat) : Int) := by rw [wrap_in (by omega) (by omega)]; omega
        have hne : ¬ e = 0 := by omega
        have hkeep := hS (l.length - 1) (by omega)
        by_cases heq : wrap64 (Int.tdiv ((rd_T54 l ((l.length - 1 : Nat) : Int)).f0) e) = wrap64 (Int.tdiv x e)
        · obtain ⟨r, hr, e1, e2⟩ := ih (l.set (l.length - 1) (⟨(rd_T54 l ((l.length - 1 : Nat) : Int)).f0, x⟩ : S54)) (x + s) (by omega) (by omega) (by omega) (by simp only [List.length_set]; omega) (hS.set _ (by omega) x heq)
          refine ⟨r, hr, Ev.step (fun k => ?_) e1, Ev.step (fun k => ?_) e2⟩
          · simp only [spec_SplitSpans.l0]
            rw [if_pos hle, if_pos hpos, hlen, if_pos (by omega), if_pos (by omega), if_neg hne, if_pos heq, hw, Int.toNat_natCast]
          · simp only [impl_SplitSpans.l0]
            rw [if_pos hle, if_pos hpos, hlen, if_pos (by omega), if_pos (by omega), if_neg hne, if_pos (hkeep ▸ heq), hw, Int.toNat_natCast]
        · obtain ⟨r, hr, e1, e2⟩ := ih (l ++ [(⟨x, x⟩ : S54)]) (x + s) (by omega) (by omega) (by omega) (by simp only [List.length_append, List.length_cons, List.length_nil]; omega) (hS.snoc x)
          refine ⟨r, hr, Ev.step (fun k => ?_) e1, Ev.step (fun k => ?_) e2⟩
          · simp only [spec_SplitSpans.l0]
            rw [if_pos hle, if_pos hpos, hlen, if_pos (by omega), if_pos (by omega), if_neg hne, if_neg heq, if_pos (by omega), hw]
          · simp only [impl_SplitSpans.l0]
            rw [if_pos hle, if_pos hpos, hlen, if_pos (by omega), if_pos (by omega), if_neg hne, if_neg (fun c => heq (hkeep.trans c)), if_pos (by omega), hw]
      · obtain ⟨r, hr, e1, e2⟩ := ih (l ++ [(⟨x, x⟩ : S54)]) (x + s) (by omega) (by omega) (by omega) (by simp only [List.length_append, List.length_cons, List.length_nil]; omega) (hS.snoc x)
        refine ⟨r, hr, Ev.step (fun k => ?_) e1, Ev.step (fun k => ?_) e2⟩
        · simp only [spec_SplitSpans.l0]
          rw [if_pos hle, if_neg hpos, if_pos (by omega), hw]
        · simp only [impl_SplitSpans.l0]
          rw [if_pos hle, if_neg hpos, if_pos (by omega), hw]
    · exact ⟨l, by omega, Ev.step (f := fun _ => some l) (fun k => by simp only [spec_SplitSpans.l0]; rw [if_neg hle]) (Ev.now l), Ev.step (f := fun _ => some l) (fun k => by simp only [impl_SplitSpans.l0]; rw [if_neg hle]) (Ev.now l)⟩

/-- The two tell one list. -/
theorem split_tell (a b s e : Int) : ∃ r : List S54, r.length ≤ 1000000000001 ∧ Ev (fun k => spec_SplitSpans.f k a b s e) r ∧ Ev (fun k => impl_SplitSpans.f k a b s e) r := by
  have hno : ∃ r : List S54, r.length ≤ 1000000000001 ∧ Ev (fun k => spec_SplitSpans.j0 k a b s e true) r ∧ Ev (fun k => impl_SplitSpans.j0 k a b s e true) r :=
    ⟨[], by simp, Ev.step (f := fun _ => some []) (fun k => by simp only [spec_SplitSpans.j0, if_true]) (Ev.now _), Ev.step (f := fun _ => some []) (fun k => by simp only [impl_SplitSpans.j0, if_true]) (Ev.now _)⟩
  have hst : spec_l16Steps.f a b s = some false ∨ (spec_l16Steps.f a b s = some true ∧ 0 ≤ a ∧ a ≤ b ∧ b ≤ 1000000000000 ∧ 1 ≤ s ∧ s ≤ 1000000000000) := by
    unfold spec_l16Steps.f
    simp only [time_same, Option.bind_some, decide_eq_true_eq]
    split
    · split
      · split
        · split
          · split
            · rw [if_neg (by omega)]
              by_cases c : wrap64 ((wrap64 (Int.tdiv (wrap64 (b - a)) s)) + 1) ≤ 500
              · right; refine ⟨by simp [c], by omega, by omega, by omega, by omega, by omega⟩
              · left; simp [c]
            · left; rfl
          · left; rfl
        · left; rfl
      · left; rfl
    · left; rfl
  rcases hst with h | ⟨h, h1, h2, h3, h4, h5⟩
  · obtain ⟨r, hr, e1, e2⟩ := hno
    refine ⟨r, hr, Ev.congr (fun k => ?_) e1, Ev.congr (fun k => ?_) e2⟩
    · unfold spec_SplitSpans.f; rw [h]; simp
    · unfold impl_SplitSpans.f; rw [steps_same, h]; simp
  · by_cases c : e < 1
    · obtain ⟨r, hr, e1, e2⟩ := hno
      refine ⟨r, hr, Ev.congr (fun k => ?_) e1, Ev.congr (fun k => ?_) e2⟩
      · unfold spec_SplitSpans.f; rw [h]; simp only [Option.bind_some, if_true]; rw [if_pos c]
      · unfold impl_SplitSpans.f; rw [steps_same, h]; simp only [Option.bind_some, if_true]; rw [if_pos c]
    · by_cases c' : e > 1000000000000
      · obtain ⟨r, hr, e1, e2⟩ := hno
        refine ⟨r, hr, Ev.congr (fun k => ?_) e1, Ev.congr (fun k => ?_) e2⟩
        · unfold spec_SplitSpans.f; rw [h]; simp only [Option.bind_some, if_true]; rw [if_neg c]; simp [c']
        · unfold impl_SplitSpans.f; rw [steps_same, h]; simp only [Option.bind_some, if_true]; rw [if_neg c]; simp [c']
      · obtain ⟨r, hr, e1, e2⟩ := spans_tell b s e (by omega) (by omega) h4 h5 (by omega) (b + 1 - a).toNat [] a h1 (by omega) (Nat.le_refl _) (by simp; omega) (fun i hi => by simp at hi)
        refine ⟨r, hr, Ev.congr (f := fun k => spec_SplitSpans.j0 k a b s e false) (fun k => ?_) (Ev.step (fun k => ?_) e1), Ev.congr (f := fun k => impl_SplitSpans.j0 k a b s e false) (fun k => ?_) (Ev.step (fun k => ?_) e2)⟩
        · unfold spec_SplitSpans.f; rw [h]; simp only [Option.bind_some, if_true]; rw [if_neg c]; simp [c']
        · simp [spec_SplitSpans.j0]
        · unfold impl_SplitSpans.f; rw [steps_same, h]; simp only [Option.bind_some, if_true]; rw [if_neg c]; simp [c']
        · simp [impl_SplitSpans.j0]

theorem eq_self (l : List S54) (hl : l.length ≤ 1000000000001) (d : Nat) : ∀ i : Nat, l.length - i ≤ d → Ev (fun k => laws_eqSpanS.l0 k l l (i : Int)) true := by
  induction d with
  | zero =>
    intro i hi
    exact Ev.step (f := fun _ => some true) (fun k => by simp only [laws_eqSpanS.l0]; rw [if_neg (by omega)]) (Ev.now _)
  | succ d ih =>
    intro i hi
    by_cases c : i < l.length
    · refine Ev.step (fun k => ?_) (ih (i + 1) (by omega))
      simp only [laws_eqSpanS.l0]
      rw [if_pos (by omega), if_pos (by omega), if_pos (by omega), wrap_in (by omega) (by omega)]
      unfold laws_eqSpan.f
      simp
    · exact Ev.step (f := fun _ => some true) (fun k => by simp only [laws_eqSpanS.l0]; rw [if_neg (by omega)]) (Ev.now _)

/-- From place i on each number stands behind the one ahead of it. -/
def Marked (l : List S54) (i : Nat) (m : Int) : Prop := ∀ j : Nat, i ≤ j → j < l.length → rd_T54 l (j : Int) = ⟨m + 2 * ((j : Int) - i), m + 2 * ((j : Int) - i) + 1⟩

theorem mark_tell (d : Nat) : ∀ (l : List S54) (i : Nat) (m : Int), l.length ≤ 1000000000001 → i ≤ l.length → l.length - i ≤ d → 0 ≤ m → m ≤ 1 + 2 * (i : Int) →
    ∃ l' : List S54, l'.length = l.length ∧ (∀ j : Nat, j < i → l'[j]? = l[j]?) ∧ Marked l' i m ∧ Ev (fun k => laws_markSpanS.l0 k l m (i : Int)) (m + 2 * ((l.length : Int) - i), l') := by
  induction d with
  | zero =>
    intro l i m hl hi hd h0 hm
    have : i = l.length := by omega
    subst this
    refine ⟨l, rfl, fun _ _ => rfl, fun j h1 h2 => by omega, Ev.step (f := fun _ => some (m, l)) (fun k => by simp only [laws_markSpanS.l0]; rw [if_neg (by omega)]) ?_⟩
    have : m + 2 * ((l.length : Int) - l.length) = m := by omega
    rw [this]; exact Ev.now _
  | succ d ih =>
    intro l i m hl hi hd h0 hm
    by_cases c : i < l.length
    · obtain ⟨l', h1, h2, h3, h4⟩ := ih ((l.set i (⟨m, (rd_T54 l (i : Int)).f1⟩ : S54)).set i (⟨m, m + 1⟩ : S54)) (i + 1) (m + 2) (by simpa using hl) (by simp; omega) (by simp; omega) (by omega) (by omega)
      simp only [List.length_set] at h1 h4
      refine ⟨l', h1, fun j hj => ?_, fun j hj hj' => ?_, ?_⟩
      · rw [h2 j (by omega)]
        simp only [List.getElem?_set]
        rw [if_neg (by omega), if_neg (by omega)]
      · by_cases e : j = i
        · subst e
          have := h2 j (by omega)
          simp only [List.getElem?_set, List.length_set, if_true, c] at this
          rw [rd_nat, List.getD_eq_getElem?_getD, this]
          simp
        · rw [h3 j (by omega) hj']
          congr 1 <;> omega
      · refine Ev.step (f := fun k => laws_markSpanS.l0 k ((l.set i (⟨m, (rd_T54 l (i : Int)).f1⟩ : S54)).set i (⟨m, m + 1⟩ : S54)) (m + 2) ((i + 1 : Nat) : Int)) (fun k => ?_) ?_
        · simp only [laws_markSpanS.l0]
          rw [if_pos (by omega), if_pos (by omega)]
          simp only [Option.bind_some, Int.toNat_natCast]
          rw [wrap_in (n := m + 1) (by omega) (by omega), wrap_in (n := m + 1 + 1) (by omega) (by omega), wrap_in (n := (i : Int) + 1) (by omega) (by omega)]
          have e0 : (rd_T54 (l.set i (⟨m, (rd_T54 l (i : Int)).f1⟩ : S54)) (i : Int)).f0 = m := by
            rw [rd_nat, List.getD_eq_getElem?_getD]; simp [c]
          rw [e0]
          congr 1
          omega
        · have : m + 2 + 2 * ((l.length : Int) - ((i + 1 : Nat) : Int)) = m + 2 * ((l.length : Int) - i) := by omega
          rw [← this]; exact h4
    · have : i = l.length := by omega
      subst this
      refine ⟨l, rfl, fun _ _ => rfl, fun j h1 h2 => by omega, Ev.step (f := fun _ => some (m, l)) (fun k => by simp only [laws_markSpanS.l0]; rw [if_neg (by omega)]) ?_⟩
      have : m + 2 * ((l.length : Int) - l.length) = m := by omega
      rw [this]; exact Ev.now _

theorem held_tell (l : List S54) (hl : l.length ≤ 1000000000001) (d : Nat) : ∀ (i : Nat) (m : Int), i ≤ l.length → l.length - i ≤ d → 0 ≤ m → m ≤ 1 + 2 * (i : Int) → Marked l i m →
    Ev (fun k => laws_heldSpanS.l0 k l m (i : Int)) (m + 2 * ((l.length : Int) - i)) := by
  induction d with
  | zero =>
    intro i m hi hd h0 hm hM
    have : m + 2 * ((l.length : Int) - i) = m := by omega
    rw [this]
    exact Ev.step (f := fun _ => some m) (fun k => by simp only [laws_heldSpanS.l0]; rw [if_neg (by omega)]) (Ev.now _)
  | succ d ih =>
    intro i m hi hd h0 hm hM
    by_cases c : i < l.length
    · have h := ih (i + 1) (m + 2) (by omega) (by omega) (by omega) (by omega) (fun j h1 h2 => by rw [hM j (by omega) h2]; congr 1 <;> omega)
      have e := hM i (Nat.le_refl _) c
      refine Ev.step (f := fun k => laws_heldSpanS.l0 k l (m + 2) ((i + 1 : Nat) : Int)) (fun k => ?_) ?_
      · simp only [laws_heldSpanS.l0]
        rw [if_pos (by omega), if_pos (by omega), e]
        simp only []
        rw [wrap_in (n := m + 1) (by omega) (by omega), if_pos (by omega), if_pos (by omega), wrap_in (n := m + 1 + 1) (by omega) (by omega), wrap_in (n := (i : Int) + 1) (by omega) (by omega)]
        congr 1
        omega
      · have : m + 2 + 2 * ((l.length : Int) - ((i + 1 : Nat) : Int)) = m + 2 * ((l.length : Int) - i) := by omega
        rw [← this]; exact h
    · have : m + 2 * ((l.length : Int) - i) = m := by omega
      rw [this]
      exact Ev.step (f := fun _ => some m) (fun k => by simp only [laws_heldSpanS.l0]; rw [if_neg (by omega)]) (Ev.now _)

theorem FnExactSplitSpans : laws_FnExactSplitSpans.Pure := by
  intro a b s e _ _ _ _
  obtain ⟨r, hr, e1, e2⟩ := split_tell a b s e
  obtain ⟨r', hr', _, hM, e3⟩ := mark_tell r.length r 0 1 hr (Nat.zero_le _) (by omega) (by omega) (by omega)
  have e4 := held_tell r' (by omega) r'.length 0 1 (Nat.zero_le _) (by omega) (by omega) (by omega) hM
  have e5 := eq_self r hr r.length 0 (by omega)
  have eqf : Ev (fun k => laws_eqSpanS.f k r r) true := Ev.congr (fun k => by unfold laws_eqSpanS.f; rw [if_pos rfl]; rfl) e5
  rw [hr'] at e4
  refine Ev.rounds (r := true) ?_
  unfold laws_FnExactSplitSpans.f
  refine Ev.bind e1 (Ev.bind e2 (Ev.bind eqf ?_))
  simp only [if_true]
  refine Ev.bind (a := (1 + 2 * ((r.length : Int) - ((0 : Nat) : Int)), r')) e3 ?_
  have hneg : ¬ (1 + 2 * ((r.length : Int) - ((0 : Nat) : Int))) < 0 := by omega
  refine Ev.bind (a := 1 + 2 * ((r.length : Int) - ((0 : Nat) : Int))) e4 ?_
  simp only [hneg, if_false, if_true]
  refine Ev.bind e2 (Ev.bind eqf ?_)
  simp only [if_true]
  refine Ev.bind (a := 1 + 2 * ((r.length : Int) - ((0 : Nat) : Int))) e4 ?_
  simp only [hneg, if_false, if_true]
  exact Ev.now _

end Go.Proofs.Ythlinnbamejmaaa.Pure
