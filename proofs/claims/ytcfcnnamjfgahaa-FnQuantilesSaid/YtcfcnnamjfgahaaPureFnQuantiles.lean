/- FnQuantiles: a quantile lies between the least and the greatest and doesn't fall: the plain law. -/
import Derived.Test.YtcfcnnamjfgahaaPFnQuantilesx4
namespace Go.Proofs.Ytcfcnnamjfgahaa.Pure
open Go.RowKit Go.Proofs.Ytcfcnnamjfgahaa.PFnQuantiles Go.Proofs.YtcfcnnamjfgahaaW.PrintWords Go.Proofs.YtcfcnnamjfgahaaW.PrintLast

/-! ### small words -/
theorem wrap_in {n : Int} (h : -9223372036854775808 ≤ n) (h' : n < 9223372036854775808) : wrap64 n = n := by unfold wrap64; omega
theorem Ev.succ {α : Type} {g : Nat → Option α} {r : α} (h : Ev (fun k => g (k + 1)) r) : Ev g r := Ev.step (fun _ => rfl) h
theorem wf_i64 {n : Int} (h : (Lit.int .i64 n).wf = true) : -9223372036854775808 ≤ n ∧ n ≤ 9223372036854775807 := by
  have h2 : decide (IntKind.i64.min ≤ n) && decide (n ≤ IntKind.i64.max) := h
  rw [Bool.and_eq_true] at h2
  have a : IntKind.i64.min ≤ n := of_decide_eq_true h2.1
  have b : n ≤ IntKind.i64.max := of_decide_eq_true h2.2
  have ea : IntKind.i64.min = -9223372036854775808 := by decide
  have eb : IntKind.i64.max = 9223372036854775807 := by decide
  omega
theorem dropAt {α : Type} (l : List α) (d : α) (i : Nat) (h : i < l.length) : l.drop i = l.getD i d :: l.drop (i + 1) := by
  rw [List.drop_eq_getElem_cons h]; simp [h]
theorem dropEnd {α : Type} (l : List α) (i : Nat) (h : l.length ≤ i) : l.drop i = [] := List.drop_eq_nil_of_le h
theorem set_take {α : Type} (l : List α) (i : Nat) (v : α) (h : i < l.length) : (l.set i v).take (i + 1) = l.take i ++ [v] := by
  apply List.ext_getElem?
  intro j
  simp only [List.getElem?_take, List.getElem?_set, List.getElem?_append, List.length_take]
  by_cases c : j < i
  · rw [if_pos (by omega), if_neg (by omega), if_pos (by omega), if_pos c]
  · by_cases e : j = i
    · subst e
      rw [if_pos (by omega), if_pos rfl, if_pos h, if_neg (by omega)]
      simp [Nat.min_eq_left (Nat.le_of_lt h)]
    · rw [if_neg (by omega), if_neg (by omega)]
      rw [List.getElem?_eq_none]
      simp; omega
theorem rd_nat (l : List Int) (i : Nat) : rd l (i : Int) = l.getD i 0 := by unfold rd; simp

/-! ### the reader of choices -/
theorem wrap_u64 (n : Int) : IntKind.u64.wrap n = n % 18446744073709551616 := by simp [IntKind.wrap, IntKind.bits, IntKind.signed]
theorem and255 (x : Int) (h0 : 0 ≤ x) (h1 : x < 18446744073709551616) : Go.bits .and .u64 x 255 = x % 256 :=
  Go.bits_mask .u64 64 (by decide) (fun n h0 h1 => by
    rw [wrap_u64]
    have : (2 : Int) ^ 64 = 18446744073709551616 := by decide
    omega) 8 (by decide) x h0 (by
    have : (2 : Int) ^ 64 = 18446744073709551616 := by decide
    omega)
theorem bits_range (x : Int) : 0 ≤ Go.bits .and .u64 (IntKind.u64.wrap x / 1099511627776) 255 ∧ Go.bits .and .u64 (IntKind.u64.wrap x / 1099511627776) 255 ≤ 255 := by
  rw [wrap_u64, and255 _ (by omega) (by omega)]
  omega
def Bytes (l : List Int) : Prop := l.length ≤ 140737488355328 ∧ ∀ x ∈ l, 0 ≤ x ∧ x ≤ 255
theorem bytes_wf (l : List Int) (h1 : l.length ≤ 140737488355328) (h : ∀ x ∈ l, (Lit.int .u8 x).wf = true) : Bytes l := by
  refine ⟨h1, fun x hx => ?_⟩
  have h2 : (decide (IntKind.u8.min ≤ x) && decide (x ≤ IntKind.u8.max)) = true := h x hx
  rw [Bool.and_eq_true] at h2
  have a : IntKind.u8.min ≤ x := of_decide_eq_true h2.1
  have b : x ≤ IntKind.u8.max := of_decide_eq_true h2.2
  have ea : IntKind.u8.min = 0 := by decide
  have eb : IntKind.u8.max = 255 := by decide
  omega
theorem rd_byte {l : List Int} (h : Bytes l) (a : Int) (h0 : 0 ≤ a) (h1 : a < l.length) : 0 ≤ rd l a ∧ rd l a ≤ 255 := by
  have hlt : a.toNat < l.length := by omega
  have : rd l a = l[a.toNat] := by
    unfold rd
    rw [List.getD_eq_getElem?_getD, List.getElem?_eq_getElem hlt]; rfl
  rw [this]
  exact h.2 _ (List.getElem_mem hlt)

theorem next_tell {l : List Int} (hl : Bytes l) (a s : Int) (h0 : 0 ≤ a) (ha : a ≤ 4611686018427387904) : ∃ r s', spec_l1Cur_next.f l a s = some (r, a + 1, s') ∧ 0 ≤ r ∧ r ≤ 255 := by
  unfold spec_l1Cur_next.f
  rw [wrap_in (n := a + 1) (by omega) (by omega)]
  by_cases c : a < (l.length : Int)
  · have hb := rd_byte hl a h0 c
    rw [if_pos c, if_pos h0, if_pos (by omega), wrap_in (n := rd l a) (by omega) (by omega)]
    exact ⟨_, _, rfl, hb.1, hb.2⟩
  · rw [if_neg c]
    by_cases c2 : a + 1 ≤ (l.length : Int)
    · omega
    · rw [if_neg c2]
      have hb := bits_range (IntKind.u64.wrap (IntKind.u64.wrap (s * 6364136223846793005)) + 1442695040888963407)
      rw [wrap_in (by omega) (by omega)]
      exact ⟨_, _, rfl, hb.1, hb.2⟩

theorem pick_tell {l : List Int} (hl : Bytes l) (a s n : Int) (h0 : 0 ≤ a) (ha : a ≤ 4611686018427380000) : ∃ r a' s', spec_l1Cur_pick.f l a s n = some (r, a', s') ∧ 0 ≤ r ∧ (r < n ∨ r = 0) ∧ a ≤ a' ∧ a' ≤ a + 2 := by
  unfold spec_l1Cur_pick.f
  by_cases c : n ≤ 1
  · rw [if_pos c]; exact ⟨0, a, s, rfl, by omega, Or.inr rfl, by omega, by omega⟩
  · rw [if_neg c]
    obtain ⟨r, s1, e1, r0, r1⟩ := next_tell hl a s h0 (by omega)
    rw [e1]
    simp only [Option.bind_some]
    by_cases c2 : n > 200
    · rw [if_pos c2]
      obtain ⟨q, s2, e2, q0, q1⟩ := next_tell hl (a + 1) s1 (by omega) (by omega)
      rw [e2]
      simp only [Option.bind_some]
      rw [if_neg (by omega), wrap_in (n := r * 256) (by omega) (by omega), wrap_in (n := r * 256 + q) (by omega) (by omega), Int.tmod_eq_emod_of_nonneg (by omega)]
      exact ⟨_, _, _, rfl, Int.emod_nonneg _ (by omega), Or.inl (Int.emod_lt_of_pos _ (by omega)), by omega, by omega⟩
    · rw [if_neg c2, if_neg (by omega), Int.tmod_eq_emod_of_nonneg r0]
      exact ⟨_, _, _, rfl, Int.emod_nonneg _ (by omega), Or.inl (Int.emod_lt_of_pos _ (by omega)), by omega, by omega⟩

theorem one_tell {l : List Int} (hl : Bytes l) (a s n : Int) (h0 : 0 ≤ a) (ha : a ≤ 4611686018427380000) : ∃ b a' s', spec_l1Cur_one.f l a s n = some (b, a', s') ∧ a ≤ a' ∧ a' ≤ a + 2 := by
  obtain ⟨r, a', s', e, _, _, h1, h2⟩ := pick_tell hl a s n h0 ha
  unfold spec_l1Cur_one.f
  rw [e]; exact ⟨_, _, _, rfl, h1, h2⟩
theorem rare_tell {l : List Int} (hl : Bytes l) (a s n : Int) (hn : 2 ≤ n) (hn' : n ≤ 1000000) (h0 : 0 ≤ a) (ha : a ≤ 4611686018427370000) : ∃ r a' s', spec_l1Cur_rare.f l a s n = some (r, a', s') ∧ 0 ≤ r ∧ r < n ∧ a ≤ a' ∧ a' ≤ a + 4 := by
  obtain ⟨b, a1, s1, e, h1, h2⟩ := one_tell hl a s 8 h0 (by omega)
  unfold spec_l1Cur_rare.f
  rw [e]; simp only [Option.bind_some]
  cases b with
  | false => exact ⟨0, a1, s1, rfl, by omega, by omega, by omega, by omega⟩
  | true =>
    rw [wrap_in (n := n - 1) (by omega) (by omega)]
    obtain ⟨r, a2, s2, e2, r0, r1, h3, h4⟩ := pick_tell hl a1 s1 (n - 1) (by omega) (by omega)
    rw [if_pos rfl, e2]; simp only [Option.bind_some]
    rw [wrap_in (n := 1 + r) (by omega) (by omega)]
    exact ⟨1 + r, a2, s2, rfl, by omega, by omega, by omega, by omega⟩

/-! ### what is drawn -/
theorem u64_nn (n : Int) : 0 ≤ IntKind.u64.wrap n := by rw [wrap_u64]; omega
theorem wide_loop {l : List Int} (hl : Bytes l) (d : Nat) : ∀ (x i a s : Int), 0 ≤ i → i ≤ 8 → (8 - i).toNat ≤ d → 0 ≤ a → a ≤ 1000000 + i → ∃ r a' s', Ev (fun k => spec_l1Cur_wide.l0 k x i l a s) (r, a', s') ∧ a ≤ a' ∧ a' ≤ a + (8 - i) := by
  induction d with
  | zero =>
    intro x i a s h0 h8 hd ha ha'
    have hi : i = 8 := by omega
    subst hi
    refine ⟨x, a, s, Ev.succ ?_, by omega, by omega⟩
    simp only [spec_l1Cur_wide.l0, show ¬ (8 : Int) < 8 by omega, if_false]
    exact Ev.now _
  | succ d ih =>
    intro x i a s h0 h8 hd ha ha'
    by_cases c : i < 8
    · obtain ⟨r, s1, e1, _, _⟩ := next_tell hl a s ha (by omega)
      by_cases hb : a + 1 ≤ 1000000 + (i + 1)
      · obtain ⟨q, a2, s2, e2, g1, g2⟩ := ih (Go.bits .or .i64 (wrap64 (x * 256)) r) (i + 1) (a + 1) s1 (by omega) (by omega) (by omega) (by omega) hb
        refine ⟨q, a2, s2, Ev.succ ?_, by omega, by omega⟩
        simp only [spec_l1Cur_wide.l0, c, if_true, e1, Option.bind_some, wrap_in (n := i + 1) (by omega) (by omega)]
        exact e2
      · exact absurd hb (by omega)
    · have hi : i = 8 := by omega
      subst hi
      refine ⟨x, a, s, Ev.succ ?_, by omega, by omega⟩
      simp only [spec_l1Cur_wide.l0, show ¬ (8 : Int) < 8 by omega, if_false]
      exact Ev.now _
theorem wide_tell {l : List Int} (hl : Bytes l) (a s : Int) (h0 : 0 ≤ a) (ha : a ≤ 1000000) : ∃ r a' s', Ev (fun k => spec_l1Cur_wide.f k l a s) (r, a', s') ∧ a ≤ a' ∧ a' ≤ a + 8 := by
  obtain ⟨r, a', s', e, g1, g2⟩ := wide_loop hl 8 0 0 a s (by omega) (by omega) (by omega) h0 (by omega)
  exact ⟨r, a', s', e, g1, by omega⟩
theorem sized_tell {l : List Int} (hl : Bytes l) (a s : Int) (h0 : 0 ≤ a) (ha : a ≤ 900000) : ∃ r a' s', Ev (fun k => spec_l1Cur_sized.f k l a s) (r, a', s') ∧ a ≤ a' ∧ a' ≤ a + 20 := by
  obtain ⟨p1, a1, s1, e1, _, _, g1, g1'⟩ := pick_tell hl a s 5 h0 (by omega)
  obtain ⟨p2, a2, s2, e2, _, _, g2, g2'⟩ := pick_tell hl a1 s1 8 (by omega) (by omega)
  unfold spec_l1Cur_sized.f
  simp only [e1, e2, Option.bind_some]
  by_cases c0 : p2 = 0
  · obtain ⟨p3, a3, s3, e3, _, _, g3, g3'⟩ := pick_tell hl a2 s2 300 (by omega) (by omega)
    obtain ⟨b, a4, s4, e4, g4, g4'⟩ := one_tell hl a3 s3 3 (by omega) (by omega)
    simp only [c0, if_true, e3, e4, Option.bind_some]
    by_cases cb : b = true
    · simp only [cb, if_true]; exact ⟨_, _, _, Ev.now _, by omega, by omega⟩
    · simp only [cb]; exact ⟨_, _, _, Ev.now _, by omega, by omega⟩
  by_cases c1 : p2 = 1
  · obtain ⟨r, a3, s3, e3, g3, g3'⟩ := wide_tell hl a2 s2 (by omega) (by omega)
    obtain ⟨p4, a4, s4, e4, _, _, g4, g4'⟩ := pick_tell hl a3 s3 64 (by omega) (by omega)
    obtain ⟨b, a5, s5, e5, g5, g5'⟩ := one_tell hl a4 s4 3 (by omega) (by omega)
    simp only [c1, show ¬ (1 : Int) = 0 by omega, if_true, if_false]
    by_cases cb : b = true
    · refine ⟨wrap64 (-(shr .i64 r (IntKind.u64.wrap p4))), a5, s5, Ev.bind e3 ?_, by omega, by omega⟩
      simp only [e4, e5, Option.bind_some, u64_nn, if_true, cb]
      exact Ev.now _
    · refine ⟨shr .i64 r (IntKind.u64.wrap p4), a5, s5, Ev.bind e3 ?_, by omega, by omega⟩
      simp only [e4, e5, Option.bind_some, u64_nn, if_true, cb]
      exact Ev.now _
  obtain ⟨p3, a3, s3, e3, _, _, g3, g3'⟩ := pick_tell hl a2 s2 64 (by omega) (by omega)
  obtain ⟨b, a4, s4, e4, g4, g4'⟩ := one_tell hl a3 s3 3 (by omega) (by omega)
  by_cases c2 : p2 = 2
  · simp only [c2, show ¬ (2 : Int) = 0 by omega, show ¬ (2 : Int) = 1 by omega, if_true, if_false, e3, e4, Option.bind_some, u64_nn]
    by_cases cb : b = true
    · simp only [cb, if_true]; exact ⟨_, _, _, Ev.now _, by omega, by omega⟩
    · simp only [cb]; exact ⟨_, _, _, Ev.now _, by omega, by omega⟩
  by_cases c3 : p2 = 3
  · simp only [c3, show ¬ (3 : Int) = 0 by omega, show ¬ (3 : Int) = 1 by omega, show ¬ (3 : Int) = 2 by omega, if_true, if_false, e3, e4, Option.bind_some, u64_nn]
    by_cases cb : b = true
    · simp only [cb, if_true]; exact ⟨_, _, _, Ev.now _, by omega, by omega⟩
    · simp only [cb]; exact ⟨_, _, _, Ev.now _, by omega, by omega⟩
  · obtain ⟨b, a4, s4, e4, g4, g4'⟩ := one_tell hl a2 s2 3 (by omega) (by omega)
    simp only [c0, c1, c2, c3, if_false, e4, Option.bind_some]
    by_cases cb : b = true
    · simp only [cb, if_true]; exact ⟨_, _, _, Ev.now _, by omega, by omega⟩
    · simp only [cb]; exact ⟨_, _, _, Ev.now _, by omega, by omega⟩
theorem four_q {l : List Int} (hl : Bytes l) (a s : Int) (h0 : 0 ≤ a) (ha : a ≤ 900000) :
    ∃ p a1 s1 r a2 s2, spec_l1Cur_pick.f l a s 1001 = some (p, a1, s1) ∧ spec_l1Cur_rare.f l a1 s1 4 = some (r, a2, s2) ∧ 0 ≤ r ∧ r < 4 ∧ -5 ≤ rd [p, (-5), 1001, 500] r ∧ rd [p, (-5), 1001, 500] r ≤ 1001 := by
  obtain ⟨p, a1, s1, e1, p0, p1, g1, g1'⟩ := pick_tell hl a s 1001 h0 (by omega)
  obtain ⟨r, a2, s2, e2, r0, r1, g2, g2'⟩ := rare_tell hl a1 s1 4 (by omega) (by omega) (by omega) (by omega)
  refine ⟨p, a1, s1, r, a2, s2, e1, e2, r0, r1, ?_⟩
  have : r = 0 ∨ r = 1 ∨ r = 2 ∨ r = 3 := by omega
  rcases this with rfl | rfl | rfl | rfl <;> simp [rd] <;> omega
theorem draw_loop {l : List Int} (hl : Bytes l) (d : Nat) : ∀ (L : List Int) (i a s : Int), i.toNat ≤ d → d ≤ 20 → (L.length : Int) + d ≤ 40 → 0 ≤ a → a + 20 * d ≤ 800000 →
    ∃ L' q, Ev (fun k => spec_DrawQuantileOf.l0 k L i l a s) (L', q) ∧ L'.length ≤ 2001 ∧ -5 ≤ q ∧ q ≤ 1001 := by
  have fin : ∀ (L : List Int) (i a s : Int), i ≤ 0 → (L.length : Int) ≤ 40 → 0 ≤ a → a ≤ 800000 → ∃ L' q, Ev (fun k => spec_DrawQuantileOf.l0 k L i l a s) (L', q) ∧ L'.length ≤ 2001 ∧ -5 ≤ q ∧ q ≤ 1001 := by
    intro L i a s hi hL ha ha'
    obtain ⟨b, a1, s1, e1, g1, g1'⟩ := one_tell hl a s 30 ha (by omega)
    by_cases cb : b = true
    · obtain ⟨m, a2, s2, e2, m0, m1, g2, g2'⟩ := pick_tell hl a1 s1 3 (by omega) (by omega)
      obtain ⟨p, a3, s3, r, a4, s4, e3, e4, r0, r1, q0, q1⟩ := four_q hl a2 s2 (by omega) (by omega)
      refine ⟨List.replicate (1999 + m).toNat 0, rd [p, (-5), 1001, 500] r, Ev.succ ?_, by rw [List.length_replicate]; omega, q0, q1⟩
      simp only [spec_DrawQuantileOf.l0, show ¬ i > 0 by omega, if_false, e1, Option.bind_some, cb, if_true, e2, wrap_in (n := 1999 + m) (by omega) (by omega), show 0 ≤ 1999 + m by omega, show (1999 + m).toNat ≤ 35184372088832 by omega, e3, e4, r0, List.length_cons, List.length_nil, show r < ((0 + 1 + 1 + 1 + 1 : Nat) : Int) by omega]
      exact Ev.now _
    · obtain ⟨p, a3, s3, r, a4, s4, e3, e4, r0, r1, q0, q1⟩ := four_q hl a1 s1 (by omega) (by omega)
      refine ⟨L, rd [p, (-5), 1001, 500] r, Ev.succ ?_, by omega, q0, q1⟩
      simp only [spec_DrawQuantileOf.l0, show ¬ i > 0 by omega, if_false, e1, Option.bind_some, cb, if_true, e3, e4, r0, List.length_cons, List.length_nil, show r < ((0 + 1 + 1 + 1 + 1 : Nat) : Int) by omega]
      exact Ev.now _
  induction d with
  | zero =>
    intro L i a s hi _ hL ha ha'
    exact fin L i a s (by omega) (by omega) ha (by omega)
  | succ d ih =>
    intro L i a s hi hd hL ha ha'
    by_cases c : i > 0
    · obtain ⟨v, a1, s1, e1, g1, g1'⟩ := sized_tell hl a s ha (by omega)
      obtain ⟨L', q, e2, hq⟩ := ih (L ++ [v]) (i - 1) a1 s1 (by omega) (by omega) (by rw [List.length_append, List.length_singleton]; omega) (by omega) (by omega)
      refine ⟨L', q, Ev.succ ?_, hq⟩
      simp only [spec_DrawQuantileOf.l0, c, if_true]
      refine Ev.bind e1 ?_
      simp only [show L.length < 17592186044416 by omega, if_true, wrap_in (n := i - 1) (by omega) (by omega)]
      exact e2
    · exact fin L i a s (by omega) (by omega) ha (by omega)
theorem drawn {l : List Int} (hl : Bytes l) : ∃ L q, Ev (fun k => spec_DrawQuantileOf.f k l) (L, q) ∧ L.length ≤ 2001 ∧ -5 ≤ q ∧ q ≤ 1001 := by
  obtain ⟨p, a, s, e, p0, p1, g, g'⟩ := pick_tell hl 0 0 12 (by omega) (by omega)
  obtain ⟨L, q, e2, hq⟩ := draw_loop hl 20 [] p a s (by omega) (by omega) (by simp) (by omega) (by omega)
  refine ⟨L, q, ?_, hq⟩
  unfold spec_DrawQuantileOf.f
  simp only [e, Option.bind_some]
  exact e2

/-! ### a quantile of a sorted row -/
def Up (S : List Int) : Prop := ∀ i j : Int, 0 ≤ i → i ≤ j → j < S.length → rd S i ≤ rd S j
theorem rd_lt (S : List Int) (i : Int) (h0 : 0 ≤ i) (h1 : i < S.length) : ∃ h : i.toNat < S.length, rd S i = S[i.toNat]'h := by
  have h : i.toNat < S.length := by omega
  refine ⟨h, ?_⟩
  unfold rd
  rw [List.getD_eq_getElem?_getD, List.getElem?_eq_getElem h]; rfl
theorem sorted_up (l : List Int) : Up (l.mergeSort fun x y => decide (x ≤ y)) := by
  intro i j h0 h1 h2
  have hp := List.pairwise_mergeSort (le := fun x y : Int => decide (x ≤ y)) (fun a b c h1 h2 => decide_eq_true (Int.le_trans (of_decide_eq_true h1) (of_decide_eq_true h2)))
    (fun a b => by rcases Int.le_total a b with h | h <;> simp [h]) l
  obtain ⟨hi, ei⟩ := rd_lt (l.mergeSort fun x y => decide (x ≤ y)) i h0 (by omega)
  obtain ⟨hj, ej⟩ := rd_lt (l.mergeSort fun x y => decide (x ≤ y)) j (by omega) h2
  rw [ei, ej]
  by_cases c : i = j
  · subst c; exact Int.le_refl _
  · exact of_decide_eq_true (List.pairwise_iff_getElem.1 hp _ _ hi hj (by omega))
theorem between (l : List Int) (v : Int) (hv : v ∈ l) : rd (l.mergeSort fun x y => decide (x ≤ y)) 0 ≤ v ∧ v ≤ rd (l.mergeSort fun x y => decide (x ≤ y)) ((l.length : Int) - 1) := by
  have hm : v ∈ l.mergeSort fun x y => decide (x ≤ y) := List.mem_mergeSort.2 hv
  have hlen : (l.mergeSort fun x y => decide (x ≤ y)).length = l.length := List.length_mergeSort _
  obtain ⟨n, hn, e⟩ := List.mem_iff_getElem.1 hm
  have hu := sorted_up l
  obtain ⟨hi, ei⟩ := rd_lt (l.mergeSort fun x y => decide (x ≤ y)) (n : Int) (by omega) (by omega)
  have hv' : rd (l.mergeSort fun x y => decide (x ≤ y)) (n : Int) = v := by rw [ei]; simpa using e
  exact ⟨hv' ▸ hu 0 n (by omega) (by omega) (by omega), hv' ▸ hu n _ (by omega) (by omega) (by omega)⟩
/-- The quantile at r of the way (in thousandths of a step). -/
def qv (S : List Int) (r : Int) : Int := rd S (r / 1000) + (rd S (r / 1000 + 1) - rd S (r / 1000)) * (r % 1000) / 1000
theorem qv_whole (S : List Int) (r : Int) (h : r % 1000 = 0) : qv S r = rd S (r / 1000) := by
  unfold qv
  rw [h, Int.mul_zero]; simp
theorem part_bd (D f : Int) (hD : 0 ≤ D) (h0 : 0 ≤ f) (h1 : f ≤ 999) : 0 ≤ D * f / 1000 ∧ D * f / 1000 ≤ D := by
  have a : 0 ≤ D * f := Int.mul_nonneg hD h0
  have b : D * f ≤ D * 999 := Int.mul_le_mul_of_nonneg_left h1 hD
  constructor <;> omega
theorem qv_ge (S : List Int) (hu : Up S) (r : Int) (h0 : 0 ≤ r) (h1 : r ≤ 1000 * ((S.length : Int) - 1)) : rd S (r / 1000) ≤ qv S r := by
  by_cases c : r % 1000 = 0
  · rw [qv_whole S r c]; exact Int.le_refl _
  · have hs := hu (r / 1000) (r / 1000 + 1) (by omega) (by omega) (by omega)
    have := part_bd (rd S (r / 1000 + 1) - rd S (r / 1000)) (r % 1000) (by omega) (by omega) (by omega)
    unfold qv
    omega
theorem qv_mono (S : List Int) (hu : Up S) (r t : Int) (h0 : 0 ≤ r) (h1 : r ≤ t) (h2 : t ≤ 1000 * ((S.length : Int) - 1)) : qv S r ≤ qv S t := by
  by_cases e : r = t
  · subst e; exact Int.le_refl _
  by_cases c : r / 1000 = t / 1000
  · have hs := hu (r / 1000) (r / 1000 + 1) (by omega) (by omega) (by omega)
    unfold qv
    rw [← c]
    have a : (rd S (r / 1000 + 1) - rd S (r / 1000)) * (r % 1000) ≤ (rd S (r / 1000 + 1) - rd S (r / 1000)) * (t % 1000) := Int.mul_le_mul_of_nonneg_left (by omega) (by omega)
    have := Int.ediv_le_ediv (c := 1000) (by omega) a
    omega
  · have hs := hu (r / 1000) (r / 1000 + 1) (by omega) (by omega) (by omega)
    have hs2 := hu (r / 1000 + 1) (t / 1000) (by omega) (by omega) (by omega)
    have hp := part_bd (rd S (r / 1000 + 1) - rd S (r / 1000)) (r % 1000) (by omega) (by omega) (by omega)
    have := qv_ge S hu t (by omega) h2
    have hq : qv S r ≤ rd S (r / 1000 + 1) := by unfold qv; omega
    omega

/-! ### what the program answers -/
def cl (q : Int) : Int := mn (mx q 0) 1000
theorem cl_is (q : Int) : (q < 0 ∧ cl q = 0) ∨ (0 ≤ q ∧ q ≤ 1000 ∧ cl q = q) ∨ (1000 < q ∧ cl q = 1000) := by
  unfold cl mn mx
  by_cases h1 : q < 0
  · simp [h1]
  · by_cases h2 : 1000 < q
    · simp [h1, h2]
    · simp [h1, h2]; omega
theorem cl_bd (q : Int) : 0 ≤ cl q ∧ cl q ≤ 1000 := by
  have := cl_is q
  omega
theorem cl_mono (p q : Int) (h : p ≤ q) : cl p ≤ cl q := by
  have := cl_is p
  have := cl_is q
  omega
theorem quot_some (m : Int) : ∃ t, impl_Quotient.f m 1000 = some t ∧ (0 ≤ m → m < 9223372036854775808 → t = m / 1000) := by
  unfold impl_Quotient.f
  rw [if_neg (by omega)]
  by_cases c : Int.tmod m 1000 = 0
  · rw [if_pos c]
    refine ⟨_, rfl, fun h h' => ?_⟩
    rw [Int.tdiv_eq_ediv_of_nonneg h, wrap_in (by omega) (by omega)]
  · rw [if_neg c]
    by_cases c2 : ((decide (m < 0)) != (decide ((1000 : Int) < 0))) = true
    · rw [if_pos c2]
      refine ⟨_, rfl, fun h h' => ?_⟩
      simp [show ¬ m < 0 by omega] at c2
    · rw [if_neg c2]
      refine ⟨_, rfl, fun h h' => ?_⟩
      rw [Int.tdiv_eq_ediv_of_nonneg h, wrap_in (by omega) (by omega)]
def Small (l : List Int) : Prop := ∀ v ∈ l, -1099511627776 ≤ v ∧ v ≤ 1099511627776
theorem quant_out (l : List Int) (q : Int) (h : (l.length : Int) < 1 ∨ (l.length : Int) > 2000) : Ev (fun k => impl_QuantileOf.f k l q) (0, false) := by
  unfold impl_QuantileOf.f
  by_cases c : (l.length : Int) < 1
  · simp only [c, if_true]
    refine Ev.succ ?_
    simp only [impl_QuantileOf.j0, if_true]; exact Ev.now _
  · simp only [c, if_false, show (l.length : Int) > 2000 by omega, decide_true]
    refine Ev.succ ?_
    simp only [impl_QuantileOf.j0, if_true]; exact Ev.now _
theorem quant_in (l : List Int) (q : Int) (h1 : 1 ≤ (l.length : Int)) (h2 : (l.length : Int) ≤ 2000) : ∃ x, Ev (fun k => impl_QuantileOf.f k l q) (x, true) ∧
    ((cl q * ((l.length : Int) - 1)) % 1000 = 0 ∨ Small l → x = qv (l.mergeSort fun x y => decide (x ≤ y)) (cl q * ((l.length : Int) - 1))) := by
  have hc := cl_bd q
  have r0 : 0 ≤ cl q * ((l.length : Int) - 1) := Int.mul_nonneg hc.1 (by omega)
  have r1 : cl q * ((l.length : Int) - 1) ≤ 1000 * ((l.length : Int) - 1) := Int.mul_le_mul_of_nonneg_right hc.2 (by omega)
  have hclq : cl q = mn (mx q 0) 1000 := rfl
  generalize hr : cl q * ((l.length : Int) - 1) = r at *
  have hlen : (l.mergeSort fun x y => decide (x ≤ y)).length = l.length := List.length_mergeSort _
  have hu := sorted_up l
  have hsm : Small l → Small (l.mergeSort fun x y => decide (x ≤ y)) := fun h v hv => h v (List.mem_mergeSort.1 hv)
  have hso : slices_Sort_int_int.f l = some (l.mergeSort fun x y => decide (x ≤ y)) := by unfold slices_Sort_int_int.f; rw [if_pos (by omega)]
  generalize (l.mergeSort fun x y => decide (x ≤ y)) = S at *
  have w1 : wrap64 ((l.length : Int) - 1) = (l.length : Int) - 1 := wrap_in (by omega) (by omega)
  have w2 : wrap64 r = r := wrap_in (by omega) (by omega)
  have w3 : wrap64 (Int.tdiv r 1000) = r / 1000 := by rw [Int.tdiv_eq_ediv_of_nonneg r0, wrap_in (by omega) (by omega)]
  have w4 : Int.tmod r 1000 = r % 1000 := Int.tmod_eq_emod_of_nonneg r0
  have w5 : wrap64 (r / 1000 + 1) = r / 1000 + 1 := wrap_in (by omega) (by omega)
  have key : ∀ x, (∀ k, impl_QuantileOf.j0 (k + 1) l q (l.length : Int) false = some (x, true)) → Ev (fun k => impl_QuantileOf.f k l q) (x, true) := by
    intro x h
    unfold impl_QuantileOf.f
    simp only [show ¬ (l.length : Int) < 1 by omega, if_false, show ¬ (l.length : Int) > 2000 by omega, decide_false]
    refine Ev.succ ?_
    simp only [h]
    exact Ev.now _
  have hcl : slices_Clone_int_int.f l = some l := by unfold slices_Clone_int_int.f; rw [if_pos (by omega)]
  by_cases c : r % 1000 = 0
  · refine ⟨rd S (r / 1000), key _ (fun k => ?_), fun _ => (qv_whole S r c).symm⟩
    simp only [impl_QuantileOf.j0, Bool.false_eq_true, if_false, hcl, hso, Option.bind_some, w1, ← hclq, hr, w2, w3, show 0 ≤ r / 1000 by omega, show r / 1000 < (l.length : Int) by omega, if_true, w4, c]
  · obtain ⟨t, et, ht⟩ := quot_some (wrap64 ((wrap64 (rd S (r / 1000 + 1) - rd S (r / 1000))) * (r % 1000)))
    refine ⟨wrap64 (rd S (r / 1000) + t), key _ (fun k => ?_), fun h => ?_⟩
    · simp only [impl_QuantileOf.j0, Bool.false_eq_true, if_false, hcl, hso, Option.bind_some, w1, ← hclq, hr, w2, w3, show 0 ≤ r / 1000 by omega, show r / 1000 < (l.length : Int) by omega, if_true, w4, c, w5, show 0 ≤ r / 1000 + 1 by omega, show r / 1000 + 1 < (l.length : Int) by omega, et]
    · have hS := hsm (h.resolve_left c)
      have b0 : -1099511627776 ≤ rd S (r / 1000) ∧ rd S (r / 1000) ≤ 1099511627776 := by
        obtain ⟨hi, ei⟩ := rd_lt S (r / 1000) (by omega) (by omega)
        rw [ei]; exact hS _ (List.getElem_mem hi)
      have b1 : -1099511627776 ≤ rd S (r / 1000 + 1) ∧ rd S (r / 1000 + 1) ≤ 1099511627776 := by
        obtain ⟨hi, ei⟩ := rd_lt S (r / 1000 + 1) (by omega) (by omega)
        rw [ei]; exact hS _ (List.getElem_mem hi)
      have hs := hu (r / 1000) (r / 1000 + 1) (by omega) (by omega) (by omega)
      have a : 0 ≤ (rd S (r / 1000 + 1) - rd S (r / 1000)) * (r % 1000) := Int.mul_nonneg (by omega) (by omega)
      have b : (rd S (r / 1000 + 1) - rd S (r / 1000)) * (r % 1000) ≤ (rd S (r / 1000 + 1) - rd S (r / 1000)) * 999 := Int.mul_le_mul_of_nonneg_left (by omega) (by omega)
      rw [wrap_in (n := rd S (r / 1000 + 1) - rd S (r / 1000)) (by omega) (by omega), wrap_in (by omega) (by omega)] at ht
      have e := ht a (by omega)
      subst e
      unfold qv
      rw [wrap_in (by omega) (by omega)]

/-! ### the law -/
theorem law_loop (l : List Int) (x low high y : Int) (hlow : ∀ v ∈ l, low ≤ v ∧ v ≤ high) (hfin : Small l → low ≤ x ∧ x ≤ high ∧ x ≤ y) (hn : l.length ≤ 2000) (d : Nat) :
    ∀ j : Nat, l.length - j ≤ d → j ≤ l.length → Small (l.take j) → Ev (fun k => laws_FnQuantiles.l0 k x low high y l (l.length : Int) (j : Int)) true := by
  have fin : ∀ j : Nat, l.length ≤ j → Small (l.take j) → Ev (fun k => laws_FnQuantiles.l0 k x low high y l (l.length : Int) (j : Int)) true := by
    intro j hj hs
    rw [List.take_of_length_le hj] at hs
    obtain ⟨f1, f2, f3⟩ := hfin hs
    refine Ev.succ ?_
    simp only [laws_FnQuantiles.l0, show ¬ (j : Int) < (l.length : Int) by omega, if_false, show x ≥ low by omega, f2, if_true, show y ≥ x by omega, decide_true]
    exact Ev.now _
  induction d with
  | zero => intro j hd _ hs; exact fin j (by omega) hs
  | succ d ih =>
    intro j hd hj hs
    by_cases c : j < l.length
    · obtain ⟨hi, ei⟩ := rd_lt l (j : Int) (by omega) (by omega)
      have hm : rd l (j : Int) ∈ l := by rw [ei]; exact List.getElem_mem hi
      have hb := hlow _ hm
      refine Ev.succ ?_
      simp only [laws_FnQuantiles.l0, show (j : Int) < (l.length : Int) by omega, show 0 ≤ (j : Int) by omega, if_true, show ¬ rd l (j : Int) < low by omega, if_false, show ¬ rd l (j : Int) > high by omega, decide_false]
      refine Ev.succ ?_
      simp only [laws_FnQuantiles.j4, Bool.false_eq_true, if_false]
      by_cases c1 : rd l (j : Int) > 1099511627776
      · simp only [c1, if_true]; exact Ev.now _
      by_cases c2 : rd l (j : Int) < -1099511627776
      · simp only [c1, c2, if_true, if_false]; exact Ev.now _
      simp only [c1, c2, if_false, wrap_in (n := (j : Int) + 1) (by omega) (by omega)]
      refine ih (j + 1) (by omega) (by omega) ?_
      intro v hv
      rw [List.take_succ_eq_append_getElem c, List.mem_append] at hv
      rcases hv with hv | hv
      · exact hs v hv
      · have : v = rd l (j : Int) := by rw [ei]; simpa using hv
        omega
    · exact fin j (by omega) hs

theorem zbyte_tell {l : List Int} (hl : Bytes l) (i : Int) (h : 0 ≤ i) : ∃ z, laws_zByte.f l i = some z ∧ 0 ≤ z ∧ z ≤ 255 := by
  unfold laws_zByte.f
  by_cases c : i < (l.length : Int)
  · have hb := rd_byte hl i h c
    rw [if_pos c, if_pos h, wrap_in (by omega) (by omega)]
    exact ⟨_, rfl, hb.1, hb.2⟩
  · rw [if_neg c]; exact ⟨0, rfl, by omega, by omega⟩

theorem FnQuantiles : laws_FnQuantiles.Pure := by
  intro l0 l1 h1 _ h3 h4 _ h6
  have hl : Bytes l0 := bytes_wf l0 (by unfold maxLen at h1; omega) h3
  have hl1 : Bytes l1 := bytes_wf l1 (by unfold maxLen at h4; omega) h6
  obtain ⟨L, q, ed, hL, q0, q1⟩ := drawn hl
  refine Ev.rounds (r := true) ?_
  have main : Ev (fun k => laws_FnQuantiles.j0 k l0 l1 false) true := by
    refine Ev.succ ?_
    simp only [laws_FnQuantiles.j0, Bool.false_eq_true, if_false]
    refine Ev.bind ed ?_
    simp only []
    by_cases c : (L.length : Int) < 1 ∨ (L.length : Int) > 2000
    · refine Ev.bind (quant_out L q c) ?_
      have hj : Ev (fun k => laws_FnQuantiles.j1 k l1 L q 0 false true) true := by
        refine Ev.succ ?_
        simp only [laws_FnQuantiles.j1, if_true, Bool.not_false]
        exact Ev.now _
      by_cases c1 : (L.length : Int) < 1
      · simp only [c1, if_true]; exact hj
      · simp only [c1, if_false, show (L.length : Int) > 2000 by omega, decide_true]; exact hj
    · have n1 : 1 ≤ (L.length : Int) := by omega
      have n2 : (L.length : Int) ≤ 2000 := by omega
      obtain ⟨x, ex, hx⟩ := quant_in L q n1 n2
      obtain ⟨low, elow, hlow⟩ := quant_in L 0 n1 n2
      obtain ⟨high, ehigh, hhigh⟩ := quant_in L 1000 n1 n2
      obtain ⟨z, ez, z0, z1⟩ := zbyte_tell hl1 0 (by omega)
      obtain ⟨t, et, t0, t1⟩ := zbyte_tell hl1 1 (by omega)
      have hm : Int.tmod t 4 = t % 4 := Int.tmod_eq_emod_of_nonneg t0
      obtain ⟨y, ey, hy⟩ := quant_in L (q + z + 256 * (t % 4)) n1 n2
      have c0 : cl 0 = 0 := by decide
      have c1000 : cl 1000 = 1000 := by decide
      rw [c0, Int.zero_mul] at hlow
      rw [c1000] at hhigh
      have hlow' := hlow (.inl (by omega))
      have hhigh' := hhigh (.inl (by omega))
      have hup := sorted_up L
      have hlen : (L.mergeSort fun x y => decide (x ≤ y)).length = L.length := List.length_mergeSort _
      have hbt := between L
      have hcq := cl_bd q
      have hcp := cl_bd (q + z + 256 * (t % 4))
      have hm2 := cl_mono q (q + z + 256 * (t % 4)) (by omega)
      have r0 : 0 ≤ cl q * ((L.length : Int) - 1) := Int.mul_nonneg hcq.1 (by omega)
      have r1 : cl q * ((L.length : Int) - 1) ≤ cl (q + z + 256 * (t % 4)) * ((L.length : Int) - 1) := Int.mul_le_mul_of_nonneg_right hm2 (by omega)
      have r2 : cl q * ((L.length : Int) - 1) ≤ 1000 * ((L.length : Int) - 1) := Int.mul_le_mul_of_nonneg_right hcq.2 (by omega)
      have r3 : cl (q + z + 256 * (t % 4)) * ((L.length : Int) - 1) ≤ 1000 * ((L.length : Int) - 1) := Int.mul_le_mul_of_nonneg_right hcp.2 (by omega)
      refine Ev.bind ex ?_
      simp only [show ¬ (L.length : Int) < 1 by omega, if_false, show ¬ (L.length : Int) > 2000 by omega, decide_false]
      refine Ev.succ ?_
      simp only [laws_FnQuantiles.j1, Bool.false_eq_true, if_false]
      refine Ev.bind elow (Ev.bind ehigh ?_)
      simp only [ez, et, Option.bind_some, hm, wrap_in (n := q + z) (by omega) (by omega), wrap_in (n := 256 * (t % 4)) (by omega) (by omega), wrap_in (n := q + z + 256 * (t % 4)) (by omega) (by omega)]
      refine Ev.bind ey ?_
      simp only [if_true, Bool.not_true]
      refine Ev.succ ?_
      simp only [laws_FnQuantiles.j2, Bool.false_eq_true, if_false]
      have e1 : low = rd (L.mergeSort fun x y => decide (x ≤ y)) 0 := hlow'.trans (qv_whole _ 0 (by omega))
      have e2 : high = rd (L.mergeSort fun x y => decide (x ≤ y)) ((L.length : Int) - 1) := by
        rw [hhigh', qv_whole _ _ (by omega)]
        congr 1
        omega
      refine law_loop L x low high y (fun v hv => by rw [e1, e2]; exact hbt v hv) (fun hs => ?_) (by omega) L.length 0 (by omega) (by omega) (by intro v hv; simp at hv)
      have e3 := hx (.inr hs)
      have e4 := hy (.inr hs)
      rw [e3, e4, hlow', hhigh']
      exact ⟨qv_mono _ hup _ _ (by omega) r0 (by rw [hlen]; exact r2), qv_mono _ hup _ _ r0 r2 (by rw [hlen]; exact Int.le_refl _), qv_mono _ hup _ _ r0 r1 (by rw [hlen]; exact r3)⟩
  have stop : Ev (fun k => laws_FnQuantiles.j0 k l0 l1 true) true := by
    refine Ev.succ ?_
    simp only [laws_FnQuantiles.j0, if_true]; exact Ev.now _
  unfold laws_FnQuantiles.f
  by_cases c : (l0.length : Int) > 1048576
  · simp only [c, if_true]; exact stop
  · simp only [c, if_false]
    by_cases c2 : (l1.length : Int) > 1048576
    · simp only [c2, decide_true]; exact stop
    · simp only [c2, decide_false]; exact main

end Go.Proofs.Ytcfcnnamjfgahaa.Pure
