/- The machine over typed values, part 2. -/
import Derived.Laws.Tables
import Derived.Laws.BytesArg
import Derived.OrdersHeld
import Derived.Deep.RegionHeld3
import Derived.Laws.BitsLemmas
import Derived.RowKit
import Derived.Test.YtlmenmaccoljeaaGreatV1
set_option linter.unusedSimpArgs false
set_option linter.unusedVariables false
set_option linter.unusedSectionVars false
namespace Go.VM
variable [β : Bor]
open Go.RowKit
section
variable {X : Cx} {M : Mem} {t : List (Nat × AV)} {used : Nat → Prop} {own : Nat → Option Nat} {a : Act} {h : Hp}
theorem Sees.mono {ids ids' : List Nat} {b : Nat} (hs : Sees M own ids b) (hi : ∀ i ∈ ids, i ∈ ids') : Sees M own ids' b := by
 rcases hs with h | ⟨id, h1, h2⟩
 ·exact .inl h
 ·exact .inr ⟨id, hi id h1, h2⟩
theorem tp_rep (hi : Inv X M t used own a) (hh : ∀ id, lkH h id ≠ .dead → M.h id = lkH h id) {id : Nat} {u : U} {y : Tr u.El} {v : Value} (hl : lkH h id = .tre u y) (hv : AVRep M (.tp id) v) :
  u.plain = true ∧ u.flat = true ∧ ∃ F, Rep M.w true (.pt u) y [v] F ∧ F.Nodup ∧ ∀ b ∈ F, own b = some id := by
 have hM : M.h id = .tre u y := by rw [hh id (by rw [hl]; simp), hl]
 simp only [AVRep] at hv
 have hrt := hi.rt id
 rw [hM] at hrt
 rw [hv (by rw [hM]; simp)]
 exact hrt
theorem castL_one {u v : U} {y : u.El} {l : List v.El} (h : castL u v [y] = some l) : ∃ e : u = v, l = [e ▸ y] := by
 unfold castL at h
 split at h
 ·rename_i e; subst e
  simp only [Option.some.injEq] at h
  exact ⟨rfl, h.symm⟩
 ·cases h
theorem asm_rep (hi : Inv X M t used own a) (hh : ∀ id, lkH h id ≠ .dead → M.h id = lkH h id) : ∀ {u : U} {cs : List AV} {x : u.El} {r : List AV}, u.plain = true → asm h u cs = some (x, r) → ∀ {vs : List Value}, AVRepL M cs vs →
  ∃ c1 v1 v2 F, cs = c1 ++ r ∧ vs = v1 ++ v2 ∧ AVRepL M r v2 ∧ Rep M.w false u x v1 F ∧ ∀ b ∈ F, Sees M own (refsL c1) b
 | .bool, cs, x, r, _, ha, vs, hr => by
  cases cs with
  | nil => simp [asm] at ha
  | cons c cs =>
   simp only [AVRepL] at hr
   obtain ⟨v, vr, rfl, h1, h2⟩ := hr
   simp only [asm] at ha
   split at ha
   ·simp only [Option.some.injEq, Prod.mk.injEq] at ha
    obtain ⟨rfl, rfl⟩ := ha
    exact ⟨[_], [v], vr, [], rfl, rfl, h2, ⟨by rw [im_bool h1], rfl⟩, by simp⟩
   ·cases ha
 | .int k, cs, x, r, _, ha, vs, hr => by
  cases cs with
  | nil => simp [asm] at ha
  | cons c cs =>
   simp only [AVRepL] at hr
   obtain ⟨v, vr, rfl, h1, h2⟩ := hr
   simp only [asm] at ha
   split at ha
   ·rename_i k' n
    obtain ⟨hk, ha⟩ := sw_some ha
    have hk : k = k' := by simpa using hk
    subst hk
    simp only [Option.some.injEq, Prod.mk.injEq] at ha
    obtain ⟨rfl, rfl⟩ := ha
    exact ⟨[_], [v], vr, [], rfl, rfl, h2, ⟨by rw [im_int h1], rfl⟩, by simp⟩
   ·cases ha
 | .str, cs, x, r, _, ha, vs, hr => by
  cases cs with
  | nil => simp [asm] at ha
  | cons c cs =>
   simp only [AVRepL] at hr
   obtain ⟨v, vr, rfl, h1, h2⟩ := hr
   simp only [asm] at ha
   split at ha
   ·simp only [Option.some.injEq, Prod.mk.injEq] at ha
    obtain ⟨rfl, rfl⟩ := ha
    exact ⟨[_], [v], vr, [], rfl, rfl, h2, ⟨by rw [im_str h1], rfl⟩, by simp⟩
   ·cases ha
 | .sl e u, cs, x, r, hp, ha, vs, hr => by
  cases cs with
  | nil => simp [asm] at ha
  | cons c cs =>
   simp only [AVRepL] at hr
   obtain ⟨v, vr, rfl, h1, h2⟩ := hr
   simp only [asm] at ha
   split at ha
   ·rename_i l hl
    simp only [Option.some.injEq, Prod.mk.injEq] at ha
    obtain ⟨rfl, rfl⟩ := ha
    obtain ⟨_, F, hs, hS⟩ := lookAs hi hh (show u.plain = true from hp) hl h1
    exact ⟨[c], [v], vr, F, rfl, rfl, h2, ⟨v, rfl, hs⟩, fun b hb => (hS b hb).mono (by simp [refsL])⟩
   ·cases ha
 | .unit, cs, x, r, _, ha, vs, hr => by
  simp only [asm, Option.some.injEq, Prod.mk.injEq] at ha
  obtain ⟨_, rfl⟩ := ha
  exact ⟨[], [], vs, [], rfl, rfl, hr, ⟨rfl, rfl⟩, by simp⟩
 | .pair p q, cs, x, r, hp, ha, vs, hr => by
  simp only [U.plain, Bool.and_eq_true] at hp
  simp only [asm] at ha
  split at ha
  ·rename_i y r1 h1
   split at ha
   ·rename_i z r2 h2
    simp only [Option.some.injEq, Prod.mk.injEq] at ha
    obtain ⟨rfl, rfl⟩ := ha
    obtain ⟨c1, v1, v2, F, rfl, rfl, hr1, hx, hF⟩ := asm_rep hi hh hp.1 h1 hr
    obtain ⟨d1, w1, w2, G, rfl, rfl, hr2, hy, hG⟩ := asm_rep hi hh hp.2 h2 hr1
    refine ⟨c1 ++ d1, v1 ++ w1, w2, F ++ G, by simp, by simp, hr2, ⟨v1, w1, F, G, rfl, rfl, hx, hy⟩, fun b hb => ?_⟩
    rcases List.mem_append.1 hb with hb | hb
    ·exact (hF b hb).mono (fun i hi => by obtain ⟨c, hc, hj⟩ := refsL_mem.1 hi; exact refsL_mem.2 ⟨c, by simp [hc], hj⟩)
    ·exact (hG b hb).mono (fun i hi => by obtain ⟨c, hc, hj⟩ := refsL_mem.1 hi; exact refsL_mem.2 ⟨c, by simp [hc], hj⟩)
   ·cases ha
  ·cases ha
 | .ar _ _, _, _, _, hp, _, _, _ => by cases hp
 | .oth, cs, x, r, _, ha, vs, hr => by
  cases cs with
  | nil => simp [asm] at ha
  | cons c cs =>
   simp only [AVRepL] at hr
   obtain ⟨v, vr, rfl, h1, h2⟩ := hr
   simp only [asm] at ha
   split at ha
   ·rename_i e u y
    simp only [Option.some.injEq, Prod.mk.injEq] at ha
    obtain ⟨_, rfl⟩ := ha
    simp only [AVRep] at h1
    obtain ⟨_, cs', F, hv, hrep, _⟩ := h1
    refine ⟨[_], [v], vr, [], rfl, rfl, h2, ⟨rfl, v, rfl, ?_⟩, by simp⟩
    obtain ⟨v', rfl, hs⟩ := hrep
    have hv : v = v' := hv
    rw [hv]
    exact Rep.one (u := .sl e u) ⟨v', rfl, hs⟩ v' (by simp)
   ·cases ha
 | .pt u, cs, x, r, hp, ha, vs, hr => by
  cases cs with
  | nil => simp [asm] at ha
  | cons c cs =>
   simp only [AVRepL] at hr
   obtain ⟨v, vr, rfl, h1, h2⟩ := hr
   simp only [asm] at ha
   split at ha
   ·split at ha
    ·rename_i l hl
     obtain ⟨e, rfl⟩ := castL_one hl
     simp only [U.pt.injEq] at e
     subst e
     simp only [List.headD_cons, Option.some.injEq, Prod.mk.injEq] at ha
     obtain ⟨rfl, rfl⟩ := ha
     simp only [AVRep] at h1
     obtain ⟨_, ws, F, hv, hR, hZ⟩ := h1
     have hlen := Rep.length hR
     obtain ⟨w1, rfl⟩ : ∃ w1, ws = [w1] := by
      match ws, hlen with
      | [w1], _ => exact ⟨w1, rfl⟩
     have : v = w1 := by simpa [valC, U.isAgg] using hv
     subst this
     exact ⟨[_], [v], vr, F, rfl, rfl, h2, Rep.frame (fun b hb => hi.zf b (hZ b hb)) hR, fun b hb => .inl (hZ b hb)⟩
    ·cases ha
   ·simp only [Option.some.injEq, Prod.mk.injEq] at ha
    obtain ⟨rfl, rfl⟩ := ha
    simp only [AVRep] at h1
    subst h1
    exact ⟨[_], [_], vr, [], rfl, rfl, h2, rep_pnil.2 ⟨rfl, rfl⟩, by simp⟩
   ·split at ha
    ·rename_i u' y hl0
     split at ha
     ·rename_i l hl
      obtain ⟨e, rfl⟩ := castL_one hl
      simp only [U.pt.injEq] at e
      subst e
      simp only [List.headD_cons, Option.some.injEq, Prod.mk.injEq] at ha
      obtain ⟨rfl, rfl⟩ := ha
      obtain ⟨_, _, F, hR, _, ho⟩ := tp_rep hi hh hl0 h1
      exact ⟨[_], [v], vr, F, rfl, rfl, h2, Rep.weak hR, fun b hb => .inr ⟨_, by simp [refsL, refs], ho b hb⟩⟩
     ·cases ha
    ·cases ha
   ·cases ha
 | .tr u, cs, x, r, hp, ha, vs, hr => by
  have hp' := hp
  simp only [U.plain, Bool.and_eq_true] at hp
  simp only [asm] at ha
  split at ha
  ·rename_i y k r1 h1
   split at ha
   ·rename_i l h2
    simp only [Option.some.injEq, Prod.mk.injEq] at ha
    obtain ⟨rfl, rfl⟩ := ha
    obtain ⟨c1, v1, v2, F, rfl, rfl, hr1, hx, hF⟩ := asm_rep hi hh hp.1 h1 hr
    simp only [AVRepL] at hr1
    obtain ⟨kv, vr, rfl, hk, hr2⟩ := hr1
    obtain ⟨_, G, hG, hS⟩ := lookAs hi hh hp' h2 hk
    refine ⟨c1 ++ [k], v1 ++ [kv], vr, G, by simp, by simp, hr2, tr_join hp.2 (t := .node y l) hx ⟨kv, rfl, hG⟩, fun b hb => (hS b hb).mono fun i hi => ?_⟩
    exact refsL_mem.2 ⟨k, by simp, hi⟩
   ·cases ha
  ·cases ha
 | .bs u, cs, x, r, hp, ha, vs, hr => by
  cases cs with
  | nil => simp [asm] at ha
  | cons c cs =>
   simp only [AVRepL] at hr
   obtain ⟨v, vr, rfl, h1, h2⟩ := hr
   simp only [asm] at ha
   split at ha
   ·rename_i u' l'
    split at ha
    ·rename_i l hl
     simp only [Option.some.injEq, Prod.mk.injEq] at ha
     obtain ⟨rfl, rfl⟩ := ha
     unfold castL at hl
     split at hl
     ·rename_i e; subst e
      simp only [Option.some.injEq] at hl
      subst hl
      simp only [AVRep] at h1
      obtain ⟨_, ws, F, hv, hR, _⟩ := h1
      obtain ⟨rfl, v', rfl, ho⟩ := hR
      have : v = v' := by simpa [valC, U.isAgg] using hv
      subst this
      exact ⟨[_], [v], vr, [], rfl, rfl, h2, ⟨rfl, _, rfl, ho⟩, by simp⟩
     ·cases hl
    ·cases ha
   ·simp only [Option.some.injEq, Prod.mk.injEq] at ha
    obtain ⟨rfl, rfl⟩ := ha
    simp only [AVRep] at h1
    subst h1
    exact ⟨[_], [_], vr, [], rfl, rfl, h2, ⟨rfl, _, rfl, Bor.nil u⟩, by simp⟩
   ·cases ha
theorem fits_val {u : U} {v : AV} {val : Value} (hp : u.plain = true) (hf : fitsU u v = true) (hv : AVRep M v val) : ∃ vs, AVRepL M (unpack v) vs ∧ ∀ cs : List Value, cs.length = u.sz → cs = vs → val = valOf u cs := by
 cases u with
 | ar n w => cases hp
 | unit =>
  cases v <;> first | cases hf | skip
  simp only [AVRep] at hv
  obtain ⟨vs, rfl, hr⟩ := hv
  exact ⟨vs, by simpa [unpack] using hr, fun cs _ h => by simp [valOf, U.isAgg, h]⟩
 | tr p =>
  cases v <;> first | cases hf | skip
  simp only [AVRep] at hv
  obtain ⟨vs, rfl, hr⟩ := hv
  exact ⟨vs, by simpa [unpack] using hr, fun cs _ h => by simp [valOf, U.isAgg, h]⟩
 | pair p q =>
  cases v <;> first | cases hf | skip
  simp only [AVRep] at hv
  obtain ⟨vs, rfl, hr⟩ := hv
  exact ⟨vs, by simpa [unpack] using hr, fun cs _ h => by simp [valOf, U.isAgg, h]⟩
 | _ =>
  refine ⟨[val], ?_, fun cs _ h => by subst h; simp [valOf, U.isAgg]⟩
  cases v <;> first
   | (simp only [unpack, AVRepL]; exact ⟨val, [], rfl, hv, rfl⟩)
   | cases hf
theorem refs_unpack {v : AV} {j : Nat} (h : j ∈ refsL (unpack v)) : j ∈ refs v := by
 unfold unpack at h
 split at h
 ·simpa [refs] using h
 ·simpa [refsL] using h
theorem asmV_rep (hi : Inv X M t used own a) (hh : ∀ id, lkH h id ≠ .dead → M.h id = lkH h id) {u : U} {v : AV} {val : Value} {x : u.El} (hp : u.plain = true) (hf : fitsU u v = true) (ha : asmV h u v = some x) (hv : AVRep M v val) :
  ∃ cs F, val = valOf u cs ∧ Rep M.w false u x cs F ∧ ∀ b ∈ F, Sees M own (refs v) b := by
 unfold asmV at ha
 split at ha
 ·rename_i y h1
  simp only [Option.some.injEq] at ha
  subst ha
  obtain ⟨vs, hr, hval⟩ := fits_val hp hf hv
  obtain ⟨c1, v1, v2, F, hc, rfl, hr2, hx, hF⟩ := asm_rep hi hh hp h1 hr
  simp only [AVRepL] at hr2
  subst hr2
  refine ⟨v1, F, hval v1 (Rep.length hx) (by simp), hx, fun b hb => (hF b hb).mono (fun i hi => refs_unpack ?_)⟩
  rw [hc, List.append_nil]; exact hi
 ·cases ha
theorem castL_nil {α γ : Type} (h : α = γ) : cast (congrArg List h) ([] : List α) = [] := by subst h; rfl
theorem castL_len {α γ : Type} (h : α = γ) (l : List α) : (cast (congrArg List h) l).length = l.length := by subst h; rfl
theorem asmB_rep (hi : Inv X M t used own a) (hh : ∀ id, lkH h id ≠ .dead → M.h id = lkH h id) : ∀ {u : U} {cs : List AV} {x : u.El} {r : List AV}, u.plain = true → asmB h u cs = some (x, r) → ∀ {vs : List Value}, AVRepL M cs vs →
  ∃ c1 v1 v2 F S0, cs = c1 ++ r ∧ vs = v1 ++ v2 ∧ AVRepL M r v2 ∧ v1.length = u.sz ∧ (∀ b ∈ F, Sees M own (refsL c1) b) ∧ (∀ b ∈ S0, Sees M own (refsL c1) b) ∧ ∀ B' : Bor, @BMor β B' → @BExt β M.w S0 B' → @Rep B' M.w false u x v1 F
 | .bs u, cs, x, r, hp, ha, vs, hr => by
  cases cs with
  | nil => simp [asmB, asm] at ha
  | cons c cs =>
   simp only [AVRepL] at hr
   obtain ⟨v, vr, rfl, h1, h2⟩ := hr
   simp only [asmB] at ha
   split at ha
   ·rename_i l hl
    simp only [Option.some.injEq, Prod.mk.injEq] at ha
    obtain ⟨rfl, rfl⟩ := ha
    obtain ⟨_, F, hs, hS⟩ := lookAs hi hh (show u.plain = true from hp) hl h1
    have hS' : ∀ b ∈ F, Sees M own (refsL [c]) b := fun b hb => (hS b hb).mono (by simp [refsL])
    exact ⟨[c], [v], vr, [], F, rfl, rfl, h2, rfl, by simp, hS', fun B' _ he => ⟨rfl, v, rfl, he u l v F ⟨v, rfl, hs⟩ fun b hb => hb⟩⟩
   ·cases ha
 | .sl false w, [], x, r, hp, ha, vs, hr => base hi hh hp (by simpa only [asmB] using ha) hr
 | .sl false w, c :: cs, x, r, hp, ha, vs, hr => by
  simp only [asmB] at ha
  split at ha
  ·rename_i y hy
   simp only [Option.some.injEq] at ha
   subst ha
   exact base hi hh hp hy hr
  ·split at ha
   case h_2 => cases ha
   case h_1 e' u l hl =>
    split at ha
    case isFalse => cases ha
    case isTrue e =>
     subst e
     simp only [Option.some.injEq, Prod.mk.injEq] at ha
     obtain ⟨rfl, rfl⟩ := ha
     simp only [AVRepL] at hr
     obtain ⟨v, vr, rfl, h1, h2⟩ := hr
     obtain ⟨_, F, hs, hS⟩ := look hi hh hl h1
     have hS' : ∀ b ∈ F, Sees M own (refsL [c]) b := fun b hb => (hS b hb).mono (by simp [refsL])
     have hcast : ∀ (m : List u.El), castB rfl m = cast (congrArg List (bsv_El u).symm) m := fun m => rfl
     rcases hs with (⟨rfl, rfl, rfl⟩ | ⟨a, cap, cc, t, fz, p, m, q, G, hv, hsp, _, hl, hhp, hc, hpl, hr, rfl, ho⟩) | ⟨_, _, rfl, rfl, a, cap, rfl⟩
     ·exact ⟨[c], [_], vr, [], [], rfl, rfl, h2, rfl, by simp, by simp, fun B' hm he => ⟨_, rfl, .inl (.inl ⟨rfl, by rw [hcast, castL_nil (bsv_El u).symm], rfl⟩)⟩⟩
     ·obtain ⟨G', g1, g2⟩ := RepL.castTo (ι := Bor) (bsv_El u).symm (ok := fun B' => @BMor β B' ∧ @BExt β M.w (a.block :: G) B') (R' := fun B' => @Rep B' M.w false (bsv u)) (S := a.block :: G) (fun x c F hF hx => Rep.bsv hF hx) (fun b hb => List.mem_cons_of_mem _ hb) hr
      refine ⟨[c], [v], vr, a.block :: G', a.block :: G, rfl, rfl, h2, rfl, fun b hb => hS' b ?_, hS', fun B' hm he => ⟨v, rfl, .inl (.inr ⟨a, cap, cc, t, fz, p, m, q, G', ?_, hsp, (fun h => by cases h), ?_, hhp, hc, hpl, g2 B' ⟨hm, he⟩, rfl, fun h => by cases h⟩)⟩⟩
      ·rcases List.mem_cons.1 hb with rfl | hb
       ·simp
       ·exact List.mem_cons_of_mem _ (g1 b hb)
      ·rw [hcast, castL_len (bsv_El u).symm]; exact hv
      ·rw [hcast, castL_len (bsv_El u).symm]; assumption
     ·exact ⟨[c], [_], vr, [], [], rfl, rfl, h2, rfl, by simp, by simp, fun B' hm he => ⟨_, rfl, .inr ⟨rfl, rfl, by rw [hcast, castL_nil (bsv_El u).symm], rfl, a, cap, rfl⟩⟩⟩
 | .sl true _, cs, x, r, hp, ha, vs, hr => base hi hh hp (by simpa only [asmB] using ha) hr
 | .unit, cs, x, r, _, ha, vs, hr => by
  simp only [asmB, Option.some.injEq, Prod.mk.injEq] at ha
  obtain ⟨_, rfl⟩ := ha
  exact ⟨[], [], vs, [], [], rfl, rfl, hr, rfl, by simp, by simp, fun _ _ _ => ⟨rfl, rfl⟩⟩
 | .pair p q, cs, x, r, hp, ha, vs, hr => by
  simp only [U.plain, Bool.and_eq_true] at hp
  simp only [asmB] at ha
  split at ha
  ·rename_i y r1 h1
   split at ha
   ·rename_i z r2 h2
    simp only [Option.some.injEq, Prod.mk.injEq] at ha
    obtain ⟨rfl, rfl⟩ := ha
    obtain ⟨c1, v1, v2, F, S1, rfl, rfl, hr1, hl1, hF, hS1, hx⟩ := asmB_rep hi hh hp.1 h1 hr
    obtain ⟨d1, w1, w2, G, S2, rfl, rfl, hr2, hl2, hG, hS2, hy⟩ := asmB_rep hi hh hp.2 h2 hr1
    have up : ∀ {b}, Sees M own (refsL c1) b → Sees M own (refsL (c1 ++ d1)) b := fun h => h.mono (fun i hi => by obtain ⟨c, hc, hj⟩ := refsL_mem.1 hi; exact refsL_mem.2 ⟨c, by simp [hc], hj⟩)
    have up2 : ∀ {b}, Sees M own (refsL d1) b → Sees M own (refsL (c1 ++ d1)) b := fun h => h.mono (fun i hi => by obtain ⟨c, hc, hj⟩ := refsL_mem.1 hi; exact refsL_mem.2 ⟨c, by simp [hc], hj⟩)
    refine ⟨c1 ++ d1, v1 ++ w1, w2, F ++ G, S1 ++ S2, by simp, by simp, hr2, by simp [hl1, hl2, U.sz], fun b hb => ?_, fun b hb => ?_, fun B' hm he => ⟨v1, w1, F, G, rfl, rfl, hx B' hm (he.sub (β := β) fun b hb => List.mem_append_left _ hb), hy B' hm (he.sub (β := β) fun b hb => List.mem_append_right _ hb)⟩⟩
    ·exact (List.mem_append.1 hb).elim (fun h => up (hF b h)) fun h => up2 (hG b h)
    ·exact (List.mem_append.1 hb).elim (fun h => up (hS1 b h)) fun h => up2 (hS2 b h)
   ·cases ha
  ·cases ha
 | .bool, cs, x, r, hp, ha, vs, hr => base hi hh hp (by simpa only [asmB] using ha) hr
 | .int _, cs, x, r, hp, ha, vs, hr => base hi hh hp (by simpa only [asmB] using ha) hr
 | .str, cs, x, r, hp, ha, vs, hr => base hi hh hp (by simpa only [asmB] using ha) hr
 | .oth, cs, x, r, hp, ha, vs, hr => base hi hh hp (by simpa only [asmB] using ha) hr
 | .pt _, cs, x, r, hp, ha, vs, hr => base hi hh hp (by simpa only [asmB] using ha) hr
 | .tr _, cs, x, r, hp, ha, vs, hr => base hi hh hp (by simpa only [asmB] using ha) hr
 | .ar _ _, _, _, _, hp, _, _, _ => by cases hp
where
 base (hi : Inv X M t used own a) (hh : ∀ id, lkH h id ≠ .dead → M.h id = lkH h id) {u : U} {cs : List AV} {x : u.El} {r : List AV} (hp : u.plain = true) (ha : asm h u cs = some (x, r)) {vs : List Value} (hr : AVRepL M cs vs) :
  ∃ c1 v1 v2 F S0, cs = c1 ++ r ∧ vs = v1 ++ v2 ∧ AVRepL M r v2 ∧ v1.length = u.sz ∧ (∀ b ∈ F, Sees M own (refsL c1) b) ∧ (∀ b ∈ S0, Sees M own (refsL c1) b) ∧ ∀ B' : Bor, @BMor β B' → @BExt β M.w S0 B' → @Rep B' M.w false u x v1 F := by
  obtain ⟨c1, v1, v2, F, hc, hv, hr2, hx, hF⟩ := asm_rep hi hh hp ha hr
  exact ⟨c1, v1, v2, F, [], hc, hv, hr2, Rep.length hx, hF, by simp, fun B' hm _ => hx.mor (β := β) hm⟩
end
end Go.VM

namespace Go.VM
variable [Bor]
open Go.RowKit
theorem any_beq {l : List Nat} {i : Nat} : l.any (Nat.beq i) = true ↔ i ∈ l := by
 simp [List.any_eq_true]
theorem nodup_iff : ∀ {l : List Nat}, nodup l = true ↔ l.Nodup
 | [] => by simp [nodup]
 | i :: l => by
  simp only [nodup, Bool.and_eq_true, Bool.not_eq_true', List.nodup_cons, nodup_iff (l := l)]
  constructor
  ·rintro ⟨h1, h2⟩
   exact ⟨(fun h => by rw [any_beq.2 h] at h1; cases h1), h2⟩
  ·rintro ⟨h1, h2⟩
   refine ⟨?_, h2⟩
   cases hb : l.any (Nat.beq i) with
   | false => rfl
   | true => exact absurd (any_beq.1 hb) h1
section
variable {X : Cx} {M : Mem} {t : List (Nat × AV)} {used : Nat → Prop} {own : Nat → Option Nat} {a : Act} {h : Hp}
def Took (M : Mem) (own : Nat → Option Nat) (ns : List Nat) (F : List Nat) : Prop := (ns.Nodup → F.Nodup) ∧ (∀ b ∈ F, ∃ id ∈ ns, own b = some id) ∧ ∀ id ∈ ns, M.h id ≠ .dead
theorem Took.append {ns ms F G} (h1 : Took M own ns F) (h2 : Took M own ms G) : Took M own (ms ++ ns) (F ++ G) := by
 obtain ⟨a1, b1, c1⟩ := h1
 obtain ⟨a2, b2, c2⟩ := h2
 refine ⟨fun hn => ?_, fun b hb => ?_, fun id hid => ?_⟩
 ·obtain ⟨n1, n2, n3⟩ := List.nodup_append.1 hn
  refine List.nodup_append.2 ⟨a1 n2, a2 n1, fun x hx y hy e => ?_⟩
  subst e
  obtain ⟨i, hi, e1⟩ := b1 x hx
  obtain ⟨j, hj, e2⟩ := b2 x hy
  rw [e1] at e2
  cases e2
  exact n3 i hj i hi rfl
 ·rcases List.mem_append.1 hb with hb | hb
  ·obtain ⟨i, hi, e⟩ := b1 b hb; exact ⟨i, by simp [hi], e⟩
  ·obtain ⟨i, hi, e⟩ := b2 b hb; exact ⟨i, by simp [hi], e⟩
 ·rcases List.mem_append.1 hid with hid | hid
  ·exact c2 id hid
  ·exact c1 id hid
theorem asmO_flat (hi : Inv X M t used own a) (hh : ∀ id, lkH h id ≠ .dead → M.h id = lkH h id) {u : U} {cs : List AV} {x : u.El} {r : List AV} {ks ks' : List Nat} (hp : u.plain = true)
  (ha : asmF h u cs ks = some (x, r, ks')) {vs : List Value} (hr : AVRepL M cs vs) :
  ∃ c1 v1 v2 F ns, cs = c1 ++ r ∧ vs = v1 ++ v2 ∧ AVRepL M r v2 ∧ Rep M.w true u x v1 F ∧ ks' = ns ++ ks ∧ Took M own ns F ∧ ∀ i ∈ ns, i ∈ refsL c1 ∨ lkH h i ≠ .dead := by
 unfold asmF at ha
 obtain ⟨hf, ha⟩ := sw_some ha
 split at ha
 ·rename_i y r1 h1
  simp only [Option.some.injEq, Prod.mk.injEq] at ha
  obtain ⟨rfl, rfl, rfl⟩ := ha
  obtain ⟨c1, v1, v2, F, hc, hv, hr2, hx, _⟩ := asm_rep hi hh hp h1 hr
  have hF := Rep.flat hf hx
  subst hF
  exact ⟨c1, v1, v2, [], [], hc, hv, hr2, Rep.own hf hx, rfl, ⟨fun _ => List.nodup_nil, by simp, by simp⟩, by simp⟩
 ·cases ha
theorem ownL_rep (hi : Inv X M t used own a) (hh : ∀ id, lkH h id ≠ .dead → M.h id = lkH h id) {v : U} (hp : v.plain = true) {k : AV} {l : List v.El} {ks ks' : List Nat} (ha : ownL h v k ks = some (l, ks')) {vs : List Value} (hr : AVRepL M [k] vs) :
  ∃ kv F ns, vs = [kv] ∧ Rep M.w true (.sl false v) l [kv] F ∧ ks' = ns ++ ks ∧ Took M own ns F ∧ ∀ i ∈ ns, lkH h i ≠ .dead := by
 simp only [AVRepL] at hr
 obtain ⟨kv, vr, rfl, h1, rfl⟩ := hr
 unfold ownL at ha
 split at ha
 ·simp only [Option.some.injEq, Prod.mk.injEq] at ha
  obtain ⟨rfl, rfl⟩ := ha
  simp only [AVRep] at h1
  exact ⟨kv, [], [], rfl, ⟨kv, rfl, .inl <| .inl ⟨h1, rfl, rfl⟩⟩, rfl, ⟨fun _ => List.nodup_nil, by simp, by simp⟩, by simp⟩
 ·rename_i id g
  split at ha
  case h_2 => cases ha
  case h_1 e' u' l0 g' hl =>
   split at ha
   case h_2 => cases ha
   case h_1 l2 hc =>
    simp only [Option.some.injEq, Prod.mk.injEq] at ha
    obtain ⟨rfl, rfl⟩ := ha
    unfold castL at hc
    split at hc
    case isFalse => cases hc
    case isTrue hu =>
     subst hu
     simp only [Option.some.injEq] at hc
     subst hc
     have hM : M.h id = .arr e' u' l0 g' := by rw [hh id (by rw [hl]; simp), hl]
     simp only [AVRep] at h1
     obtain ⟨_, h1⟩ := rowOld h1 hM
     obtain ⟨e2, u2, l2, v2, hat, hhd, hw⟩ := h1 rfl
     simp only [atP, Option.some.injEq] at hat
     cases hat
     simp only [hdrAt, Option.some.injEq] at hhd
     simp only [Win] at hw
     subst hhd
     obtain ⟨_, F, hs, hnd, hown⟩ := hi.arr hM
     refine ⟨kv, F, [id], rfl, ⟨kv, rfl, ?_⟩, rfl, ⟨fun _ => hnd, fun b hb => ⟨id, by simp, hown b hb⟩, fun i hi => by simp at hi; subst hi; rw [hM]; simp⟩, fun i hi => by simp at hi; subst hi; rw [hl]; simp⟩
     rw [hw]
     exact (.inl (hs.loose (by simp)))
 ·cases ha
theorem asmO_rep (hi : Inv X M t used own a) (hh : ∀ id, lkH h id ≠ .dead → M.h id = lkH h id) : ∀ {u : U} {cs : List AV} {x : u.El} {r : List AV} {ks ks' : List Nat}, u.plain = true → asmO h u cs ks = some (x, r, ks') → ∀ {vs : List Value}, AVRepL M cs vs →
  ∃ c1 v1 v2 F ns, cs = c1 ++ r ∧ vs = v1 ++ v2 ∧ AVRepL M r v2 ∧ Rep M.w true u x v1 F ∧ ks' = ns ++ ks ∧ Took M own ns F ∧ ∀ i ∈ ns, i ∈ refsL c1 ∨ lkH h i ≠ .dead
 | .bool, cs, x, r, ks, ks', hp, ha, vs, hr => asmO_flat hi hh hp (by simpa only [asmO] using ha) hr
 | .int k, cs, x, r, ks, ks', hp, ha, vs, hr => asmO_flat hi hh hp (by simpa only [asmO] using ha) hr
 | .str, cs, x, r, ks, ks', hp, ha, vs, hr => asmO_flat hi hh hp (by simpa only [asmO] using ha) hr
 | .bs u, cs, x, r, ks, ks', hp, ha, vs, hr => asmO_flat hi hh hp (by simpa only [asmO] using ha) hr
 | .oth, cs, x, r, ks, ks', hp, ha, vs, hr => asmO_flat hi hh hp (by simpa only [asmO] using ha) hr
 | .ar _ _, _, _, _, _, _, hp, _, _, _ => by cases hp
 | .unit, cs, x, r, ks, ks', hp, ha, vs, hr => by
  simp only [asmO, Option.some.injEq, Prod.mk.injEq] at ha
  obtain ⟨_, rfl, rfl⟩ := ha
  exact ⟨[], [], vs, [], [], rfl, rfl, hr, ⟨rfl, rfl⟩, rfl, ⟨fun _ => List.nodup_nil, by simp, by simp⟩, by simp⟩
 | .sl e u, cs, x, r, ks, ks', hp, ha, vs, hr => by
  have hp : u.plain = true := hp
  cases cs with
  | nil => simp [asmO, asmF, U.flat, sw] at ha
  | cons c cs =>
   simp only [AVRepL] at hr
   obtain ⟨v, vr, rfl, h1, h2⟩ := hr
   simp only [asmO] at ha
   split at ha
   ·simp only [Option.some.injEq, Prod.mk.injEq] at ha
    obtain ⟨rfl, rfl, rfl⟩ := ha
    simp only [AVRep] at h1
    exact ⟨[_], [v], vr, [], [], rfl, rfl, h2, ⟨v, rfl, .inl <| .inl ⟨h1, rfl, rfl⟩⟩, rfl, ⟨fun _ => List.nodup_nil, by simp, by simp⟩, by simp⟩
   ·rename_i id g
    split at ha
    case h_2 => cases ha
    case h_1 e' u' l g' hl =>
     obtain ⟨he, ha⟩ := sw_some ha
     split at ha
     case h_2 => cases ha
     case h_1 l2 hc =>
      simp only [Option.some.injEq, Prod.mk.injEq] at ha
      obtain ⟨rfl, rfl, rfl⟩ := ha
      unfold castL at hc
      split at hc
      case isFalse => cases hc
      case isTrue hu =>
       subst hu
       simp only [Option.some.injEq] at hc
       subst hc
       have hM : M.h id = .arr e' u' l g' := by rw [hh id (by rw [hl]; simp), hl]
       simp only [AVRep] at h1
       obtain ⟨_, h1⟩ := rowOld h1 hM
       obtain ⟨e2, u2, l2, v2, hat, hhd, hw⟩ := h1 rfl
       simp only [atP, Option.some.injEq] at hat
       cases hat
       simp only [hdrAt, Option.some.injEq] at hhd
       simp only [Win] at hw
       subst hhd
       obtain ⟨_, F, hs, hnd, hown⟩ := hi.arr hM
       refine ⟨[_], [v], vr, F, [id], rfl, rfl, h2, ⟨v, rfl, ?_⟩, rfl, ⟨fun _ => hnd, fun b hb => ⟨id, by simp, hown b hb⟩, fun i hi => by simp at hi; subst hi; rw [hM]; simp⟩, by simp [refsL, refs]⟩
       rw [hw]
       exact (.inl (hs.loose he))
   ·cases ha
 | .pt u, cs, x, r, ks, ks', hp, ha, vs, hr => by
  have hp' := hp
  simp only [U.plain, Bool.and_eq_true] at hp
  cases cs with
  | nil => simp [asmO, asmF, U.flat, sw] at ha
  | cons c cs =>
   simp only [AVRepL] at hr
   obtain ⟨v, vr, rfl, h1, h2⟩ := hr
   simp only [asmO] at ha
   split at ha
   ·simp only [Option.some.injEq, Prod.mk.injEq] at ha
    obtain ⟨rfl, rfl, rfl⟩ := ha
    simp only [AVRep] at h1
    subst h1
    exact ⟨[_], [_], vr, [], [], rfl, rfl, h2, rep_pnil.2 ⟨rfl, rfl⟩, rfl, ⟨fun _ => List.nodup_nil, by simp, by simp⟩, by simp⟩
   ·rename_i id
    split at ha
    ·rename_i u' y hl0
     split at ha
     ·rename_i l hl
      obtain ⟨e, rfl⟩ := castL_one hl
      simp only [U.pt.injEq] at e
      subst e
      simp only [List.headD_cons, Option.some.injEq, Prod.mk.injEq] at ha
      obtain ⟨rfl, rfl, rfl⟩ := ha
      obtain ⟨_, _, F, hR, hnd, ho⟩ := tp_rep hi hh hl0 h1
      exact ⟨[_], [v], vr, F, [id], rfl, rfl, h2, hR, rfl, ⟨fun _ => hnd, fun b hb => ⟨id, by simp, ho b hb⟩, fun i hi => by simp at hi; subst hi; rw [hh i (by rw [hl0]; simp), hl0]; simp⟩, fun i hi => .inl (by simpa [refsL, refs] using hi)⟩
     ·cases ha
    ·cases ha
   ·rename_i id
    split at ha
    ·rename_i ocs hl0
     split at ha
     ·rename_i x0 k h3
      split at ha
      ·rename_i l ks2 h4
       simp only [Option.some.injEq, Prod.mk.injEq] at ha
       obtain ⟨rfl, rfl, rfl⟩ := ha
       have hM : M.h id = .obj ocs := by rw [hh id (by rw [hl0]; simp), hl0]
       simp only [AVRep] at h1
       obtain ⟨ad, had, hv⟩ := h1 (by rw [hM]; simp)
       have hrt := hi.rt id
       rw [hM] at hrt
       obtain ⟨b, cc, tt, hb', hw, hcs, hob⟩ := hrt
       rw [had] at hb'
       cases hb'
       obtain ⟨c1, v1, v2, F, rfl, hcc, hr1, hx, _⟩ := asm_rep hi hh hp.1 h3 hcs
       have hF := Rep.flat hp.2 hx
       subst hF
       have hx := Rep.own hp.2 hx
       obtain ⟨kv, G, ms, rfl, hk, rfl, hT2, hN2⟩ := ownL_rep hi hh hp' h4 hr1
       refine ⟨[_], [v], vr, b :: G, id :: ms, rfl, rfl, h2, (rep_pt hp.2).2 ⟨b, cc, tt, G, by rw [hv, Addr.add_zero], hw, rfl, v1, [kv], [], G, by rw [hcc], rfl, hx, [kv], [], G, [], by simp, by simp, hk, rfl, rfl⟩, by simp, ?_, ?_⟩
       ·obtain ⟨a2, b2, c2⟩ := hT2
        refine ⟨fun hn => ?_, fun x hx => ?_, fun i hi' => ?_⟩
        ·obtain ⟨n1, n2⟩ := List.nodup_cons.1 hn
         refine List.nodup_cons.2 ⟨fun hb => ?_, a2 n2⟩
         obtain ⟨j, hj, e⟩ := b2 b hb
         rw [hob] at e
         cases e
         exact n1 hj
        ·rcases List.mem_cons.1 hx with rfl | hx
         ·exact ⟨id, by simp, hob⟩
         ·obtain ⟨j, hj, e⟩ := b2 x hx; exact ⟨j, by simp [hj], e⟩
        ·rcases List.mem_cons.1 hi' with rfl | hi'
         ·rw [hM]; simp
         ·exact c2 i hi'
       ·intro i hi'
        rcases List.mem_cons.1 hi' with rfl | hi'
        ·exact .inl (by simp [refsL, refs])
        ·exact .inr (hN2 i hi')
      ·cases ha
     ·cases ha
    ·cases ha
   ·cases ha
 | .tr u, cs, x, r, ks, ks', hp, ha, vs, hr => by
  have hp' := hp
  simp only [U.plain, Bool.and_eq_true] at hp
  simp only [asmO] at ha
  split at ha
  ·rename_i y k r1 h1
   split at ha
   ·rename_i l ks2 h4
    simp only [Option.some.injEq, Prod.mk.injEq] at ha
    obtain ⟨rfl, rfl, rfl⟩ := ha
    obtain ⟨c1, v1, v2, F, rfl, rfl, hr1, hx, _⟩ := asm_rep hi hh hp.1 h1 hr
    have hF := Rep.flat hp.2 hx
    subst hF
    have hx := Rep.own hp.2 hx
    simp only [AVRepL] at hr1
    obtain ⟨kv, vr, rfl, hk0, hr2⟩ := hr1
    obtain ⟨kv', G, ms, e, hk, rfl, hT2, hN2⟩ := ownL_rep hi hh (v := .tr u) hp' h4 (vs := [kv]) (by rw [AVRepL]; exact ⟨_, _, rfl, hk0, by rw [AVRepL]⟩)
    obtain rfl : kv = kv' := by simpa using e
    refine ⟨c1 ++ [k], v1 ++ [kv], vr, G, ms, by simp, by simp, hr2, tr_join hp.2 (t := .node y l) hx hk, rfl, hT2, fun i hi => .inr (hN2 i hi)⟩
   ·cases ha
  ·cases ha
 | .pair p q, cs, x, r, ks, ks', hp, ha, vs, hr => by
  simp only [U.plain, Bool.and_eq_true] at hp
  simp only [asmO] at ha
  split at ha
  ·rename_i y r1 ks1 h1
   split at ha
   ·rename_i z r2 ks2 h2
    simp only [Option.some.injEq, Prod.mk.injEq] at ha
    obtain ⟨rfl, rfl, rfl⟩ := ha
    obtain ⟨c1, v1, v2, F, ns, rfl, rfl, hr1, hx, rfl, hT, hN⟩ := asmO_rep hi hh hp.1 h1 hr
    obtain ⟨d1, w1, w2, G, ms, rfl, rfl, hr2, hy, rfl, hT2, hN2⟩ := asmO_rep hi hh hp.2 h2 hr1
    refine ⟨c1 ++ d1, v1 ++ w1, w2, F ++ G, ms ++ ns, by simp, by simp, hr2, ⟨v1, w1, F, G, rfl, rfl, hx, hy⟩, by simp, hT.append hT2, fun i hi => ?_⟩
    rcases List.mem_append.1 hi with hi | hi
    ·exact (hN2 i hi).imp_left fun h => by obtain ⟨c, hc, hj⟩ := refsL_mem.1 h; exact refsL_mem.2 ⟨c, by simp [hc], hj⟩
    ·exact (hN i hi).imp_left fun h => by obtain ⟨c, hc, hj⟩ := refsL_mem.1 h; exact refsL_mem.2 ⟨c, by simp [hc], hj⟩
   ·cases ha
  ·cases ha
theorem asmOV_rep (hi : Inv X M t used own a) (hh : ∀ id, lkH h id ≠ .dead → M.h id = lkH h id) {u : U} {c : AV} {x : u.El} {ks : List Nat} (hp : u.plain = true) (ha : asmOV h u c = some (x, ks)) {vs : List Value} (hr : AVRepL M (unpack c) vs) :
  ∃ F, Rep M.w true u x vs F ∧ F.Nodup ∧ ks.Nodup ∧ Took M own ks F ∧ ∀ i ∈ ks, i ∈ refs c ∨ lkH h i ≠ .dead := by
 unfold asmOV at ha
 split at ha
 ·rename_i y ks1 h1
  obtain ⟨hn, ha⟩ := sw_some ha
  simp only [Option.some.injEq, Prod.mk.injEq] at ha
  obtain ⟨rfl, rfl⟩ := ha
  obtain ⟨c1, v1, v2, F, ns, hc, rfl, hr2, hx, hk, hT, hN⟩ := asmO_rep hi hh hp h1 hr
  rw [List.append_nil] at hk
  subst hk
  simp only [AVRepL] at hr2
  subst hr2
  rw [List.append_nil] at hc
  have hnd := nodup_iff.1 hn
  exact ⟨F, by simpa using hx, hT.1 hnd, hnd, hT, fun i hi => (hN i hi).imp_left fun h => refs_unpack (by rw [hc]; exact h)⟩
 ·cases ha
end
end Go.VM

namespace Go.VM
variable [Bor]
open Go.RowKit
theorem setAt_rep {w w' : World} {wc : U} {y : wc.El} {vs : List Value} {G : List Nat} (hy : Rep w' true wc y vs G) : ∀ {u : U} {x x' : u.El} {cs F} {o : Nat}, u.plain = true → Rep w true u x cs F → (∀ b ∈ F, w'.heap[b]? = w.heap[b]?) → setAt wc y u x o = some x' →
  ∃ c1 c2 c3 F1 F2 F3, cs = c1 ++ c2 ++ c3 ∧ c1.length = o ∧ c2.length = vs.length ∧ F = F1 ++ F2 ++ F3 ∧ Rep w' true u x' (c1 ++ vs ++ c3) (F1 ++ G ++ F3)
 | .pair a b, x, x', cs, F, o, hp, hr, hb, h => by
  simp only [setAt] at h
  split at h
  ·rename_i hc
   obtain ⟨h0, hw⟩ := hc
   subst hw
   simp only [Option.some.injEq] at h
   subst h
   have h0 : o = 0 := by simpa using h0
   subst h0
   refine ⟨[], cs, [], [], F, [], by simp, rfl, ?_, by simp, by simpa using hy⟩
   rw [Rep.length hr, Rep.length hy]
  ·obtain ⟨c, d, G1, H1, rfl, rfl, h1, h2⟩ := hr
   simp only [U.plain, Bool.and_eq_true] at hp
   have hlen := Rep.length h1
   have hz := az_sz hp.1
   by_cases hk : o < a.az
   ·rw [sw_true (by simpa [Nat.blt_eq] using hk)] at h
    split at h
    ·rename_i z hz'
     simp only [Option.some.injEq] at h
     subst h
     obtain ⟨c1, c2, c3, F1, F2, F3, rfl, e1, e2, rfl, hr'⟩ := setAt_rep hy hp.1 h1 (fun b hm => hb b (by simp [hm])) hz'
     have h2' := Rep.frame (fun b hm => hb b (by simp [hm])) h2
     exact ⟨c1, c2, c3 ++ d, F1, F2, F3 ++ H1, by simp, e1, e2, by simp, c1 ++ vs ++ c3, d, F1 ++ G ++ F3, H1, by simp, by simp, hr', h2'⟩
    ·cases h
   ·rw [sw_false (blt_false hk)] at h
    split at h
    ·rename_i z hz'
     simp only [Option.some.injEq] at h
     subst h
     obtain ⟨c1, c2, c3, F1, F2, F3, rfl, e1, e2, rfl, hr'⟩ := setAt_rep hy hp.2 h2 (fun b hm => hb b (by simp only [List.mem_append] at hm ⊢; exact .inr hm)) hz'
     have h1' := Rep.frame (fun b hm => hb b (by simp [hm])) h1
     exact ⟨c ++ c1, c2, c3, G1 ++ F1, F2, F3, by simp, by rw [List.length_append, hlen, e1]; omega, e2, by simp, c, c1 ++ vs ++ c3, G1, F1 ++ G ++ F3, by simp, by simp, h1', hr'⟩
    ·cases h
 | .bool, x, x', cs, F, o, hp, hr, hb, h => setAt_base hy hr (by simpa only [setAt] using h)
 | .int k, x, x', cs, F, o, hp, hr, hb, h => setAt_base hy hr (by simpa only [setAt] using h)
 | .str, x, x', cs, F, o, hp, hr, hb, h => setAt_base hy hr (by simpa only [setAt] using h)
 | .sl e u, x, x', cs, F, o, hp, hr, hb, h => setAt_base hy hr (by simpa only [setAt] using h)
 | .unit, x, x', cs, F, o, hp, hr, hb, h => setAt_base hy hr (by simpa only [setAt] using h)
 | .oth, x, x', cs, F, o, hp, hr, hb, h => setAt_base hy hr (by simpa only [setAt] using h)
 | .bs u, x, x', cs, F, o, hp, hr, hb, h => setAt_base hy hr (by simpa only [setAt] using h)
 | .pt u, x, x', cs, F, o, hp, hr, hb, h => setAt_base hy hr (by simpa only [setAt] using h)
 | .tr u, x, x', cs, F, o, hp, hr, hb, h => by
  simp only [setAt] at h
  split at h
  ·rename_i hc
   obtain ⟨h0, hw⟩ := hc
   subst hw
   simp only [Option.some.injEq] at h
   subst h
   have h0 : o = 0 := by simpa using h0
   subst h0
   refine ⟨[], cs, [], [], F, [], by simp, rfl, ?_, by simp, by simpa using hy⟩
   rw [Rep.length hr, Rep.length hy]
  ·split at h
   ·rename_i hc
    obtain ⟨h0, hw⟩ := hc
    subst hw
    simp only [Option.some.injEq] at h
    subst h
    have h0 : o = u.az := by simpa using h0
    subst h0
    simp only [U.plain, Bool.and_eq_true] at hp
    obtain ⟨c, kv, rfl, h1, h2⟩ := tr_split hp.2 hr
    obtain ⟨kv', rfl⟩ : ∃ v, vs = [v] := by
     have := Rep.length hy
     match vs, this with
     | [v], _ => exact ⟨v, rfl⟩
    refine ⟨c, [kv], [], [], F, [], by simp, by rw [Rep.length h1, az_sz hp.1], rfl, by simp, ?_⟩
    have := tr_join hp.2 (t := .node (x.val u.dflt) y) (Rep.move (w' := w') hp.2 h1) hy
    simpa using this
   ·cases h
 | .ar _ _, x, x', cs, F, o, hp, hr, hb, h => by cases hp
 where
 setAt_base {w w' : World} {wc : U} {y : wc.El} {vs : List Value} {G : List Nat} (hy : Rep w' true wc y vs G) {u : U} {x x' : u.El} {cs F} {o : Nat} (hr : Rep w true u x cs F) (h : (if h : Nat.beq o 0 = true ∧ wc = u then some (h.2 ▸ y) else none : Option u.El) = some x') :
   ∃ c1 c2 c3 F1 F2 F3, cs = c1 ++ c2 ++ c3 ∧ c1.length = o ∧ c2.length = vs.length ∧ F = F1 ++ F2 ++ F3 ∧ Rep w' true u x' (c1 ++ vs ++ c3) (F1 ++ G ++ F3) := by
  split at h
  ·rename_i hc
   obtain ⟨h0, hw⟩ := hc
   subst hw
   simp only [Option.some.injEq] at h
   subst h
   have h0 : o = 0 := by simpa using h0
   subst h0
   refine ⟨[], cs, [], [], F, [], by simp, rfl, ?_, by simp, by simpa using hy⟩
   rw [Rep.length hr, Rep.length hy]
  ·cases h
theorem splice_mid {α : Type} {p c q m : List α} (h : c.length = m.length) : splice (p ++ c ++ q) p.length m = p ++ m ++ q := by
 have h1 : (p ++ c ++ q).take p.length = p := by rw [List.append_assoc, List.take_left]
 have h2 : (p ++ c ++ q).drop (p.length + m.length) = q := by rw [← h, show p.length + c.length = (p ++ c).length from by simp, List.drop_left]
 simp only [splice, h1, h2]
theorem AVRepL.splice {M : Mem} {cs ds : List AV} {vs ws : List Value} {o : Nat} (h : AVRepL M cs vs) (k : AVRepL M ds ws) : AVRepL M (VM.splice cs o ds) (VM.splice vs o ws) := by
 simp only [VM.splice]
 rw [← k.length]
 refine AVRepL.app (AVRepL.app ?_ k) ?_
 ·have := h.piece 0 o
  simpa using this
 ·have := h.piece (o + ws.length) (cs.length + vs.length)
  rw [List.take_of_length_le (by simp; omega), List.take_of_length_le (by simp; omega)] at this
  exact this
theorem Addr.add_plain (b o n : Nat) : (⟨b, o, none⟩ : Addr).add n = ⟨b, o + n, none⟩ := by unfold Addr.add; split <;> simp_all
theorem Addr.plain {a : Addr} (h : a.spot = none) : a = ⟨a.block, a.off, none⟩ := by cases a; simp_all
section
variable {X : Cx} {ρ : Type} {base : Nat} {h : Hp} {K : AV → Hp → Option ρ} {y : ρ}
theorem store_run {P : Program} {t : TypeId} {u : U} {W : World} {ad : Addr} {v : Value} {c : Array Value} {ty : TypeId} {fz : Nat × Nat} (ht : TyOK P t u) (hs : ad.spot = none) (hl : v.cells.toList.length = u.sz) (hh : W.heap[ad.block]? = some (.cells c ty fz)) (hle : ad.off + u.sz ≤ c.size)
  (h1 : ∀ x ∈ v.cells.toList, x.oneCell' = true) (hf : ∀ j, j < c.size → ¬ (fz.1 ≤ j ∧ j < fz.2)) : (storeVar t ad v).run P W = .ok () (putB W ad.block (.cells (splice c.toList ad.off v.cells.toList).toArray ty fz)) := by
 obtain ⟨i, hi, hsz⟩ := ht.i
 have hz : v.cells.size = u.sz := by simpa using hl
 have := run_storeCells (P := P) (b := ad.block) (t := ty) (fz := fz) (off := ad.off) v.cells.toList 0 c W hh (by rw [hl]; omega) h1 hf
 rw [Nat.add_zero, ← Addr.plain hs] at this
 simp only [storeVar, Sem.run_bind, run_sizeOf hi, Result.andThen_ok, hsz, hz, ne_eq, not_true_eq_false, if_false]
 exact this
theorem storeObj_ok {t : TypeId} {u : U} {x z : Operand} {id o' : Nat} {cs : List AV} {v : AV} (ht : TyOK X.P t u) (hl : lkH h id = .obj cs) (hc : (unpack v).all (cellA h) = true) (hlen : (unpack v).length = u.az) (hp : u.plain = true) (hle : o' + u.az ≤ cs.length)
  (hy : K .und [(id, .obj (splice cs o' (unpack v)))] = some y) : Good X base (.store t x z) [.po id o', v] h K y := by
 refine ⟨_, _, hy, ?_⟩
 intro o M tt used own a next Q ho hd hvs hh hi hb hn
 obtain ⟨h1, h2⟩ := map2 hvs
 have hx := (hi.ev x).1
 have hz := (hi.ev z).1
 have hzu := (hi.ev z).2
 rw [h1] at hx; rw [h2] at hz hzu
 have hM : M.h id = .obj cs := by rw [hh id (by rw [hl]; simp), hl]
 simp only [AVRep] at hx
 obtain ⟨ad, ha, hv⟩ := hx (by rw [hM]; simp)
 have hrt := hi.rt id
 rw [hM] at hrt
 obtain ⟨b, cc, ty, hb', hw, hcs, hob⟩ := hrt
 rw [ha] at hb'
 cases hb'
 obtain ⟨hur, hu1⟩ := unpack_rep hi hh hc hz
 have hsz : (a.eval z).cells.toList.length = u.sz := by rw [hur.length, hlen, az_sz hp]
 rw [Addr.add_plain, Nat.zero_add] at hv
 have hclen := hcs.length
 have hrun := store_run (P := X.P) (t := t) (W := M.w) (ad := ⟨b, o', none⟩) (v := a.eval z) ht rfl hsz hw (by simp only; rw [az_sz hp] at hle; simp at hclen; omega) hu1 (by intro j _; simp)
 have hexec : (execOp a.eval o).run X.P M.w = .ok .skip (putB M.w b (.cells (splice cc.toList o' (a.eval z).cells.toList).toArray ty (0, 0))) := by
  simp only [execOp, ho, Instr.storeAt, hv, Instr.sureAddr, Sem.run_bind, Sem.run_pure, Result.andThen_ok, hrun]
 refine wp_skipped hexec ?_
 have hbl : b < M.w.heap.size := lt_of_heap hw
 have hI := hi.step (tgt := id) (R := .obj (splice cs o' (unpack v))) (ks := []) (w' := putB M.w b (.cells (splice cc.toList o' (a.eval z).cells.toList).toArray ty (0, 0))) (r' := M.r) (own' := own) (used' := fun j => used j ∨ base ≤ j ∧ j < base + 64)
  (fun j hj => .inl hj) (.inl (hi.ud id (by rw [hM]; simp))) (fun _ _ => rfl) (fun _ => rfl) ?_ ?_ ?_ ?_ ?_ ?_ (by rw [putB_sz]; exact Nat.le_refl _) rfl rfl rfl
 ·refine hn _ _ _ ?_ ?_ ?_ (hI.put hd (by simp only [AVRep]) (by simp [refs]))
  ·rfl
  ·rfl
  ·rfl
 ·intro _
  exact .inr ⟨rfl, .inl ⟨by rw [hM]; simp, by intro e u l g b hx; have hx : RowIs (lkU _ _ id) _ _ _ _ _ := hx; rw [lkU_cons, if_pos rfl] at hx; cases hx⟩⟩
 ·intro hk
  have hkid : Keeps M ⟨M.w0, M.Z, lkU ((id, .obj (splice cs o' (unpack v))) :: killed []) M.h, M.r, putB M.w b (.cells (splice cc.toList o' (a.eval z).cells.toList).toArray ty (0, 0))⟩ id :=
   .inr ⟨rfl, .inl ⟨by rw [hM]; simp, by intro e u l g b hx; have hx : RowIs (lkU _ _ id) _ _ _ _ _ := hx; rw [lkU_cons, if_pos rfl] at hx; cases hx⟩⟩
  have hk' : ∀ j, used j → Keeps M ⟨M.w0, M.Z, lkU ((id, .obj (splice cs o' (unpack v))) :: killed []) M.h, M.r, putB M.w b (.cells (splice cc.toList o' (a.eval z).cells.toList).toArray ty (0, 0))⟩ j := by
   intro j hj
   by_cases hne : j = id
   ·subst hne; exact hkid
   ·exact hk j hj hne
  refine ⟨b, _, ty, ha, putB_same hbl, ?_, hob⟩
  have k1 := AVRepL.mono (M := M) (M' := ⟨M.w0, M.Z, lkU ((id, .obj (splice cs o' (unpack v))) :: killed []) M.h, M.r, putB M.w b (.cells (splice cc.toList o' (a.eval z).cells.toList).toArray ty (0, 0))⟩) rfl rfl (fun j hj => hk' j (hi.uo id cs hM j hj)) hcs
  have k2 := AVRepL.mono (M := M) (M' := ⟨M.w0, M.Z, lkU ((id, .obj (splice cs o' (unpack v))) :: killed []) M.h, M.r, putB M.w b (.cells (splice cc.toList o' (a.eval z).cells.toList).toArray ty (0, 0))⟩) rfl rfl (fun j hj => hk' j (hzu j (refs_unpack hj))) hur
  exact k1.splice k2
 ·intro cs' hcs' j hj
  simp only [Root.obj.injEq] at hcs'
  subst hcs'
  obtain ⟨c, hc', hj⟩ := refsL_mem.1 hj
  simp only [splice, List.mem_append] at hc'
  rcases hc' with (hc' | hc') | hc'
  ·exact .inl (hi.uo id cs hM j (refsL_mem.2 ⟨c, List.mem_of_mem_take hc', hj⟩))
  ·exact .inl (hzu j (refs_unpack (refsL_mem.2 ⟨c, hc', hj⟩)))
  ·exact .inl (hi.uo id cs hM j (refsL_mem.2 ⟨c, List.mem_of_mem_drop hc', hj⟩))
 ·intro b' id' hob' hne _
  refine ⟨hob', putB_other ?_⟩
  intro e
  subst e
  rw [hob] at hob'
  cases hob'
  exact hne rfl
 ·intro b' id' hob'
  rw [putB_sz]
  exact hi.ow b' id' hob'
 ·intro b' hZ
  refine putB_other ?_
  intro e
  subst e
  exact (hi.ow b' id hob).2 hZ
end
end Go.VM

namespace Go.VM
variable [Bor]
open Go.RowKit
theorem flat_slAt : ∀ {u : U} {x : u.El} {c : Nat}, u.flat = true → slAt u x c = none
 | .pair a b, x, c, hf => by
  simp only [U.flat, Bool.and_eq_true] at hf
  simp only [slAt, flat_slAt hf.1, flat_slAt hf.2]
  cases Nat.blt c a.az <;> rfl
 | .bool, _, _, _ => by simp [slAt]
 | .int _, _, _, _ => by simp [slAt]
 | .str, _, _, _ => by simp [slAt]
 | .unit, _, _, _ => by simp [slAt]
 | .ar _ _, _, _, _ => by simp [slAt]
 | .oth, _, _, _ => by simp [slAt]
 | .bs _, _, _, _ => by simp [slAt]
 | .pt _, _, _, hf => by cases hf
 | .tr _, _, _, hf => by cases hf
 | .sl _ _, _, _, hf => by cases hf
theorem nodup_replace {α : Type} {A B C Y : List α} (h : (A ++ B ++ C).Nodup) (hy : Y.Nodup) (hd : ∀ y ∈ Y, y ∉ A ∧ y ∉ C) : (A ++ Y ++ C).Nodup := by
 rw [List.nodup_append] at h ⊢
 obtain ⟨h1, h2, h3⟩ := h
 rw [List.nodup_append] at h1 ⊢
 obtain ⟨a1, a2, a3⟩ := h1
 refine ⟨⟨a1, hy, fun x hx z hz e => (hd z hz).1 (e ▸ hx)⟩, h2, fun x hx z hz e => ?_⟩
 rcases List.mem_append.1 hx with hx | hx
 ·exact h3 x (List.mem_append.2 (.inl hx)) z hz e
 ·exact (hd x hx).2 (e ▸ hz)
def own2 (own : Nat → Option Nat) (ks : List Nat) (id b : Nat) : Option Nat := match own b with | some k => if k ∈ ks then some id else some k | none => none
theorem arr_keeps {X : Cx} {M M' : Mem} {id : Nat} {e w} {l m : List w.El} {g' g2 : Nat} (hM : M.h id = .arr e w l g') (hM' : M'.h id = .arr e w m g2) (hg : g2 = sw w.flat g' (g' + 1)) (hr : M'.r id = M.r id) (hlen : m.length = l.length) : Keeps M M' id := by
 refine .inr ⟨hr, .inr ⟨e, w, l, m, g', g2, false, false, rowA hM, rowA hM', hlen, ?_, (fun h => by cases h), ?_⟩⟩
 ·rw [hg]; cases w.flat <;> simp [sw]
 ·intro p gg e' u' k v ho1 ho2 _ _ hat hhd
  cases p with
  | nil =>
   simp only [atP, Option.some.injEq] at hat
   cases hat
   exact ⟨m, hlen, rfl, by simpa [hdrAt] using hhd⟩
  | cons q p =>
   obtain ⟨i, o⟩ := q
   cases hf : w.flat with
   | true => simp only [atP, flat_slAt hf] at hat; cases hat
   | false =>
    rw [hg, hf] at ho1
    simp only [okG, sw, Nat.beq_eq] at ho1 ho2
    omega
section
variable {X : Cx} {ρ : Type} {base : Nat} {h : Hp} {K : AV → Hp → Option ρ} {y : ρ}
set_option maxHeartbeats 1000000 in
theorem storeArr_ok {t : TypeId} {u : U} {x z : Operand} {id : Nat} {p : List (Nat × Nat)} {g i o' : Nat} {e : Bool} {w : U} {l : List w.El} {g' : Nat} {e' : Bool} {w' : U} {l' : List w'.El} {v : AV} {yv : u.El} {ks : List Nat} {x' : w'.El} {m : List w.El}
  (ht : TyOK X.P t u) (hl : lkH h id = .arr e w l g') (hok : okG p g g' = true) (hat : atP e w l p = some ⟨e', w', l'⟩) (hp : u.plain = true) (hc : (unpack v).all (cellA h) = true) (has : asmOV h u v = some (yv, ks))
  (hset : setAt u yv w' (l'.getD i w'.dflt) o' = some x') (hmod : modP w' (fun l => l.set i x') e w l p = some m) (hks : ks.any (Nat.beq id) = false)
  (hy : K .und ((id, .arr e w m (sw w.flat g' (g' + 1))) :: killed ks) = some y) : Good X base (.store t x z) [.pe id p g i o', v] h K y := by
 refine ⟨_, _, hy, ?_⟩
 intro o M tt used own a next Q ho hd hvs hh hi hb hn
 obtain ⟨h1, h2⟩ := map2 hvs
 have hx := (hi.ev x).1
 have hz := (hi.ev z).1
 have hzu := (hi.ev z).2
 rw [h1] at hx; rw [h2] at hz hzu
 have hM : M.h id = .arr e w l g' := by rw [hh id (by rw [hl]; simp), hl]
 have hkid : id ∉ ks := fun hk => by rw [any_beq.2 hk] at hks; cases hks
 simp only [AVRep] at hx
 obtain ⟨_, hx⟩ := rowOld hx hM
 obtain ⟨e2, w2, l2, ad, cap, hat2, hhd, hil, hv⟩ := hx hok
 rw [hat] at hat2
 cases hat2
 obtain ⟨hpw, F, hsl, hnd, hown⟩ := hi.arr hM
 obtain ⟨hpw', F1, F', F2, rfl, hsl', hrep⟩ := path_rep hpw hsl hat hhd
 rcases hsl' with ⟨hn', _⟩ | ⟨a', cap', cc, ty, fz, pp, mc, q, G, hv', hs, he, hlc, hw, hcc, hpl, hr, rfl, how⟩
 ·simp at hn'
 simp only [Value.slice.injEq, Option.some.injEq] at hv'
 obtain ⟨rfl, _, rfl⟩ := hv'
 obtain ⟨hoff, hfz, hcsz, hcm⟩ := how rfl
 obtain ⟨c1, c2, c3, G1, G2, G3, rfl, rfl, hl1, hxr, htk, hdr', _⟩ := RepL.at (n := w'.sz) (fun _ _ _ => Rep.length) w'.dflt i hr hil
 obtain ⟨hur, hu1⟩ := unpack_rep hi hh hc hz
 obtain ⟨Fy, hyr, hynd, hksnd, ⟨_, hFy, hkd⟩, hkr⟩ := asmOV_rep hi hh hp has hur
 have hbl : ad.block < M.w.heap.size := lt_of_heap hw
 have hob : own ad.block = some id := hown _ (by simp)
 -- what is kept
 have hFyne : ∀ b ∈ Fy, own b ≠ some id := by
  intro b hb e
  obtain ⟨k, hk, e2⟩ := hFy b hb
  rw [e] at e2
  cases e2
  exact hkid hk
 have hne : ∀ b, b ∈ F1 ∨ b ∈ G1 ∨ b ∈ G2 ∨ b ∈ G3 ∨ b ∈ F2 → b ≠ ad.block := by
  intro b hb e
  subst e
  simp only [List.nodup_append, List.mem_append, List.mem_cons, List.nodup_cons] at hnd
  rcases hb with hb | hb | hb | hb | hb
  ·exact hnd.1.2.2 _ hb _ (.inl rfl) rfl
  ·exact hnd.1.2.1.1 (.inl (.inl hb))
  ·exact hnd.1.2.1.1 (.inl (.inr hb))
  ·exact hnd.1.2.1.1 (.inr hb)
  ·exact hnd.2.2 _ (.inr (.inl rfl)) _ hb rfl
 have hlx := Rep.length hxr
 have hylen := Rep.length hyr
 -- the new world
 have hoc : ad.off + (i * w'.sz + o') + u.sz ≤ cc.size ∧ o' + u.sz ≤ c2.length := by
  obtain ⟨d1, d2, d3, H1, H2, H3, hcc2, e1, e2, _⟩ := setAt_rep (w := M.w) (w' := M.w) hyr hpw' hxr (fun _ _ => rfl) hset
  have h5 : c2.length = d1.length + d2.length + d3.length := by rw [hcc2]; simp; omega
  have h6 : cc.toList.length = pp.length + (c1.length + c2.length + c3.length) + q.length := by rw [hcc]; simp; omega
  rw [Array.length_toList] at h6
  omega
 have hrun := store_run (P := X.P) (t := t) (W := M.w) (ad := ad.add (i * w'.sz + o')) (v := a.eval z) ht (Addr.add_spot hs _) hylen (by rw [Addr.add_block]; exact hw) (by rw [Addr.add_off]; exact hoc.1) hu1 (fun j hj => hfz j (by omega))
 rw [Addr.add_block, Addr.add_off] at hrun
 generalize hvs' : (a.eval z).cells.toList = vs at hrun hyr hylen hur hu1
 have hexec : (execOp a.eval o).run X.P M.w = .ok .skip (putB M.w ad.block (.cells (splice cc.toList (ad.off + (i * w'.sz + o')) vs).toArray ty fz)) := by
  simp only [execOp, ho, Instr.storeAt, hv, Instr.sureAddr, Sem.run_bind, Sem.run_pure, Result.andThen_ok, hrun]
 refine wp_skipped hexec ?_
 have hsame : ∀ b, b ≠ ad.block → (putB M.w ad.block (.cells (splice cc.toList (ad.off + (i * w'.sz + o')) vs).toArray ty fz)).heap[b]? = M.w.heap[b]? := fun b hb => putB_other hb
 generalize hW : putB M.w ad.block (.cells (splice cc.toList (ad.off + (i * w'.sz + o')) vs).toArray ty fz) = W at hsame
 have hWb : W.heap[ad.block]? = some (.cells (splice cc.toList (ad.off + (i * w'.sz + o')) vs).toArray ty fz) := by rw [← hW]; exact putB_same hbl
 have hyr' : Rep W true u yv vs Fy := Rep.frame (fun b hb => hsame b (fun e => hFyne b hb (e ▸ hob))) hyr
 obtain ⟨d1, d2, d3, H1, H2, H3, rfl, e1, e2, rfl, hx'⟩ := setAt_rep hyr' hpw' hxr (fun b hb => hsame b (hne b (.inr (.inr (.inl hb))))) hset
 have hspl : splice cc.toList (ad.off + (i * w'.sz + o')) vs = pp ++ (c1 ++ (d1 ++ vs ++ d3) ++ c3) ++ q := by
  have h5 : cc.toList = (pp ++ (c1 ++ d1)) ++ d2 ++ (d3 ++ c3 ++ q) := by rw [hcc]; simp
  have h6 : ad.off + (i * w'.sz + o') = (pp ++ (c1 ++ d1)).length := by rw [List.length_append, List.length_append, hl1, e1, hpl]
  rw [h5, h6, splice_mid e2]; simp
 have hin : SlRep W true e' w'.sz (Rep W true w') (l'.set i x') (.slice (some ad) l'.length cap) (ad.block :: (G1 ++ (H1 ++ Fy ++ H3) ++ G3)) := by
  refine .inr ⟨ad, cap, _, ty, fz, pp, c1 ++ (d1 ++ vs ++ d3) ++ c3, q, _, by simp, hs, ?_, by simpa using hlc, hWb, by simpa using hspl, hpl, ?_, rfl, fun _ => ⟨hoff, ?_, ?_, hcm⟩⟩
  ·intro _ hnil
   have : (l'.set i x').length = 0 := by rw [hnil]; rfl
   rw [List.length_set] at this; omega
  ·have ht' : RepL (Rep W true w') (l'.take i) c1 G1 := RepL.imp (fun _ _ _ hG => Rep.frame (fun b hb => hsame b (hne b (.inr (.inl (hG b hb)))))) htk
   have hd' : RepL (Rep W true w') (l'.drop (i + 1)) c3 G3 := RepL.imp (fun _ _ _ hG => Rep.frame (fun b hb => hsame b (hne b (.inr (.inr (.inr (.inl (hG b hb)))))))) hdr'
   have := RepL.append ht' (m := x' :: l'.drop (i + 1)) (ds := (d1 ++ vs ++ d3) ++ c3) (G := (H1 ++ Fy ++ H3) ++ G3) ⟨_, _, _, _, rfl, rfl, hx', hd'⟩
   rw [List.set_eq_take_append_cons_drop, if_pos hil]
   simpa using this
  ·intro j hj
   refine hfz j ?_
   have : (splice cc.toList (ad.off + (i * w'.sz + o')) vs).length = cc.toList.length := splice_len (by rw [hylen, Array.length_toList]; omega)
   rw [List.size_toArray, this, Array.length_toList] at hj
   exact hj
  ·rw [List.size_toArray, splice_len (by rw [hylen, Array.length_toList]; omega), Array.length_toList]; exact hcsz
 obtain ⟨m', hm', hml, hsm⟩ := hrep W (fun l => l.set i x') _ (fun b hb => hsame b (hne b (.inl hb))) (fun b hb => hsame b (hne b (.inr (.inr (.inr (.inr hb)))))) (by simp) hin
 rw [hmod] at hm'
 cases hm'
 have hsz : W.heap.size = M.w.heap.size := by rw [← hW]; exact putB_sz
 have hI := hi.step (tgt := id) (R := .arr e w m (sw w.flat g' (g' + 1))) (ks := ks) (w' := W) (r' := M.r) (own' := own2 own ks id) (used' := fun j => used j ∨ base ≤ j ∧ j < base + 64)
  (fun j hj => .inl hj) (.inl (hi.ud id (by rw [hM]; simp))) (fun _ _ => rfl) (fun _ => rfl) ?_ ?_ ?_ ?_ ?_ ?_ (by rw [hsz]; exact Nat.le_refl _) (by rw [← hW]; rfl) (by rw [← hW]; rfl) (by rw [← hW]; rfl)
 ·refine hn _ _ _ ?_ ?_ ?_ (hI.put hd (c := .und) (v := undef) (by simp only [AVRep]) (by simp [refs]))
  ·rfl
  ·rfl
  ·rfl
 ·intro _
  exact arr_keeps (X := X) hM (by show lkU _ _ id = _; rw [lkU_cons, if_pos rfl]) rfl rfl hml
 ·intro _
  refine ⟨hpw, F1 ++ (ad.block :: (G1 ++ (H1 ++ Fy ++ H3) ++ G3)) ++ F2, ?_, ?_, ?_⟩
  ·rw [hml]; exact hsm
  ·have h7 : ((F1 ++ ad.block :: (G1 ++ H1)) ++ H2 ++ (H3 ++ G3 ++ F2)).Nodup := by simpa using hnd
   have h8 := nodup_replace h7 hynd (fun b hb => ?_)
   ·simpa using h8
   ·have hbne : ∀ z, own z = some id → b ≠ z := fun z hz e => hFyne b hb (e ▸ hz)
    constructor
    ·intro hm; exact hbne b (hown b (by simp only [List.mem_append, List.mem_cons] at hm ⊢; rcases hm with hm | hm | hm | hm <;> simp [hm])) rfl
    ·intro hm; exact hbne b (hown b (by simp only [List.mem_append, List.mem_cons] at hm ⊢; rcases hm with (hm | hm) | hm <;> simp [hm])) rfl
  ·intro b hb
   have hold : own b = some id → own2 own ks id b = some id := fun h => by simp [own2, h, hkid]
   simp only [List.mem_append, List.mem_cons] at hb
   by_cases hby : b ∈ Fy
   ·obtain ⟨k, hk, e3⟩ := hFy b hby
    simp [own2, e3, hk]
   ·refine hold (hown b ?_)
    simp only [List.mem_append, List.mem_cons]
    rcases hb with (hb | hb | ((hb | ((hb | hb) | hb)) | hb)) | hb <;> simp_all
 ·intro cs' hcs'; cases hcs'
 ·intro b' id' hob' hne' hkn
  refine ⟨by simp [own2, hob', hkn], hsame b' ?_⟩
  intro e
  subst e
  rw [hob] at hob'
  cases hob'
  exact hne' rfl
 ·intro b' id' hob'
  rw [hsz]
  unfold own2 at hob'
  cases h9 : own b' with
  | none => rw [h9] at hob'; cases hob'
  | some k => exact hi.ow b' k h9
 ·intro b' hZ
  refine hsame b' ?_
  intro e
  subst e
  exact (hi.ow _ id hob).2 hZ
end
end Go.VM

namespace Go.VM
variable [Bor]
open Go.RowKit
theorem data_plain : ∀ {u : U}, u.data = true → u.plain = true
 | .bool, _ => rfl | .int _, _ => rfl | .str, _ => rfl | .unit, _ => rfl
 | .sl _ u, h => data_plain (u := u) h
 | .pair a b, h => by
  simp only [U.data, Bool.and_eq_true] at h
  simp only [U.plain, Bool.and_eq_true]; exact ⟨data_plain h.1, data_plain h.2⟩
 | .ar _ _, h => by cases h
 | .oth, _ => rfl
 | .bs u, h => data_plain (u := u) h
 | .pt u, h => by
  simp only [U.data, Bool.and_eq_true] at h
  simp only [U.plain, Bool.and_eq_true]; exact ⟨data_plain h.1, h.2⟩
 | .tr u, h => by
  simp only [U.data, Bool.and_eq_true] at h
  simp only [U.plain, Bool.and_eq_true]; exact ⟨data_plain h.1, h.2⟩
theorem zero_Rep {w : World} : ∀ {u : U} {cs : List Value}, u.data = true → ZeroC u cs → Rep w true u u.dflt cs []
 | .bool, cs, _, h => ⟨h, rfl⟩
 | .int k, cs, _, h => ⟨h, rfl⟩
 | .str, cs, _, h => ⟨h, rfl⟩
 | .sl e u, cs, _, h => ⟨_, h, .inl <| .inl ⟨rfl, rfl, rfl⟩⟩
 | .unit, cs, _, h => ⟨h, rfl⟩
 | .pair a b, cs, hd, h => by
  obtain ⟨c, d, rfl, h1, h2⟩ := h
  simp only [U.data, Bool.and_eq_true] at hd
  exact ⟨c, d, [], [], rfl, rfl, zero_Rep hd.1 h1, zero_Rep hd.2 h2⟩
 | .ar _ _, cs, hd, _ => by cases hd
 | .oth, cs, hd, h => by
  obtain ⟨v, rfl, hv⟩ := h
  exact ⟨rfl, v, rfl, hv⟩
 | .bs u, cs, hd, h => ⟨rfl, _, h, Bor.nil u⟩
 | .pt u, cs, hd, h => rep_pnil.2 ⟨h, rfl⟩
 | .tr u, cs, hd, h => by
  obtain ⟨c, rfl, h1⟩ := h
  simp only [U.data, Bool.and_eq_true] at hd
  exact tr_join hd.2 (t := .nil) (zero_Rep hd.1 h1) ⟨_, rfl, .inl <| .inl ⟨rfl, rfl, rfl⟩⟩
theorem replicate_get {α : Type} (l : List α) : ∀ (n j : Nat), j < n * l.length → (List.replicate n l).flatten[j]? = l[j % l.length]?
 | 0, j, h => by simp at h
 | n + 1, j, h => by
  rw [List.replicate_succ, List.flatten_cons]
  by_cases hj : j < l.length
  ·rw [List.getElem?_append_left hj, Nat.mod_eq_of_lt hj]
  ·rw [List.getElem?_append_right (by omega), replicate_get l n (j - l.length) (by rw [Nat.succ_mul] at h; omega)]
   rw [show j % l.length = (j - l.length) % l.length from Nat.mod_eq_sub_mod (by omega)]
theorem made_list (z : Array Value) (n : Nat) : (madeCells z (n * z.size)).toList = (List.replicate n z.toList).flatten := by
 apply List.ext_getElem?
 intro j
 by_cases hj : j < n * z.size
 ·rw [replicate_get _ _ _ (by simpa using hj)]
  have hz : 0 < z.size := by
   rcases Nat.eq_zero_or_pos z.size with h | h
   ·rw [h] at hj; simp at hj
   ·exact h
  have hm : j % z.size < z.size := Nat.mod_lt _ hz
  simp [madeCells, hj, hm]
 ·rw [List.getElem?_eq_none (by simp [madeCells]; omega), List.getElem?_eq_none (by simp [List.length_flatten]; omega)]
section
variable {X : Cx} {ρ : Type} {base : Nat} {h : Hp} {K : AV → Hp → Option ρ} {y : ρ}
theorem makeSlice_ok {t : TypeId} {e : Bool} {u : U} {l c : Operand} {k k' : IntKind} {m n : Int} (ht : TyOK X.P t (.sl e u)) (hd : u.data = true) (hy : cond (inC m n 1000000000) (K (.hs base [] none 0) [(base, .arr false u (List.replicate m.toNat u.dflt) 0)]) none = some y) :
  Good X base (.makeSlice t l c) [.im (.int k) m, .im (.int k') n] h K y := by
 obtain ⟨hc, hy⟩ := cond_none hy
 have hc : 0 ≤ m ∧ m ≤ n ∧ n ≤ 1000000000 := by simpa [inC] using hc
 refine ⟨_, _, hy, OpOK.newArr (ks := []) (data_plain hd) (by simp) ?_⟩
 intro o M tt used own a ho hvs hh hi
 obtain ⟨h1, h2⟩ := map2 hvs
 have hx := (hi.ev l).1
 have hz := (hi.ev c).1
 rw [h1] at hx; rw [h2] at hz
 obtain ⟨d, hdd, hsh⟩ := ht.d
 obtain ⟨el, rfl, hel, _⟩ := hsh
 obtain ⟨i, z, hei, hsz, hby, hzz, hzc⟩ := hel.i
 have hb : (i.bytes : Int) * n ≤ 281474976710656 := by
  have h1 : (i.bytes : Int) ≤ 140000 := by omega
  have h2 : (i.bytes : Int) * n ≤ 140000 * n := Int.mul_le_mul_of_nonneg_right h1 (by omega)
  omega
 have hrun := run_make (P := X.P) M.w t el i z hdd hei hzz k k' m n hc.1 hc.2.1 hb (by omega)
 have hzl : z.cells.size = u.sz := by have := Rep.length (zero_Rep (w := M.w) hd hzc); simpa using this
 refine ⟨M.w.alloc (.cells (madeCells z.cells (n.toNat * i.size)) el), (some ⟨M.w.heap.size, 0, none⟩, n.toNat), [M.w.heap.size], ⟨rfl, rfl, rfl, by rw [alloc_sz]; omega, fun b hb _ => alloc_old _ _ hb⟩, ?_, by simp, ?_, ?_⟩
 ·refine .inr ⟨⟨M.w.heap.size, 0, none⟩, n.toNat, _, el, (0, 0), [], (List.replicate m.toNat z.cells.toList).flatten, (List.replicate (n.toNat - m.toNat) z.cells.toList).flatten, [], by simp [hdr], rfl, (fun h => by cases h), by simp; omega, alloc_new _ _, ?_, rfl, RepL.replicate (zero_Rep hd hzc) _, rfl, fun _ => ⟨rfl, by simp, ?_, ?_⟩⟩
  ·rw [hsz, ← hzl, made_list]
   simp only [List.nil_append]
   rw [← List.flatten_append, List.replicate_append_replicate]
   congr 2; omega
  ·rw [hsz, size_madeCells]
  ·simp only [maxLen]; omega
 ·intro b hb
  simp at hb; subst hb
  rw [alloc_sz]
  exact ⟨by omega, fun h => by omega⟩
 ·simp only [execOp, ho, im_int hx, im_int hz, Sem.run_bind, hrun, Result.andThen_ok, hdr, List.length_replicate]
  rfl
end
end Go.VM

namespace Go.VM
variable [Bor]
open Go.RowKit
section
variable {X : Cx} {M : Mem} {t : List (Nat × AV)} {used : Nat → Prop} {own : Nat → Option Nat} {a : Act} {h : Hp}
theorem castL_some {u v : U} {l : List u.El} {m : List v.El} (h : castL u v l = some m) : ∃ e : u = v, e ▸ l = m := by
 unfold castL at h
 split at h
 ·rename_i e; simp only [Option.some.injEq] at h; exact ⟨e, h⟩
 ·cases h
theorem whole_rep (hi : Inv X M t used own a) (hh : ∀ id, lkH h id ≠ .dead → M.h id = lkH h id) {id g : Nat} {e : Bool} {u : U} {l : List u.El} {g' : Nat} {v : Value} (hl : lkH h id = .arr e u l g') (hv : AVRep M (.hs id [] none g) v) :
  u.plain = true ∧ ∃ F, SlRep M.w true e u.sz (Rep M.w true u) l v F ∧ F.Nodup ∧ ∀ b ∈ F, own b = some id := by
 have hM : M.h id = .arr e u l g' := by rw [hh id (by rw [hl]; simp), hl]
 simp only [AVRep] at hv
 obtain ⟨_, hv⟩ := rowOld hv hM
 obtain ⟨e2, u2, l2, v2, hat, hhd, hw⟩ := hv rfl
 simp only [atP, Option.some.injEq] at hat
 cases hat
 simp only [hdrAt, Option.some.injEq] at hhd
 simp only [Win] at hw
 subst hhd
 obtain ⟨hp, F, hs, hnd, hown⟩ := hi.arr hM
 exact ⟨hp, F, by rw [hw]; exact hs, hnd, hown⟩
theorem RepL.flatG {w : World} {o : Bool} {u : U} (hf : u.flat = true) : ∀ {l : List u.El} {cs G}, RepL (Rep w o u) l cs G → G = [] ∧ RepL (Rep w true u) l cs []
 | [], _, _, h => ⟨h.2, h.1, rfl⟩
 | x :: l, _, _, h => by
  obtain ⟨c, d, G, H, rfl, rfl, h1, h2⟩ := h
  obtain ⟨rfl, h3⟩ := RepL.flatG hf h2
  have := Rep.flat hf h1
  subst this
  have h1' : Rep w true u x c [] := by cases o with | true => exact h1 | false => exact Rep.own hf h1
  exact ⟨rfl, c, d, [], [], rfl, rfl, h1', h3⟩
theorem addr_zero (a : Addr) : a.add 0 = a := by simp [Addr.add]
theorem src_rep (hi : Inv X M t used own a) (hh : ∀ id, lkH h id ≠ .dead → M.h id = lkH h id) {u : U} {s : AV} {e : Bool} {l : List u.El} {ks : List Nat} {v : Value} (hs : srcA h u s = some (e, l, ks)) (hv : AVRep M s v) :
  ∃ F, SlRep M.w true e u.sz (Rep M.w true u) l v F ∧ F.Nodup ∧ (∀ b ∈ F, ∃ id ∈ ks, own b = some id) ∧ ∀ i ∈ ks, i ∈ refs s := by
 unfold srcA at hs
 split at hs
 ·simp only [Option.some.injEq, Prod.mk.injEq] at hs
  obtain ⟨rfl, rfl, rfl⟩ := hs
  simp only [AVRep] at hv
  exact ⟨[], .inl ⟨hv, rfl, rfl⟩, List.nodup_nil, by simp, by simp⟩
 ·rename_i id g
  split at hs
  case h_2 => cases hs
  case h_1 e1 u1 l1 g1 hl =>
   split at hs
   case h_2 => cases hs
   case h_1 l2 hc =>
    obtain ⟨rfl, rfl⟩ := castL_some hc
    simp only [Option.some.injEq, Prod.mk.injEq] at hs
    obtain ⟨rfl, rfl, rfl⟩ := hs
    obtain ⟨_, F, h1, h2, h3⟩ := whole_rep hi hh hl hv
    exact ⟨F, h1, h2, fun b hb => ⟨id, by simp, h3 b hb⟩, by simp [refs]⟩
 ·rename_i id n g
  split at hs
  case h_2 => cases hs
  case h_1 e1 u1 l1 g1 hl =>
   split at hs
   case h_2 => cases hs
   case h_1 l2 hc =>
    obtain ⟨rfl, rfl⟩ := castL_some hc
    obtain ⟨hfl, hs⟩ := sw_some hs
    simp only [Option.some.injEq, Prod.mk.injEq] at hs
    obtain ⟨rfl, rfl, rfl⟩ := hs
    have hM : M.h id = .arr e1 u1 l1 g1 := by rw [hh id (by rw [hl]; simp), hl]
    simp only [AVRep] at hv
    obtain ⟨_, hv⟩ := rowOld hv hM
    obtain ⟨e2, u2, l2, v2, hat, hhd, hw⟩ := hv rfl
    simp only [atP, Option.some.injEq] at hat
    cases hat
    simp only [hdrAt, Option.some.injEq] at hhd
    subst hhd
    obtain ⟨hp, F, hsl, hnd, hown⟩ := hi.arr hM
    simp only [Win] at hw
    rcases hw with ⟨hv0, _, rfl, rfl⟩ | ⟨ad0, len, cap0, k, hv0, hn, hlc, rfl, hk, _, hk0⟩
    ·exact ⟨[], .inl ⟨rfl, by simp, rfl⟩, List.nodup_nil, by simp, by simp [refs]⟩
    ·obtain rfl : k = 0 := by simpa using hk0
     rcases hsl with ⟨hv', _⟩ | ⟨a1, cap, c, ct, fz, p, m, q, G, hv', hsp, he, hlc2, hhp, hcc, hpl, hr, rfl, how⟩
     ·rw [hv'] at hv0; simp at hv0
     ·rw [hv'] at hv0
      simp only [Value.slice.injEq, Option.some.injEq] at hv0
      obtain ⟨rfl, rfl, rfl⟩ := hv0
      obtain ⟨hoff, hfz, hsz, hcm⟩ := how rfl
      obtain ⟨rfl, hr⟩ := RepL.flatG hfl hr
      have hlen : (l1.take n).length = n := by rw [List.length_take]; omega
      obtain ⟨c1, c2, G1, H1, rfl, hG, h5, _⟩ := RepL.of_append (l := l1.take n) (m := l1.drop n) (by rw [List.take_append_drop]; exact hr)
      obtain ⟨rfl, _⟩ := List.append_eq_nil_iff.1 hG.symm
      refine ⟨[a1.block], .inr ⟨a1, cap, c, ct, fz, p, c1, c2 ++ q, [], ?_, hsp, (fun h => by cases h), by rw [hlen]; omega, hhp, by rw [hcc]; simp, hpl, h5, rfl, fun _ => ⟨hoff, hfz, hsz, hcm⟩⟩, by simp, fun b hb => ⟨id, by simp, hown b hb⟩, by simp [refs]⟩
      rw [hlen, Nat.zero_mul, Nat.sub_zero, addr_zero]
 ·cases hs
def Put (M : Mem) (own : Nat → Option Nat) (u : U) (m : List u.El) (js : List Nat) (v : Value) : Prop :=
 ∃ ad cap cs G, v = .slice ad m.length cap ∧ RepL (Rep M.w true u) m cs G ∧ G.Nodup ∧ (∀ b ∈ G, ∃ id ∈ js, own b = some id) ∧ (m = [] ∨ ∃ d, ad = some d ∧ ∀ j w, cs[j]? = some w → M.w.cell? (d.add j) = some w)
theorem cells_at {w : World} {d : Addr} {c : Array Value} {t fz p cs q} (hs : d.spot = none) (hh : w.heap[d.block]? = some (.cells c t fz)) (hc : c.toList = p ++ cs ++ q) (hp : p.length = d.off) : ∀ j v, cs[j]? = some v → w.cell? (d.add j) = some v := by
 intro j v hj
 simp only [World.cell?, Addr.add_block, hh, Addr.add_off, Addr.add_spot hs, Option.isSome_none, Bool.false_eq_true, if_false]
 rw [← Array.getElem?_toList, hc, ← hp, List.append_assoc, List.getElem?_append_right (by omega), Nat.add_sub_cancel_left, List.getElem?_append_left (lt_of_getElem? hj)]
 exact hj
theorem put_of_view {u : U} {m : List u.El} {S : Nat → Prop} {e : Bool} {v : Value} (hf : u.flat = true) (h : View M.w S e u m v) : Put M own u m [] v := by
 obtain ⟨_, F, h, _⟩ := h
 rcases h with (⟨rfl, rfl, _⟩ | ⟨d, cap, c, t, fz, p, cs, q, G, rfl, hs, _, _, hh, hc, hp, hr, _⟩) | ⟨_, _, rfl, _, a, cap, rfl⟩
 rotate_left 2
 ·exact ⟨some a, cap, [], [], rfl, ⟨rfl, rfl⟩, List.nodup_nil, by simp, .inl rfl⟩
 ·exact ⟨none, 0, [], [], rfl, ⟨rfl, rfl⟩, List.nodup_nil, by simp, .inl rfl⟩
 ·obtain ⟨rfl, h3⟩ := RepL.flatG hf hr
  exact ⟨some d, cap, cs, [], rfl, h3, List.nodup_nil, by simp, .inr ⟨d, rfl, cells_at hs hh hc hp⟩⟩
theorem add_rep (hi : Inv X M t used own a) (hh : ∀ id, lkH h id ≠ .dead → M.h id = lkH h id) {u : U} (hp : u.plain = true) {x : AV} {m : List u.El} {js : List Nat} {v : Value} (hs : addA h u x = some (m, js)) (hv : AVRep M x v) :
  Put M own u m js v ∧ ∀ i ∈ js, i ∈ refs x := by
 unfold addA at hs
 split at hs
 ·rename_i id g
  by_cases hf : u.flat = true
  ·rw [sw_true hf] at hs
   split at hs
   ·rename_i l hl
    simp only [Option.some.injEq, Prod.mk.injEq] at hs
    obtain ⟨rfl, rfl⟩ := hs
    exact ⟨put_of_view hf (lookAs hi hh hp hl hv), by simp⟩
   ·cases hs
  ·rw [sw_false (by simpa using hf)] at hs
   split at hs
   case h_2 => cases hs
   case h_1 e1 u1 l1 g1 hl =>
    split at hs
    case h_2 => cases hs
    case h_1 l2 hc =>
     obtain ⟨rfl, rfl⟩ := castL_some hc
     simp only [Option.some.injEq, Prod.mk.injEq] at hs
     obtain ⟨rfl, rfl⟩ := hs
     obtain ⟨_, F, h1, h2, h3⟩ := whole_rep hi hh hl hv
     refine ⟨?_, by simp [refs]⟩
     rcases h1 with ⟨rfl, rfl, _⟩ | ⟨d, cap, c, t, fz, p, cs, q, G, rfl, hsp, _, _, hhp, hc, hpl, hr, rfl, _⟩
     ·exact ⟨none, 0, [], [], rfl, ⟨rfl, rfl⟩, List.nodup_nil, by simp, .inl rfl⟩
     ·exact ⟨some d, cap, cs, G, rfl, hr, (List.nodup_cons.1 h2).2, fun b hb => ⟨id, by simp, h3 b (List.mem_cons_of_mem _ hb)⟩, .inr ⟨d, rfl, cells_at hsp hhp hc hpl⟩⟩
 ·obtain ⟨hf, hs⟩ := sw_some hs
  split at hs
  ·rename_i l hl
   simp only [Option.some.injEq, Prod.mk.injEq] at hs
   obtain ⟨rfl, rfl⟩ := hs
   exact ⟨put_of_view hf (lookAs hi hh hp hl hv), by simp⟩
  ·cases hs
end
end Go.VM

namespace Go.VM
variable [Bor]
open Go.RowKit
theorem run_append_zero {P : Program} {W : World} {t el ty : TypeId} {i : TypeInfo} (ht : P.underlying t = some (.slice el)) (hi : P.info? el = some i) {b : Option Addr} {n cap : Nat} {v : Option Addr} {c : Nat} (hn : n ≤ cap) :
  (Builtin.append_ #[t, t] ty #[.slice b n cap, .slice v 0 c]).run P W = .ok (.slice b n cap) W := by
 have hf : (Builtin.firstCells i.size 0 (.slice v 0 c)).run P W = .ok #[] W := by
  cases v <;> simp [Builtin.firstCells, loadCells, loadCellsFrom]
 cases b with
 | none => simp [Builtin.append_, run_underlying ht, run_sizeOf hi, Builtin.lenOf, hn, hf]
 | some b => simp [Builtin.append_, run_underlying ht, run_sizeOf hi, Builtin.lenOf, hn, hf, storeCells]
theorem run_append_in {P : Program} {W : World} {t el ty : TypeId} {i : TypeInfo} (ht : P.underlying t = some (.slice el)) (hi : P.info? el = some i) {b : Addr} {n cap m c : Nat} {d : Addr} {cs : List Value} {cc : Array Value} {ct : TypeId} {fz : Nat × Nat}
  (hs : b.spot = none) (hoff : b.off = 0) (hh : W.heap[b.block]? = some (.cells cc ct fz)) (hl : cs.length = m * i.size) (hcs : ∀ j v, cs[j]? = some v → W.cell? (d.add j) = some v) (h1 : ∀ v ∈ cs, v.oneCell' = true) (hf : ∀ j, j < cc.size → ¬ (fz.1 ≤ j ∧ j < fz.2))
  (hroom : n + m ≤ cap) (hfit : n * i.size + cs.length ≤ cc.size) :
  (Builtin.append_ #[t, t] ty #[.slice (some b) n cap, .slice (some d) m c]).run P W = .ok (.slice (some b) (n + m) cap) (putB W b.block (.cells (splice cc.toList (n * i.size) cs).toArray ct fz)) := by
 have hfc := run_firstCells_some (P := P) W i.size m d m c cs hl hcs
 have hb : b.add (n * i.size) = ⟨b.block, n * i.size, none⟩ := by
  have h1 := Addr.plain (Addr.add_spot hs (n * i.size))
  rw [h1, Addr.add_block, Addr.add_off, hoff, Nat.zero_add]
 have hst := run_storeCells (P := P) (b := b.block) (t := ct) (fz := fz) (off := n * i.size) cs 0 cc W hh (by omega) h1 hf
 rw [Nat.add_zero] at hst
 simp [Builtin.append_, run_underlying ht, run_sizeOf hi, Builtin.lenOf, hroom, hfc, hb, hst]
theorem take_app {α : Type} {p m q r : List α} (h : m.length = p.length) (hq : r.length ≤ q.length) : splice (m ++ q) p.length r = m ++ r ++ q.drop r.length := by
 simp only [splice]
 rw [← h, List.take_left, List.drop_append]
 rw [List.drop_eq_nil_of_le (by omega), Nat.add_sub_cancel_left]
 simp
section
variable {X : Cx} {ρ : Type} {base : Nat} {h : Hp} {K : AV → Hp → Option ρ} {y : ρ}
theorem append_ok {t : TypeId} {args : Array Operand} {e : Bool} {u : U} {s x : AV} (ht : TyOK X.P t (.sl e u)) (hy : appendA base h u s x K = some y) :
  Good X base (.call { callee := .builtin .append, args, argTypes := #[t, t] }) [s, x] h K y := by
 unfold appendA at hy
 split at hy
 case h_2 => cases hy
 case h_1 e' l ks m js hsrc hadd =>
 obtain ⟨hnd, hy⟩ := sw_some hy
 simp only [Bool.and_eq_true] at hnd
 obtain ⟨hnd, hdata⟩ := hnd
 have hnd := nodup_iff.1 hnd
 obtain ⟨hroom, hy⟩ := cond_none hy
 have hroom : l.length + m.length ≤ 1000000000 := by simpa [room] using hroom
 have hp := data_plain hdata
 have hrefs : ∀ k ∈ ks ++ js, ∃ c ∈ [s, x], k ∈ refs c := by
  intro k hk
  rcases List.mem_append.1 hk with hk | hk
  ·refine ⟨s, by simp, ?_⟩
   unfold srcA at hsrc
   split at hsrc
   ·simp only [Option.some.injEq, Prod.mk.injEq] at hsrc; obtain ⟨_, _, rfl⟩ := hsrc; simp at hk
   ·split at hsrc
    ·split at hsrc
     ·simp only [Option.some.injEq, Prod.mk.injEq] at hsrc; obtain ⟨_, _, rfl⟩ := hsrc; simpa [refs] using hk
     ·cases hsrc
    ·cases hsrc
   ·split at hsrc
    ·split at hsrc
     ·obtain ⟨_, hsrc⟩ := sw_some hsrc
      simp only [Option.some.injEq, Prod.mk.injEq] at hsrc; obtain ⟨_, _, rfl⟩ := hsrc; simpa [refs] using hk
     ·cases hsrc
    ·cases hsrc
   ·cases hsrc
  ·refine ⟨x, by simp, ?_⟩
   unfold addA at hadd
   split at hadd
   ·cases hf : u.flat with
    | true =>
     rw [sw_true hf] at hadd
     split at hadd
     ·simp only [Option.some.injEq, Prod.mk.injEq] at hadd; obtain ⟨_, rfl⟩ := hadd; simp at hk
     ·cases hadd
    | false =>
     rw [sw_false hf] at hadd
     split at hadd
     ·split at hadd
      ·simp only [Option.some.injEq, Prod.mk.injEq] at hadd; obtain ⟨_, rfl⟩ := hadd; simpa [refs] using hk
      ·cases hadd
     ·cases hadd
   ·obtain ⟨_, hadd⟩ := sw_some hadd
    split at hadd
    ·simp only [Option.some.injEq, Prod.mk.injEq] at hadd; obtain ⟨_, rfl⟩ := hadd; simp at hk
    ·cases hadd
 refine ⟨_, _, hy, OpOK.newArr hp (fun k hk => .inl (hrefs k hk)) ?_⟩
 intro o M tt used own a ho hvs hh hi
 simp only [Op.operands, Call.operands, Array.empty_append] at hvs
 obtain ⟨xs, xx, rfl⟩ : ∃ p q, args = #[p, q] := by
  obtain ⟨al⟩ := args
  match al, hvs with
  | [p, q], _ => exact ⟨p, q, rfl⟩
  | [], h => simp at h
  | [_], h => simp at h
  | _ :: _ :: _ :: _, h => simp at h
 obtain ⟨h1, h2⟩ := map2 hvs
 have hsv := (hi.ev xs).1
 have hxv := (hi.ev xx).1
 rw [h1] at hsv; rw [h2] at hxv
 obtain ⟨d, hd, hsh⟩ := ht.d
 obtain ⟨el, rfl, hel, _⟩ := hsh
 obtain ⟨i, z, hei, hsz, hby, hzz, hzc⟩ := hel.i
 have hpos := hel.pos
 obtain ⟨F, hsl, hFn, hFo, _⟩ := src_rep hi hh hsrc hsv
 obtain ⟨⟨ad, xc, cs, G, hxe, hcr, hGn, hGo, hcell⟩, _⟩ := add_rep hi hh hp hadd hxv
 have hclen := RepL.length (n := u.sz) (fun _ _ _ => Rep.length) hcr
 have hzl : z.cells.size = u.sz := by have := Rep.length (zero_Rep (w := M.w) hdata hzc); simpa using this
 -- the run, as the operation
 have fin : ∀ (v' : Value) (W : World), (Builtin.append_ #[t, t] o.type #[a.eval xs, a.eval xx]).run X.P M.w = .ok v' W → (execOp a.eval o).run X.P M.w = .ok (.value v') W := by
  intro v' W hr
  simp only [execOp, ho, resolve, invoke, builtin, List.map_toArray, List.map_cons, List.map_nil, Sem.run_bind, Sem.run_pure, Result.andThen_ok, hr]
 -- footprints
 have hFG : ∀ b ∈ F, b ∉ G := by
  intro b hb hb'
  obtain ⟨k, hk, e1⟩ := hFo b hb
  obtain ⟨j, hj, e2⟩ := hGo b hb'
  rw [e1] at e2
  cases e2
  exact (List.nodup_append.1 hnd).2.2 k hk k hj rfl
 have hlt : ∀ b, (∃ k ∈ ks ++ js, own b = some k) → b < M.w.heap.size := fun b ⟨k, _, hb⟩ => (hi.ow b k hb).1
 have hFm : ∀ b ∈ F, ∃ k ∈ ks ++ js, own b = some k := fun b hb => by obtain ⟨k, hk, e⟩ := hFo b hb; exact ⟨k, by simp [hk], e⟩
 have hGm : ∀ b ∈ G, ∃ k ∈ ks ++ js, own b = some k := fun b hb => by obtain ⟨k, hk, e⟩ := hGo b hb; exact ⟨k, by simp [hk], e⟩
 by_cases hm0 : m = []
 ·subst hm0
  -- nothing put on
  obtain ⟨hcs, hG⟩ : cs = [] ∧ G = [] := hcr
  subst hcs; subst hG
  rw [List.append_nil]
  have hval : ∃ r1, a.eval xs = hdr r1 l.length ∧ ∃ b cap, a.eval xs = .slice b l.length cap ∧ l.length ≤ cap := by
   rcases hsl with ⟨hv, rfl, _⟩ | ⟨b, cap, _, _, _, _, _, _, _, hv, _, _, hlc, _⟩
   ·exact ⟨(none, 0), hv, none, 0, hv, Nat.le_refl _⟩
   ·exact ⟨(some b, cap), hv, some b, cap, hv, hlc⟩
  obtain ⟨r1, hr1, b, cap, hbv, hlc⟩ := hval
  refine ⟨M.w, r1, F, ⟨rfl, rfl, rfl, Nat.le_refl _, fun _ _ _ => rfl⟩, by rw [← hr1]; exact hsl, hFn, fun b hb => ⟨hlt b (hFm b hb), fun _ => hFm b hb⟩, ?_⟩
  refine fin _ _ ?_
  rw [hxe, ← hr1, hbv]
  exact run_append_zero hd hei hlc
 ·have hcell0 := hcell.resolve_left hm0
  clear hcell
  obtain ⟨dd, rfl, hcell⟩ := hcell0
  have hmp : 0 < m.length := List.length_pos_iff.2 hm0
  have hone := RepL.one hcr
  have hcl : cs.length = m.length * i.size := by rw [hclen, hsz]
  have hby' : ∀ n, n ≤ 1000000000 → n * i.bytes ≤ 140737488355328 := fun n hn => by
   have : n * i.bytes ≤ 1000000000 * 140000 := Nat.mul_le_mul hn hby
   omega
  rcases hsl with ⟨hv, rfl, rfl⟩ | ⟨b, cap, cc, ct, fz, pp, mc, q, G0, hv, hsp, he, hlc, hhp, hcc, hpl, hr, rfl, how⟩
  ·-- from nil
   have hrun := run_append_nil (P := X.P) M.w t o.type el i z hd hei hzz dd m.length xc cs hcl hcell hmp (by omega) (by have := hby' m.length (by simp at hroom; omega); omega)
   have hge := grownCap_ge M.w m.length 0 el
   refine ⟨M.w.drew.alloc (.cells (cs.toArray ++ Builtin.zeroCells z.cells (grownCap M.w m.length 0 el - m.length)) el), (some ⟨M.w.heap.size, 0, none⟩, grownCap M.w m.length 0 el), M.w.heap.size :: G, ⟨rfl, rfl, rfl, by rw [alloc_sz]; exact Nat.le_succ _, ?_⟩, ?_, ?_, ?_, fin _ _ (by rw [hv, hxe]; simpa [hdr] using hrun)⟩
   ·intro b hb _
    exact alloc_old M.w.drew _ hb
   ·refine .inr ⟨⟨M.w.heap.size, 0, none⟩, grownCap M.w m.length 0 el, _, el, (0, 0), [], cs, (Builtin.zeroCells z.cells (grownCap M.w m.length 0 el - m.length)).toList, G, by simp [hdr], rfl, ?_, by simpa using hge, alloc_new M.w.drew _, by simp, rfl, ?_, rfl, fun _ => ⟨rfl, by simp, ?_, ?_⟩⟩
    ·intro _; simpa using hm0
    ·simp only [List.nil_append]
     refine RepL.imp (fun _ _ _ hG => Rep.frame (fun b hb => ?_)) hcr
     exact alloc_old M.w.drew _ (hlt b (hGm b (hG b hb)))
    ·simp only [Array.size_append, List.size_toArray, size_zeroCells, hclen, hzl, ← Nat.add_mul]
     congr 1; omega
    ·exact grownCap_le_maxLen M.w _ _ _ (by simp only [maxLen]; simp at hroom; omega)
   ·exact List.nodup_cons.2 ⟨fun hb => Nat.lt_irrefl _ (hlt _ (hGm _ hb)), hGn⟩
   ·intro b hb
    rw [alloc_sz]
    rcases List.mem_cons.1 hb with rfl | hb
    ·exact ⟨Nat.lt_succ_self _, fun h => absurd h (Nat.lt_irrefl _)⟩
    ·exact ⟨Nat.lt_succ_of_lt (hlt b (hGm b hb)), fun _ => hGm b hb⟩
  ·obtain ⟨hoff, hfz, hcsz, hcm⟩ := how rfl
   have hmlen := RepL.length (n := u.sz) (fun _ _ _ => Rep.length) hr
   have hpp : pp = [] := List.eq_nil_of_length_eq_zero (by rw [hpl, hoff])
   subst hpp
   simp only [List.nil_append] at hcc
   have hbblk : b.block < M.w.heap.size := lt_of_heap hhp
   have hbG0 : b.block ∉ G0 := (List.nodup_cons.1 hFn).1
   have hbG : b.block ∉ G := hFG b.block (by simp)
   have hG0n := (List.nodup_cons.1 hFn).2
   have hGGn : (G0 ++ G).Nodup := List.nodup_append.2 ⟨hG0n, hGn, fun x hx z hz e => hFG x (by simp [hx]) (e ▸ hz)⟩
   by_cases hfit : l.length + m.length ≤ cap
   ·-- in its place
    have hfit' : l.length * i.size + cs.length ≤ cc.size := by
     rw [hcl, hcsz, hsz, ← Nat.add_mul]
     exact Nat.mul_le_mul_right _ hfit
    have hrun := run_append_in (P := X.P) (W := M.w) (ty := o.type) (c := xc) hd hei hsp hoff hhp hcl hcell hone (fun j hj => hfz j (by omega)) hfit hfit'
    have hspl : splice cc.toList (l.length * i.size) cs = mc ++ cs ++ q.drop cs.length := by
     rw [hcc]
     have h5 : l.length * i.size = mc.length := by rw [hmlen, hsz]
     rw [h5]
     refine take_app rfl ?_
     have : cc.toList.length = mc.length + q.length := by rw [hcc]; simp
     rw [Array.length_toList] at this
     omega
    have hoth : ∀ k, k ≠ b.block → (putB M.w b.block (.cells (splice cc.toList (l.length * i.size) cs).toArray ct fz)).heap[k]? = M.w.heap[k]? := fun k hk => putB_other hk
    refine ⟨putB M.w b.block (.cells (splice cc.toList (l.length * i.size) cs).toArray ct fz), (some b, cap), b.block :: (G0 ++ G), ⟨rfl, rfl, rfl, by rw [putB_sz]; exact Nat.le_refl _, ?_⟩, ?_, ?_, ?_, fin _ _ (by rw [hv, hxe]; simpa [hdr] using hrun)⟩
    ·intro k hk hno
     refine hoth k ?_
     intro e; subst e
     obtain ⟨j, hj, e⟩ := hFm b.block (by simp)
     exact hno j e hj
    ·refine .inr ⟨b, cap, _, ct, fz, [], mc ++ cs, q.drop cs.length, G0 ++ G, by simp [hdr], hsp, ?_, by simpa using hfit, putB_same hbblk, by simpa using hspl, by simpa using hoff.symm, ?_, rfl, fun _ => ⟨hoff, ?_, ?_, hcm⟩⟩
     ·intro _ hn; simp at hn; exact hm0 hn.2
     ·refine RepL.append (RepL.imp (fun _ _ _ hG => Rep.frame (fun k hk => hoth k ?_)) hr) (RepL.imp (fun _ _ _ hG => Rep.frame (fun k hk => hoth k ?_)) hcr)
      ·intro e; subst e; exact hbG0 (hG _ hk)
      ·intro e; subst e; exact hbG (hG _ hk)
     ·intro j hj
      refine hfz j ?_
      rw [List.size_toArray, splice_len (by rw [Array.length_toList]; omega), Array.length_toList] at hj
      exact hj
     ·rw [List.size_toArray, splice_len (by rw [Array.length_toList]; omega), Array.length_toList]; exact hcsz
    ·refine List.nodup_cons.2 ⟨fun hb => ?_, hGGn⟩
     rcases List.mem_append.1 hb with hb | hb
     ·exact hbG0 hb
     ·exact hbG hb
    ·intro k hk
     rw [putB_sz]
     rcases List.mem_cons.1 hk with rfl | hk
     ·exact ⟨hbblk, fun _ => hFm _ (by simp)⟩
     ·rcases List.mem_append.1 hk with hk | hk
      ·exact ⟨hlt k (hFm k (by simp [hk])), fun _ => hFm k (by simp [hk])⟩
      ·exact ⟨hlt k (hGm k hk), fun _ => hGm k hk⟩
   ·-- moved
    have hml : mc.length = l.length * i.size := by rw [hmlen, hsz]
    have hold : ∀ j v, mc[j]? = some v → M.w.cell? (b.add j) = some v := cells_at (p := []) hsp hhp (by simpa using hcc) (by simpa using hoff.symm)
    have hrun := run_append_grow (P := X.P) M.w t o.type el i z hd hei hzz b l.length cap mc hml hold dd m.length xc cs hcl hcell (by omega) (by omega) (growslice_fits (by omega) (hby' _ hroom))
    have hge := grownCap_ge M.w (l.length + m.length) cap el
    refine ⟨M.w.drew.alloc (.cells (mc.toArray ++ cs.toArray ++ Builtin.zeroCells z.cells (grownCap M.w (l.length + m.length) cap el - (l.length + m.length))) el), (some ⟨M.w.heap.size, 0, none⟩, grownCap M.w (l.length + m.length) cap el), M.w.heap.size :: (G0 ++ G), ⟨rfl, rfl, rfl, by rw [alloc_sz]; exact Nat.le_succ _, ?_⟩, ?_, ?_, ?_, fin _ _ (by rw [hv, hxe]; simpa [hdr] using hrun)⟩
    ·intro k hk _
     exact alloc_old M.w.drew _ hk
    ·refine .inr ⟨⟨M.w.heap.size, 0, none⟩, grownCap M.w (l.length + m.length) cap el, _, el, (0, 0), [], mc ++ cs, (Builtin.zeroCells z.cells (grownCap M.w (l.length + m.length) cap el - (l.length + m.length))).toList, G0 ++ G, by simp [hdr], rfl, ?_, by simpa using hge, alloc_new M.w.drew _, by simp, rfl, ?_, rfl, fun _ => ⟨rfl, by simp, ?_, ?_⟩⟩
     ·intro _ hn; simp at hn; exact hm0 hn.2
     ·refine RepL.append (RepL.imp (fun _ _ _ hG => Rep.frame (fun k hk => ?_)) hr) (RepL.imp (fun _ _ _ hG => Rep.frame (fun k hk => ?_)) hcr)
      ·exact alloc_old M.w.drew _ (hlt k (hFm k (by simp [hG k hk])))
      ·exact alloc_old M.w.drew _ (hlt k (hGm k (hG k hk)))
     ·simp only [Array.size_append, List.size_toArray, size_zeroCells, hclen, hzl, hmlen, ← Nat.add_mul]
      congr 1; omega
     ·exact grownCap_le_maxLen M.w _ _ _ (by simp only [maxLen]; omega)
    ·refine List.nodup_cons.2 ⟨fun hb => ?_, hGGn⟩
     rcases List.mem_append.1 hb with hb | hb
     ·exact Nat.lt_irrefl _ (hlt _ (hFm _ (by simp [hb])))
     ·exact Nat.lt_irrefl _ (hlt _ (hGm _ hb))
    ·intro k hk
     rw [alloc_sz]
     rcases List.mem_cons.1 hk with rfl | hk
     ·exact ⟨Nat.lt_succ_self _, fun h => absurd h (Nat.lt_irrefl _)⟩
     ·rcases List.mem_append.1 hk with hk | hk
      ·exact ⟨Nat.lt_succ_of_lt (hlt k (hFm k (by simp [hk]))), fun _ => hFm k (by simp [hk])⟩
      ·exact ⟨Nat.lt_succ_of_lt (hlt k (hGm k hk)), fun _ => hGm k hk⟩
end
end Go.VM

namespace Go.VM
variable [Bor]
open Go.RowKit
theorem fold_list {off : Nat} : ∀ (l : List Value) (k : Nat) (c : Array Value), off + k + l.length ≤ c.size → (l.zipIdx k).foldl (fun cs (x : Value × Nat) => cs.setIfInBounds (off + x.2) x.1) c = (splice c.toList (off + k) l).toArray
 | [], k, c, _ => by simp [splice]
 | v :: l, k, c, h => by
  simp only [List.length_cons] at h
  rw [List.zipIdx_cons, List.foldl_cons, fold_list l (k + 1) _ (by simp; omega)]
  rw [Array.toList_setIfInBounds, ← Nat.add_assoc, splice_set (by simpa using (by omega : off + k < c.size))]
theorem fold_cells {off : Nat} (v : Array Value) (c : Array Value) (h : off + v.size ≤ c.size) : v.zipIdx.foldl (fun cs (x : Value × Nat) => cs.setIfInBounds (off + x.2) x.1) c = (splice c.toList off v.toList).toArray := by
 rw [← Array.foldl_toList, Array.toList_zipIdx]
 have := fold_list (off := off) v.toList 0 c (by simpa using h)
 simpa using this
theorem fill_step {place : Nat → Option (Nat × Nat)} {c : Array Value} {i : Nat} {v : Value} {rest : List (Nat × Value)} {off size : Nat} (hp : place i = some (off, size)) (hs : v.cells.size = size) (h : off + size ≤ c.size) :
  Instr.fill place c ((i, v) :: rest) = Instr.fill place (splice c.toList off v.cells.toList).toArray rest := by
 have h1 : ¬ ((decide (v.cells.size ≠ size) || decide (off + v.cells.size > c.size)) = true) := by simp; omega
 have hf := fold_cells (off := off) v.cells c (by omega)
 simp only [Instr.fill, hp]
 rw [if_neg h1, ← hf]
theorem splice_app {α : Type} {p m q : List α} {r : List α} (hq : r.length ≤ q.length) : splice (p ++ q) p.length r = p ++ r ++ q.drop r.length := by
 simp only [splice]
 rw [List.take_left, List.drop_append, List.drop_eq_nil_of_le (by omega), Nat.add_sub_cancel_left]
 simp
theorem fill_seq {size : Nat} : ∀ (vs : List Value) (k : Nat) (p q : List Value), p.length = k * size → (∀ v ∈ vs, v.cells.size = size) → q.length = vs.length * size →
  Instr.fill (fun i => some (i * size, size)) (p ++ q).toArray ((vs.zipIdx k).map fun x => (x.2, x.1)) = some (p ++ vs.flatMap fun v => v.cells.toList).toArray
 | [], k, p, q, _, _, hq => by
  have : q = [] := List.eq_nil_of_length_eq_zero (by simpa using hq)
  subst this
  simp [Instr.fill]
 | v :: vs, k, p, q, hp, hv, hq => by
  have hvs := hv v (by simp)
  simp only [List.length_cons, Nat.succ_mul] at hq
  rw [List.zipIdx_cons, List.map_cons, fill_step (off := k * size) (size := size) rfl hvs (by simp; omega)]
  have hvl : v.cells.toList.length = size := by simpa using hvs
  have h1 : splice (p ++ q) (k * size) v.cells.toList = (p ++ v.cells.toList) ++ q.drop size := by
   rw [← hp, splice_app (m := p) (by rw [hvl]; omega), hvl]
  rw [List.toList_toArray, h1, fill_seq vs (k + 1) _ _ (by simp only [List.length_append, hvl, hp, Nat.succ_mul]) (fun w hw => hv w (by simp [hw])) (by rw [List.length_drop]; omega)]
  simp
section
variable {X : Cx} {ρ : Type} {base : Nat} {h : Hp} {K : AV → Hp → Option ρ} {y : ρ}
theorem buildL_rep {M : Mem} {t used own a} (hi : Inv X M t used own a) (hh : ∀ id, lkH h id ≠ .dead → M.h id = lkH h id) {u : U} (hp : u.plain = true) : ∀ {ps : List (Nat × AV)} {n : Nat} {l : List u.El} {ks : List Nat} {vs : List Value} {k : Nat},
  buildL h u ps n = some (l, ks) → ps.length = n → seqN ps k = true → AVRepL M (ps.map (·.2)) vs →
   l.length = n ∧ (∀ v ∈ vs, v.cells.size = u.sz) ∧ (ps.map (·.1)).zip vs = (vs.zipIdx k).map (fun x => (x.2, x.1)) ∧
   ∃ G, RepL (Rep M.w true u) l (vs.flatMap fun v => v.cells.toList) G ∧ (ks.Nodup → G.Nodup) ∧ (∀ b ∈ G, ∃ id ∈ ks, own b = some id) ∧ ∀ i ∈ ks, i ∈ refsL (ps.map (·.2)) ∨ lkH h i ≠ .dead
 | [], 0, l, ks, vs, k, hb, _, _, hr => by
  simp only [buildL, Option.some.injEq, Prod.mk.injEq] at hb
  obtain ⟨rfl, rfl⟩ := hb
  simp only [List.map_nil, AVRepL] at hr
  subst hr
  exact ⟨rfl, by simp, by simp, [], ⟨rfl, rfl⟩, fun _ => List.nodup_nil, by simp, by simp⟩
 | [], n + 1, l, ks, vs, k, hb, hl, _, _ => by simp at hl
 | (i, c) :: ps, 0, l, ks, vs, k, hb, hl, _, _ => by simp at hl
 | (i, c) :: ps, n + 1, l, ks, vs, k, hb, hl, hs, hr => by
  simp only [List.map_cons, AVRepL] at hr
  obtain ⟨v, vr, rfl, h1, h2⟩ := hr
  simp only [seqN, Bool.and_eq_true, Nat.beq_eq] at hs
  obtain ⟨rfl, hs⟩ := hs
  simp only [buildL] at hb
  split at hb
  case h_2 => cases hb
  case h_1 x ks1 l2 js hx hl2 =>
   simp only [Option.some.injEq, Prod.mk.injEq] at hb
   obtain ⟨rfl, rfl⟩ := hb
   obtain ⟨hca, hx⟩ := sw_some hx
   obtain ⟨hur, hu1⟩ := unpack_rep hi hh hca h1
   obtain ⟨F, hxr, hFn, _, ⟨_, hFo, _⟩, hkr⟩ := asmOV_rep hi hh hp hx hur
   obtain ⟨ih1, ih2, ih3, G, ih4, ih5, ih6, ih7⟩ := buildL_rep hi hh hp hl2 (by simpa using hl) hs h2
   have hvs : v.cells.size = u.sz := by have := Rep.length hxr; simpa using this
   refine ⟨by simp [ih1], ?_, ?_, F ++ G, ?_, ?_, ?_, ?_⟩
   ·intro w hw
    rcases List.mem_cons.1 hw with rfl | hw
    ·exact hvs
    ·exact ih2 w hw
   ·simp [List.zipIdx_cons, ih3]
   ·exact ⟨_, _, F, G, by simp, rfl, hxr, ih4⟩
   ·intro hn
    obtain ⟨n1, n2, n3⟩ := List.nodup_append.1 hn
    refine List.nodup_append.2 ⟨hFn, ih5 n2, fun b hb b' hb' e => ?_⟩
    subst e
    obtain ⟨p, hp1, e1⟩ := hFo b hb
    obtain ⟨q, hq1, e2⟩ := ih6 b hb'
    rw [e1] at e2
    cases e2
    exact n3 p hp1 p hq1 rfl
   ·intro b hb
    rcases List.mem_append.1 hb with hb | hb
    ·obtain ⟨p, hp1, e⟩ := hFo b hb; exact ⟨p, by simp [hp1], e⟩
    ·obtain ⟨p, hp1, e⟩ := ih6 b hb; exact ⟨p, by simp [hp1], e⟩
   ·intro j hj
    simp only [List.map_cons, refsL, List.mem_append]
    rcases List.mem_append.1 hj with hj | hj
    ·exact (hkr j hj).imp_left .inl
    ·exact (ih7 j hj).imp_left .inr
theorem buildSlice_ok {t : TypeId} {n : Nat} {ps : Array (Nat × Operand)} {e : Bool} {u : U} {vs : List AV} {l : List u.El} {ks : List Nat} (ht : TyOK X.P t (.sl e u)) (hl : vs.length = n) (hps : ps.size = n) (hs : seqN ((ps.toList.map (·.1)).zip vs) 0 = true)
  (hb : buildL h u ((ps.toList.map (·.1)).zip vs) n = some (l, ks)) (hn : nodup ks = true) (hsz : n * u.sz ≤ 16777216) (hy : K (.hs base [] none 0) ((base, .arr false u l 0) :: killed ks) = some y) :
  Good X base (.buildSlice t n ps) vs h K y := by
 have hp : u.plain = true := ht.g
 have hz2 : ((ps.toList.map (·.1)).zip vs).map (·.2) = vs := by rw [List.map_snd_zip (by simp [hl, hps])]
 have hz1 : ((ps.toList.map (·.1)).zip vs).map (·.1) = ps.toList.map (·.1) := by rw [List.map_fst_zip (by simp [hl, hps])]
 -- what the roots are called
 refine ⟨_, _, hy, ?_⟩
 by_cases hex : ∃ (M : Mem) (t' : List (Nat × AV)) (used : Nat → Prop) (own : Nat → Option Nat) (a : Act), (Op.buildSlice t n ps).operands.toList.map (evA X.E t') = vs ∧ (∀ id, lkH h id ≠ .dead → M.h id = lkH h id) ∧ Inv X M t' used own a
 ·obtain ⟨M0, t0, used0, own0, a0, hv0, hh0, hi0⟩ := hex
  have hops : ∀ (M : Mem) (tt : List (Nat × AV)) (used : Nat → Prop) (own : Nat → Option Nat) (a : Act), (Op.buildSlice t n ps).operands.toList.map (evA X.E tt) = vs → Inv X M tt used own a → AVRepL M vs (ps.toList.map fun x => a.eval x.2) := by
   intro M tt used own a hv hi
   have := AVRepL.map (f := evA X.E tt) (g := a.eval) (fun x => (hi.ev x).1) (ps.toList.map (·.2))
   simp only [Op.operands] at hv
   rw [hv, List.map_map] at this
   exact this
  have hrefs : ∀ k ∈ ks, (∃ c ∈ vs, k ∈ refs c) ∨ lkH h k ≠ .dead := by
   have hr0 := hops M0 t0 used0 own0 a0 hv0 hi0
   rw [← hz2] at hr0
   obtain ⟨_, _, _, _, _, _, _, h7⟩ := buildL_rep hi0 hh0 hp hb (by simp [hl, hps]) hs hr0
   intro k hk
   have := h7 k hk
   rw [hz2] at this
   exact this.imp_left fun h => refsL_mem.1 h
  refine OpOK.newArr hp hrefs ?_
  intro o M tt used own a ho hvs hh hi
  have hr := hops M tt used own a hvs hi
  rw [← hz2] at hr
  obtain ⟨h1, h2, h3, G, h4, h5, h6, _⟩ := buildL_rep hi hh hp hb (by simp [hl, hps]) hs hr
  obtain ⟨d, hd, hsh⟩ := ht.d
  obtain ⟨el, rfl, hel, _⟩ := hsh
  obtain ⟨i, z, hei, hisz, hby, hzz, hzc⟩ := hel.i
  generalize hV : (ps.toList.map fun x => a.eval x.2) = V at hr h2 h3 h4
  have hVl : V.length = n := by rw [← hV]; simp [hps]
  rw [hz1] at h3
  have hparts : (ps.map fun (i, x) => (i, a.eval x)).toList = (V.zipIdx 0).map fun x => (x.2, x.1) := by
   rw [← h3, ← hV, Array.toList_map, List.zip_map']
  have hget : ∀ C : Array Value, C.size = n * i.size → Instr.fill (fun j => some (j * i.size, i.size)) C (ps.map fun (i, x) => (i, a.eval x)).toList = some (V.flatMap fun v => v.cells.toList).toArray := by
   intro C hC
   rw [hparts, hisz]
   have := fill_seq (size := u.sz) V 0 [] C.toList (by simp) h2 (by rw [Array.length_toList, hC, hVl, hisz])
   simpa using this
  have hrun : (Instr.buildSlice t n (ps.map fun (i, x) => (i, a.eval x))).run X.P M.w = .ok (.slice (some ⟨M.w.heap.size, 0, none⟩) n n) (M.w.alloc (.cells (V.flatMap fun v => v.cells.toList).toArray el)) := by
   have hsz' : ¬ (n * i.size > 2 ^ 24) := by rw [hisz]; omega
   have hzv : (zeroValue el).run X.P M.w = .ok z M.w := by
    simp only [zeroValue, Sem.run_bind, run_info hei, Result.andThen_ok, hzz]; rfl
   by_cases h0 : n * i.size = 0
   ·have hg := hget ((Array.range 0).map ((#[] : Array Value)[· % (#[] : Array Value).size]!)) (by simp [h0])
    rw [h0] at hsz'
    simp only [Instr.buildSlice, Sem.run_bind, run_underlying hd, run_sizeOf hei, Result.andThen_ok, h0, if_neg hsz', if_pos, Sem.run_pure]
    simp only [hg]
    rfl
   ·have hg := hget ((Array.range (n * i.size)).map (z.cells[· % z.cells.size]!)) (by simp)
    simp only [Instr.buildSlice, Sem.run_bind, run_underlying hd, run_sizeOf hei, Result.andThen_ok, if_neg hsz', if_neg h0, Sem.run_pure, hzv]
    simp only [hg]
    rfl
  refine ⟨M.w.alloc (.cells (V.flatMap fun v => v.cells.toList).toArray el), (some ⟨M.w.heap.size, 0, none⟩, n), M.w.heap.size :: G, ⟨rfl, rfl, rfl, by rw [alloc_sz]; omega, fun b hb _ => alloc_old _ _ hb⟩, ?_, ?_, ?_, ?_⟩
  ·have hlen := RepL.length (n := u.sz) (fun _ _ _ => Rep.length) h4
   refine .inr ⟨⟨M.w.heap.size, 0, none⟩, n, _, el, (0, 0), [], V.flatMap fun v => v.cells.toList, [], G, by simp [hdr, h1], rfl, (fun h => by cases h), by omega, alloc_new _ _, by simp, rfl, ?_, rfl, fun _ => ⟨rfl, by simp, ?_, ?_⟩⟩
   ·refine RepL.imp (fun _ _ _ hG => Rep.frame (fun b hb => ?_)) h4
    obtain ⟨k, _, e⟩ := h6 b (hG b hb)
    exact alloc_old _ _ (hi.ow b k e).1
   ·rw [List.size_toArray, hlen, h1]
   ·have : n ≤ n * u.sz := Nat.le_mul_of_pos_right n hel.pos
    simp only [maxLen]; omega
  ·refine List.nodup_cons.2 ⟨fun hb => ?_, h5 (nodup_iff.1 hn)⟩
   obtain ⟨k, _, e⟩ := h6 _ hb
   exact Nat.lt_irrefl _ (hi.ow _ k e).1
  ·intro b hb
   rw [alloc_sz]
   rcases List.mem_cons.1 hb with rfl | hb
   ·exact ⟨Nat.lt_succ_self _, fun h => absurd h (Nat.lt_irrefl _)⟩
   ·obtain ⟨k, hk, e⟩ := h6 b hb
    exact ⟨Nat.lt_succ_of_lt (hi.ow b k e).1, fun _ => ⟨k, hk, e⟩⟩
  ·simp only [execOp, ho, Sem.run_bind, hrun, Result.andThen_ok, hdr, h1]
   rfl
 ·intro o M tt used own a next Q ho hd hvs hh hi
  exact absurd ⟨M, tt, used, own, a, hvs, hh, hi⟩ hex
end
end Go.VM

namespace Go.VM
variable [Bor]
open Go.RowKit
theorem places_ok {P : Program} : ∀ {u : U} {fs : List Field} {o : Nat}, u.plain = true → FieldsOK P u fs o → ∃ pl, fs.mapM (fun f => (P.info? f.type).map fun i => (f.offset, i.size)) = some pl ∧ ∀ f a w, fieldOff u f = some (a, w) → pl[f]? = some (o + a, w.sz)
 | .unit, [], o, _, _ => ⟨[], by simp, fun f a w h => by simp [fieldOff] at h⟩
 | .unit, _ :: _, _, _, h => h.elim
 | .pair a b, f :: r, o, hp, h => by
  simp only [U.plain, Bool.and_eq_true] at hp
  obtain ⟨h1, ⟨i, hi, hs⟩, h2⟩ := h
  obtain ⟨pl, hpl, hat⟩ := places_ok hp.2 h2
  refine ⟨(o, a.sz) :: pl, by simp [List.mapM_cons, hi, hpl, h1, hs], ?_⟩
  intro k x w hk
  cases k with
  | zero =>
   simp only [fieldOff, Option.some.injEq, Prod.mk.injEq] at hk
   obtain ⟨rfl, rfl⟩ := hk
   rfl
  | succ k =>
   simp only [fieldOff] at hk
   split at hk
   ·rename_i o' u' hb
    simp only [Option.some.injEq, Prod.mk.injEq] at hk
    obtain ⟨rfl, rfl⟩ := hk
    rw [List.getElem?_cons_succ, hat _ _ _ hb, az_sz hp.1, Nat.add_assoc]
   ·cases hk
 | .pair _ _, [], _, _, h => h.elim
 | .bool, _, _, _, h => h.elim
 | .int _, _, _, _, h => h.elim
 | .str, _, _, _, h => h.elim
 | .sl _ _, _, _, _, h => h.elim
 | .ar _ _, _, _, _, h => h.elim
 | .oth, _, _, _, h => h.elim
 | .bs _, _, _, _, h => h.elim
 | .pt _, _, _, _, h => h.elim
 | .tr _, _, _, _, h => h.elim
theorem fieldOff_le : ∀ {u : U} {f a w}, u.plain = true → fieldOff u f = some (a, w) → a + w.az ≤ u.az ∧ w.plain = true
 | .pair p q, 0, a, w, hp, h => by
  simp only [fieldOff, Option.some.injEq, Prod.mk.injEq] at h
  obtain ⟨rfl, rfl⟩ := h
  simp only [U.plain, Bool.and_eq_true] at hp
  exact ⟨by simp [U.az], hp.1⟩
 | .pair p q, f + 1, a, w, hp, h => by
  simp only [U.plain, Bool.and_eq_true] at hp
  simp only [fieldOff] at h
  split at h
  ·rename_i o' u' hb
   simp only [Option.some.injEq, Prod.mk.injEq] at h
   obtain ⟨rfl, rfl⟩ := h
   obtain ⟨h1, h2⟩ := fieldOff_le hp.2 hb
   exact ⟨by simp only [U.az]; omega, h2⟩
  ·cases h
 | .unit, _, _, _, _, h => by simp [fieldOff] at h
 | .bool, _, _, _, _, h => by simp [fieldOff] at h
 | .int _, _, _, _, _, h => by simp [fieldOff] at h
 | .str, _, _, _, _, h => by simp [fieldOff] at h
 | .sl _ _, _, _, _, _, h => by simp [fieldOff] at h
 | .ar _ _, _, _, _, _, h => by simp [fieldOff] at h
 | .oth, _, _, _, _, h => by simp [fieldOff] at h
 | .bs _, _, _, _, _, h => by simp [fieldOff] at h
 | .pt _, _, _, _, _, h => by simp [fieldOff] at h
 | .tr u, f, a, w, hp, h => by
  have hp' := hp
  simp only [U.plain, Bool.and_eq_true] at hp
  match f, h with
  | 0, h =>
   simp only [fieldOff, Option.some.injEq, Prod.mk.injEq] at h
   obtain ⟨rfl, rfl⟩ := h
   exact ⟨by simp [U.az], hp.1⟩
  | 1, h =>
   simp only [fieldOff, Option.some.injEq, Prod.mk.injEq] at h
   obtain ⟨rfl, rfl⟩ := h
   exact ⟨by simp [U.az], hp'⟩
  | _ + 2, h => simp [fieldOff] at h
section
variable {X : Cx} {ρ : Type} {base : Nat} {h : Hp} {K : AV → Hp → Option ρ} {y : ρ}
theorem buildF_rep {M : Mem} {t used own a} (hi : Inv X M t used own a) (hh : ∀ id, lkH h id ≠ .dead → M.h id = lkH h id) {u : U} (hp : u.plain = true) {place : Nat → Option (Nat × Nat)} (hpl : ∀ f a w, fieldOff u f = some (a, w) → place f = some (a, w.sz)) :
  ∀ {ps : List (Nat × AV)} {cs cs' : List AV} {vs : List Value} {zc : Array Value}, buildF h u ps cs = some cs' → AVRepL M (ps.map (·.2)) vs → AVRepL M cs zc.toList → cs.length = u.az →
   ∃ zc', Instr.fill place zc ((ps.map (·.1)).zip vs) = some zc' ∧ AVRepL M cs' zc'.toList ∧ ∀ j ∈ refsL cs', j ∈ refsL cs ∨ j ∈ refsL (ps.map (·.2))
 | [], cs, cs', vs, zc, hb, hv, hz, hl => by
  simp only [buildF, Option.some.injEq] at hb
  subst hb
  exact ⟨zc, by simp [Instr.fill], hz, fun j hj => .inl hj⟩
 | (i, c) :: ps, cs, cs', vs, zc, hb, hv, hz, hl => by
  simp only [List.map_cons, AVRepL] at hv
  obtain ⟨v, vr, rfl, h1, h2⟩ := hv
  simp only [buildF] at hb
  split at hb
  case h_2 => cases hb
  case h_1 o w hf =>
   obtain ⟨hc, hb⟩ := sw_some hb
   simp only [Bool.and_eq_true, Nat.beq_eq] at hc
   obtain ⟨hca, hcl⟩ := hc
   obtain ⟨hle, hwp⟩ := fieldOff_le hp hf
   obtain ⟨hur, _⟩ := unpack_rep hi hh hca h1
   have hvl : v.cells.size = w.sz := by have := hur.length; rw [hcl, az_sz hwp] at this; simpa using this
   have hzl := hz.length
   rw [Array.length_toList] at hzl
   have hz' := hz.splice (o := o) hur
   obtain ⟨zc', h3, h4, h5⟩ := buildF_rep hi hh hp hpl (zc := (splice zc.toList o v.cells.toList).toArray) hb h2 (by simpa using hz') (by rw [splice_len (by omega)]; exact hl)
   refine ⟨zc', ?_, h4, ?_⟩
   ·simp only [List.map_cons, List.zip_cons_cons]
    rw [fill_step (hpl _ _ _ hf) hvl (by rw [← az_sz hwp]; omega), h3]
   ·intro j hj
    rcases h5 j hj with h6 | h6
    ·obtain ⟨c', hc', hj'⟩ := refsL_mem.1 h6
     simp only [splice, List.mem_append] at hc'
     rcases hc' with (hc' | hc') | hc'
     ·exact .inl (refsL_mem.2 ⟨c', List.mem_of_mem_take hc', hj'⟩)
     ·exact .inr (by simp only [List.map_cons, refsL, List.mem_append]; exact .inl (refs_unpack (refsL_mem.2 ⟨c', hc', hj'⟩)))
     ·exact .inl (refsL_mem.2 ⟨c', List.mem_of_mem_drop hc', hj'⟩)
    ·exact .inr (by simp only [List.map_cons, refsL, List.mem_append]; exact .inr h6)
theorem zeroA_len {u : U} : (zeroA u).length = u.az := by
 unfold zeroA
 have : ∀ (u : U) (x : u.El) (o : Nat), (cellsOf (fun _ _ _ _ => AV.nil) u x o).length = u.az := by
  intro u
  induction u with
  | pair a b iha ihb => intro x o; simp only [cellsOf, List.length_append, iha, ihb, U.az]
  | tr a ih => intro x o; simp only [cellsOf, List.length_append, ih, U.az]; rfl
  | _ => intro x o; rfl
 exact this u u.dflt 0
theorem ops_rep {M : Mem} {tt : List (Nat × AV)} {used own} {a : Act} (hi : Inv X M tt used own a) {ps : Array (Nat × Operand)} {vs : List AV} (hv : ((ps.toList.map (·.2)).toArray).toList.map (evA X.E tt) = vs) : AVRepL M vs (ps.toList.map fun x => a.eval x.2) := by
 have := AVRepL.map (f := evA X.E tt) (g := a.eval) (fun x => (hi.ev x).1) (ps.toList.map (·.2))
 rw [show (ps.toList.map (·.2)).map (evA X.E tt) = vs from hv, List.map_map] at this
 exact this
theorem buildStruct_ok {t : TypeId} {ps : Array (Nat × Operand)} {u : U} {vs : List AV} {cs : List AV} (ht : TyOK X.P t u) (hu : (∃ a b, u = .pair a b) ∨ u = .unit ∨ ∃ a, u = .tr a) (hvl : vs.length = ps.size) (hb : buildF h u ((ps.toList.map (·.1)).zip vs) (zeroA u) = some cs) (hy : K (.agg cs) [] = some y) :
  Good X base (.build t ps) vs h K y := by
 have hn : ∀ n v, u ≠ .ar n v := by rcases hu with ⟨a, b, rfl⟩ | rfl | ⟨a, rfl⟩ <;> intro n v e <;> cases e
 have ho' : u ≠ .oth := by rcases hu with ⟨a, b, rfl⟩ | rfl | ⟨a, rfl⟩ <;> intro e <;> cases e
 have hp := good_plain ht.g hn
 have hz2 : ((ps.toList.map (·.1)).zip vs).map (·.2) = vs := by rw [List.map_snd_zip (by simp [hvl])]
 have hz1 : ((ps.toList.map (·.1)).zip vs).map (·.1) = ps.toList.map (·.1) := by rw [List.map_fst_zip (by simp [hvl])]
 have key : ∀ (M : Mem) (tt : List (Nat × AV)) (used : Nat → Prop) (own : Nat → Option Nat) (a : Act), (Op.build t ps).operands.toList.map (evA X.E tt) = vs → (∀ id, lkH h id ≠ .dead → M.h id = lkH h id) → Inv X M tt used own a →
   ∃ zc' : Array Value, X.P.built t (ps.map fun (i, x) => (i, a.eval x)).toList = some zc' ∧ AVRepL M cs zc'.toList ∧ ∀ j ∈ refsL cs, j ∈ refsL vs := by
  intro M tt used own a hvs hh hi
  have hr := ops_rep hi hvs
  obtain ⟨i, z, hti, htz, htc, _⟩ := ht.z hn
  obtain ⟨d, hd, hsh⟩ := ht.d
  have hfs : ∃ fs v, d = .struct fs ∧ FieldsOK X.P v fs.toList 0 ∧ v.plain = true ∧ ∀ f x, fieldOff u f = some x → fieldOff v f = some x := by
   rcases hu with ⟨a, b, rfl⟩ | rfl | ⟨a, rfl⟩
   ·obtain ⟨fs, h1, h2⟩ := hsh; exact ⟨fs, _, h1, h2, hp, fun _ _ h => h⟩
   ·obtain ⟨fs, h1, h2⟩ := hsh; exact ⟨fs, _, h1, h2, hp, fun _ _ h => h⟩
   ·obtain ⟨fs, h1, h2⟩ := hsh
    simp only [U.plain, Bool.and_eq_true] at hp
    exact ⟨fs, _, h1, h2, nd_plain hp.1 hp.2, fun _ _ h => fieldOff_tr h⟩
  obtain ⟨fs, uv, rfl, hF, hpv, hfo⟩ := hfs
  obtain ⟨pl, hpl, hat⟩ := places_ok hpv hF
  have hat := fun f a w hf => hat f a w (hfo f (a, w) hf)
  rw [← hz2] at hr
  obtain ⟨zc', h1, h2, h3⟩ := buildF_rep hi hh hp (place := (pl.toArray[·]?)) (fun f a w hf => by simpa using hat f a w hf) hb hr (zero_rep 0 hp htc) zeroA_len
  refine ⟨zc', ?_, h2, fun j hj => ?_⟩
  ·rw [hz1] at h1
   have hparts : (ps.map fun (i, x) => (i, a.eval x)).toList = (ps.toList.map (·.1)).zip (ps.toList.map fun x => a.eval x.2) := by
    rw [Array.toList_map, List.zip_map']
   unfold Program.built
   simp only [hti, hd, htz, hpl, hparts]
   exact h1
  ·rcases h3 j hj with h4 | h4
   ·exact absurd h4 zero_refs
   ·rw [hz2] at h4; exact h4
 refine ⟨_, [], hy, ?_⟩
 by_cases hex : ∃ (M : Mem) (t' : List (Nat × AV)) (used : Nat → Prop) (own : Nat → Option Nat) (a : Act), (Op.build t ps).operands.toList.map (evA X.E t') = vs ∧ (∀ id, lkH h id ≠ .dead → M.h id = lkH h id) ∧ Inv X M t' used own a
 ·obtain ⟨M0, t0, used0, own0, a0, hv0, hh0, hi0⟩ := hex
  obtain ⟨_, _, _, hrf⟩ := key M0 t0 used0 own0 a0 hv0 hh0 hi0
  refine OpOK.pure (fun j hj => by simp only [refs] at hj; exact refsL_mem.1 (hrf j hj)) ?_
  intro o M tt used own a ho hvs hh hi
  obtain ⟨zc', h1, h2, _⟩ := key M tt used own a hvs hh hi
  refine ⟨.agg zc', by simp only [AVRep]; exact ⟨zc'.toList, by simp, h2⟩, ?_⟩
  simp only [execOp, ho, Sem.run_bind, run_build M.w t _ _ h1, Result.andThen_ok]
  rfl
 ·intro o M tt used own a next Q ho hd hvs hh hi
  exact absurd ⟨M, tt, used, own, a, hvs, hh, hi⟩ hex
end
end Go.VM

namespace Go.VM
variable [Bor]
open Go.RowKit
section
variable {X : Cx} {ρ : Type} {base : Nat} {h : Hp} {K : AV → Hp → Option ρ} {y : ρ}
theorem zeroL_rep {w : World} {u : U} (hd : u.data = true) : ∀ {n : Nat} {cs : List Value}, ZeroL n u cs → RepL (Rep w true u) (List.replicate n u.dflt) cs []
 | 0, cs, h => ⟨h, rfl⟩
 | n + 1, cs, h => by
  obtain ⟨c, d, rfl, h1, h2⟩ := h
  exact ⟨c, d, [], [], rfl, rfl, zero_Rep hd h1, zeroL_rep hd h2⟩
theorem buildR_rep {M : Mem} {t used own a} (hi : Inv X M t used own a) (hh : ∀ id, lkH h id ≠ .dead → M.h id = lkH h id) {u : U} (hd : u.data = true) (hf : u.flat = true) {size : Nat} (hs : size = u.sz) :
  ∀ {ps : List (Nat × AV)} {l l' : List u.El} {vs : List Value} {zc : Array Value}, buildR h u ps l = some l' → AVRepL M (ps.map (·.2)) vs → RepL (Rep M.w0 false u) l zc.toList [] →
   l'.length = l.length ∧ ∃ zc', Instr.fill (fun i => some (i * size, size)) zc ((ps.map (·.1)).zip vs) = some zc' ∧ RepL (Rep M.w0 false u) l' zc'.toList []
 | [], l, l', vs, zc, hb, hv, hz => by
  simp only [buildR, Option.some.injEq] at hb
  subst hb
  exact ⟨rfl, zc, by simp [Instr.fill], hz⟩
 | (i, c) :: ps, l, l', vs, zc, hb, hv, hz => by
  simp only [List.map_cons, AVRepL] at hv
  obtain ⟨v, vr, rfl, h1, h2⟩ := hv
  simp only [buildR] at hb
  split at hb
  case h_2 => cases hb
  case h_1 x hx =>
   obtain ⟨hc, hx⟩ := sw_some hx
   simp only [Bool.and_eq_true] at hc
   obtain ⟨hca, hlt⟩ := hc
   have hlt : i < l.length := by simpa [Nat.blt_eq] using hlt
   obtain ⟨hur, _⟩ := unpack_rep hi hh hca h1
   unfold asmV at hx
   split at hx
   case h_2 => cases hx
   case h_1 y hy =>
    simp only [Option.some.injEq] at hx
    subst hx
    obtain ⟨c1, v1, v2, F, _, hvv, hr2, hxr, _⟩ := asm_rep hi hh (data_plain hd) hy hur
    simp only [AVRepL] at hr2
    subst hr2
    rw [List.append_nil] at hvv
    subst hvv
    have hF := Rep.flat hf hxr
    subst hF
    have hxr0 : Rep M.w0 false u y v.cells.toList [] := Rep.move hf hxr
    obtain ⟨d1, d2, d3, G1, G2, G3, hzc, hG, hl1, hold, _, _, hset⟩ := RepL.at (n := u.sz) (fun _ _ _ => Rep.length) u.dflt i hz hlt
    have hG1 : G1 = [] := by cases G1 <;> simp at hG <;> rfl
    have hG3 : G3 = [] := by cases G3 with | nil => rfl | cons a b => simp at hG
    subst hG1; subst hG3
    have hlen2 := Rep.length hold
    have hlen := Rep.length hxr0
    have hspl : splice zc.toList (i * size) v.cells.toList = d1 ++ v.cells.toList ++ d3 := by
     rw [hzc, hs, ← hl1]
     exact splice_mid (by rw [hlen2, hlen])
    have hzl : zc.size = d1.length + d2.length + d3.length := by
     have : zc.toList.length = (d1 ++ d2 ++ d3).length := by rw [hzc]
     rw [Array.length_toList] at this
     rw [this]; simp; omega
    have hnew := hset y v.cells.toList [] hxr0
    obtain ⟨h3, zc', h4, h5⟩ := buildR_rep hi hh hd hf hs (zc := (splice zc.toList (i * size) v.cells.toList).toArray) hb h2 (by rw [List.toList_toArray, hspl]; simpa using hnew)
    refine ⟨by rw [h3]; simp, zc', ?_, h5⟩
    simp only [List.map_cons, List.zip_cons_cons]
    rw [fill_step (off := i * size) (size := size) rfl (by rw [hs, ← hlen]; simp) (by rw [hzl, hlen2, hl1, hs]; omega), h4]
theorem buildArr_ok {t : TypeId} {ps : Array (Nat × Operand)} {n : Nat} {u : U} {vs : List AV} {l : List u.El} (ht : TyOK X.P t (.ar n u)) (hd : u.data = true) (hf : u.flat = true) (hvl : vs.length = ps.size)
  (hb : buildR h u ((ps.toList.map (·.1)).zip vs) (List.replicate n u.dflt) = some l) (hy : K (.im (.ar n u) l) [] = some y) : Good X base (.build t ps) vs h K y := by
 have hz2 : ((ps.toList.map (·.1)).zip vs).map (·.2) = vs := by rw [List.map_snd_zip (by simp [hvl])]
 have hz1 : ((ps.toList.map (·.1)).zip vs).map (·.1) = ps.toList.map (·.1) := by rw [List.map_fst_zip (by simp [hvl])]
 refine ⟨_, [], hy, OpOK.pure (by simp [refs]) ?_⟩
 intro o M tt used own a ho hvs hh hi
 have hr := ops_rep hi hvs
 obtain ⟨i, z, hti, htz, hzl⟩ := ht.za n u rfl
 obtain ⟨d, hdd, el, rfl, hel⟩ := ht.d
 obtain ⟨ie, ze, hie, hisz, _⟩ := hel.i
 rw [← hz2] at hr
 have hz0 : RepL (Rep M.w0 false u) (List.replicate n u.dflt) z.cells.toList [] := RepL.imp (fun _ _ _ _ => Rep.weak) (zeroL_rep hd hzl)
 obtain ⟨hl, zc', h1, h2⟩ := buildR_rep hi hh hd hf hisz hb hr hz0
 rw [hz1] at h1
 have hparts : (ps.map fun (i, x) => (i, a.eval x)).toList = (ps.toList.map (·.1)).zip (ps.toList.map fun x => a.eval x.2) := by
  rw [Array.toList_map, List.zip_map']
 have hbt : X.P.built t (ps.map fun (i, x) => (i, a.eval x)).toList = some zc' := by
  unfold Program.built
  simp only [hti, hdd, htz, hie, hparts]
  exact h1
 refine ⟨.agg zc', ?_, ?_⟩
 ·simp only [AVRep]
  exact ⟨data_plain hd, zc'.toList, [], by simp [valC, U.isAgg], ⟨by rw [hl]; simp, h2⟩, by simp⟩
 ·simp only [execOp, ho, Sem.run_bind, run_build M.w t _ _ hbt, Result.andThen_ok]
  rfl
theorem bytes_cells {w : World} {o : Bool} : ∀ {l : List Int} {cs F}, RepL (Rep w o (.int .u8)) l cs F → cs = l.map (Value.int .u8)
 | [], _, _, h => h.1
 | x :: l, _, _, h => by
  obtain ⟨c, d, G, H, rfl, rfl, h1, h2⟩ := h
  rw [h1.1, bytes_cells h2]; rfl
theorem bytesStr_ok {s t : TypeId} {e : Bool} {x : Operand} {c : AV} {l : List Int} (hs : TyOK X.P s (.sl e (.int .u8))) (ht : TyOK X.P t .str) (hl : sliceAs h false (.int .u8) c = some l) (hy : K (.im .str (ofOcts l)) [] = some y) : Good X base (.convert s t x) [c] h K y := by
 refine ⟨_, [], hy, OpOK.pure (by simp [refs]) ?_⟩
 intro o M tt used own ac ho hvs hh hi
 have hx := (hi.ev x).1
 rw [map1 hvs] at hx
 obtain ⟨d, hd, hsh⟩ := hs.d
 obtain ⟨el, rfl, hel, hu8⟩ := hsh
 have hu8 := hu8 rfl
 obtain ⟨d', hd', rfl⟩ := ht.d
 obtain ⟨_, F, hv, _⟩ := lookAs hi hh (u := .int .u8) rfl hl hx
 refine ⟨_, mk_str, ?_⟩
 rcases hv with (⟨hv, rfl, _⟩ | ⟨b, cap, cc, ct, fz, p, m, q, G, hv, hsp, _, _, hhp, hcc, hpl, hr, _⟩) | ⟨_, _, rfl, _, b, cap, hv⟩
 rotate_left 2
 ·have hl0 : (loadCells b 0).run X.P M.w = .ok (([] : List Int).map (Value.int .u8)).toArray M.w := run_loadCells_list (P := X.P) M.w b [] (fun j v hj => by simp at hj)
  have := run_convert_bytes_string (P := X.P) M.w s t el (some b) 0 cap hd hu8 hd'
  rw [run_bytesToString M.w _ 0 cap [] hl0] at this
  simp only [execOp, ho, hv, Sem.run_bind, this, Result.andThen_ok]
  rfl
 ·have := run_convert_bytes_nil (P := X.P) M.w s el hd hu8 0 0 t hd'
  simp only [execOp, ho, hv, Sem.run_bind, this, Result.andThen_ok]
  rfl
 ·have hm := bytes_cells hr
  have hcell := cells_at hsp hhp hcc hpl
  have hb := Addr.plain hsp
  have := run_convert_bytes_arg (P := X.P) M.w s el hd hu8 b.block b.off l.length cap l rfl (fun i hi' => by
   have h1 := hcell i (.int .u8 (l.getD i 0)) (by rw [hm]; simp [List.getElem?_map, List.getElem?_eq_getElem hi', List.getD_eq_getElem?_getD])
   rw [hb, Addr.add_plain] at h1
   exact h1) t hd'
  rw [← hb] at this
  simp only [execOp, ho, hv, Sem.run_bind, this, Result.andThen_ok]
  rfl
def PtrIs (X : Cx) (h : Hp) (c : AV) (b : Bool) : Prop := ∀ (M : Mem) (t : List (Nat × AV)) (used : Nat → Prop) (own : Nat → Option Nat) (a : Act), (∀ id, lkH h id ≠ .dead → M.h id = lkH h id) → Inv X M t used own a → ∀ v, AVRep M c v → ∃ p : Option Addr, v = .pointer p ∧ p.isSome = b
theorem tr_ptr {w : World} {o : Bool} {u : U} (hf : u.flat = true) {t : Tr u.El} {v : Value} {F} (h : Rep w o (.pt u) t [v] F) : ∃ p : Option Addr, v = .pointer p ∧ p.isSome = t.is := by
 cases t with
 | nil => exact ⟨none, by simpa using (rep_pnil.1 h).1, rfl⟩
 | node x ks => obtain ⟨b, _, _, _, h1, _⟩ := (rep_pt hf).1 h; exact ⟨some ⟨b, 0, none⟩, by simpa using h1, rfl⟩
theorem im_pt {M : Mem} {u : U} {t : Tr u.El} {v : Value} (h : AVRep M (.im (.pt u) t) v) : u.plain = true ∧ u.flat = true ∧ ∃ F, Rep M.w0 false (.pt u) t [v] F ∧ ∀ b ∈ F, M.Z b := by
 simp only [AVRep] at h
 obtain ⟨hg, cs, F, hval, hr, hZ⟩ := h
 have hg : (u.plain && u.flat) = true := hg
 simp only [Bool.and_eq_true] at hg
 have hlen := Rep.length hr
 obtain ⟨w1, rfl⟩ : ∃ w1, cs = [w1] := by
  match cs, hlen with
  | [w1], _ => exact ⟨w1, rfl⟩
 have : v = w1 := by simpa [valC, U.isAgg] using hval
 subst this
 exact ⟨hg.1, hg.2, F, hr, hZ⟩
theorem ptrIs_im {X : Cx} {h : Hp} {u : U} {t : Tr u.El} : PtrIs X h (.im (.pt u) t) t.is := by
 intro M tt used own a _ _ v hv
 obtain ⟨_, hf, F, hr, _⟩ := im_pt hv
 exact tr_ptr hf hr
theorem ptrIs_tp {X : Cx} {h : Hp} {u : U} {t : Tr u.El} {id : Nat} (hl : lkH h id = .tre u t) : PtrIs X h (.tp id) t.is := by
 intro M tt used own a hh hi v hv
 obtain ⟨_, hf, F, hr, _⟩ := tp_rep hi hh hl hv
 exact tr_ptr hf hr
theorem ptrEq_ok {op : BinOp} {u w : TypeId} {x z : Operand} {c : AV} {el : U} {b r : Bool} (ht : TyOK X.P u (.pt el)) (hb : PtrIs X h c b) (hr : op = .eql ∧ r = !b ∨ op = .neq ∧ r = b) (hy : K (.im .bool r) [] = some y) :
  Good X base (.binOp op u x z w) [c, .nilptr] h K y := by
 obtain ⟨d, hd, hsh⟩ := ht.d
 obtain ⟨elt, rfl⟩ := hsh
 have heq : ∀ (a : Option Addr) (W : World), (Op.equal u (.pointer a) (.pointer none)).run X.P W = .ok a.isNone W := by
  intro a W
  have : ∀ k, (Op.equalIn (k + 1) u (.pointer a) (.pointer none)).run X.P W = .ok a.isNone W := by
   intro k
   cases a with
   | none => simp only [Op.equalIn, Sem.run_bind, run_underlying hd, Result.andThen_ok]; rfl
   | some a => simp only [Op.equalIn, Sem.run_bind, run_underlying hd, Result.andThen_ok]; rfl
  exact this 9999
 refine ⟨_, [], hy, OpOK.pure (by simp [refs]) ?_⟩
 intro o M tt used own ac ho hvs hh hi
 obtain ⟨h1, h2⟩ := map2 hvs
 have hx := (hi.ev x).1
 have hz := (hi.ev z).1
 rw [h1] at hx; rw [h2] at hz
 simp only [AVRep] at hz
 obtain ⟨p, hv, hp⟩ := hb M tt used own ac hh hi _ hx
 have hn : p.isNone = !b := by rw [← hp]; cases p <;> rfl
 refine ⟨_, mk_bool, ?_⟩
 rcases hr with ⟨rfl, rfl⟩ | ⟨rfl, rfl⟩
 ·simp [execOp, ho, hv, hz, eqGuard, binOp, heq, hn]
 ·simp [execOp, ho, hv, hz, eqGuard, binOp, heq, hn]
theorem nilPt_ok {x : Operand} {c c' : AV} (hr : ∀ j ∈ refs c', j ∈ refs c)
  (hc : ∀ (M : Mem) (t : List (Nat × AV)) (used : Nat → Prop) (own : Nat → Option Nat) (a : Act), (∀ id, lkH h id ≠ .dead → M.h id = lkH h id) → Inv X M t used own a → ∀ v, AVRep M c v → (∃ p, v = .pointer (some p)) ∧ AVRep M c' v)
  (hy : K c' [] = some y) : Good X base (.nilCheck x) [c] h K y := by
 refine ⟨c', [], hy, OpOK.pure (fun j hj => ⟨c, by simp, hr j hj⟩) ?_⟩
 intro o M t used own ac ho hvs hh hi
 have hx := (hi.ev x).1
 rw [map1 hvs] at hx
 obtain ⟨⟨p, hv⟩, h2⟩ := hc M t used own ac hh hi _ hx
 refine ⟨_, h2, ?_⟩
 simp [execOp, ho, hv]
theorem nilIm_ok {x : Operand} {u : U} {t : Tr u.El} (ht : t.is = true) (hy : K (.pi (U.nd true u) [t.ptn u] 0 0) [] = some y) : Good X base (.nilCheck x) [.im (.pt u) t] h K y := by
 refine nilPt_ok (by simp [refs]) ?_ hy
 intro M tt used own a hh hi v hv
 obtain ⟨hp, hf, F, hr, hZ⟩ := im_pt hv
 cases t with
 | nil => cases ht
 | node x ks =>
  obtain ⟨b, c, ty, G, h1, hw, rfl, hN⟩ := (rep_pt hf).1 hr
  obtain rfl : v = .pointer (some ⟨b, 0, none⟩) := by simpa using h1
  refine ⟨⟨_, rfl⟩, ?_⟩
  simp only [AVRep]
  refine ⟨by simp, ⟨b, 0, none⟩, ⟨c, ty, (0, 0), [], c.toList, [], G, rfl, hw, by simp, rfl, ⟨c.toList, [], G, [], by simp, by simp, hN, rfl, rfl⟩, hZ b (by simp), fun b' hb' => hZ b' (by simp [hb'])⟩, ?_⟩
  simp [Addr.add_zero]
theorem nilTp_ok {x : Operand} {id : Nat} {u : U} {t : Tr u.El} (hl : lkH h id = .tre u t) (ht : t.is = true) (hy : K (.po id 0) [] = some y) : Good X base (.nilCheck x) [.tp id] h K y := by
 refine nilPt_ok (by simp [refs]) ?_ hy
 intro M tt used own a hh hi v hv
 have hM : M.h id = .tre u t := by rw [hh id (by rw [hl]; simp), hl]
 obtain ⟨p, hp, hs⟩ := ptrIs_tp hl M tt used own a hh hi v hv
 simp only [AVRep] at hv
 have hv := hv (by rw [hM]; simp)
 rw [ht] at hs
 obtain ⟨q, rfl⟩ := Option.isSome_iff_exists.1 hs
 refine ⟨⟨q, hp⟩, ?_⟩
 simp only [AVRep]
 intro _
 rw [hv] at hp
 refine ⟨q, by simpa using hp, ?_⟩
 rw [hv, Addr.add_zero]; exact hp
theorem nilEq_ok {op : BinOp} {u w : TypeId} {x z : Operand} {c : AV} {e : Bool} {el : U} {b r : Bool} (ht : TyOK X.P u (.sl e el)) (hb : isNil h c = some b) (hr : op = .eql ∧ r = b ∨ op = .neq ∧ r = !b) (hy : K (.im .bool r) [] = some y) :
  Good X base (.binOp op u x z w) [c, .nil] h K y := by
 obtain ⟨d, hd, hsh⟩ := ht.d
 obtain ⟨elt, rfl, _⟩ := hsh
 have heq : ∀ (a : Option Addr) (n cap : Nat) (W : World), (Op.equal u (.slice a n cap) (.slice none 0 0)).run X.P W = .ok a.isNone W := by
  intro a n cap W
  have : ∀ k, (Op.equalIn (k + 1) u (.slice a n cap) (.slice none 0 0)).run X.P W = .ok a.isNone W := by
   intro k
   cases a with
   | none => simp only [Op.equalIn, Sem.run_bind, run_underlying hd, Result.andThen_ok]; rfl
   | some a => simp only [Op.equalIn, Sem.run_bind, run_underlying hd, Result.andThen_ok]; rfl
  exact this 9999
 have hop : op = .eql ∨ op = .neq := by rcases hr with ⟨h, _⟩ | ⟨h, _⟩ <;> simp [h]
 refine ⟨_, [], hy, OpOK.pure (by simp [refs]) ?_⟩
 intro o M tt used own ac ho hvs hh hi
 obtain ⟨h1, h2⟩ := map2 hvs
 have hx := (hi.ev x).1
 have hz := (hi.ev z).1
 rw [h1] at hx; rw [h2] at hz
 simp only [AVRep] at hz
 have hval : ∃ a n cap, ac.eval x = .slice a n cap ∧ a.isNone = b := by
  unfold isNil at hb
  split at hb
  ·simp only [Option.some.injEq] at hb; subst hb
   simp only [AVRep] at hx
   exact ⟨none, 0, 0, hx, rfl⟩
  ·rename_i el' l
   simp only [Option.some.injEq] at hb; subst hb
   simp only [AVRep] at hx
   obtain ⟨_, cs, F, hval, ⟨v', rfl, hrr⟩, _⟩ := hx
   have hval : ac.eval x = v' := by simpa [valC, U.isAgg] using hval
   subst hval
   rcases hrr with (⟨hv, rfl, _⟩ | ⟨a, cap, _, _, _, _, _, _, _, hv, _, he, _⟩) | ⟨_, he, _⟩
   rotate_left 2
   ·cases he
   ·exact ⟨none, 0, 0, hv, rfl⟩
   ·refine ⟨some a, _, cap, hv, ?_⟩
    cases l with
    | nil => exact absurd rfl (he rfl)
    | cons _ _ => rfl
  ·rename_i id g
   split at hb
   case h_2 => cases hb
   case h_1 u1 l1 g1 hl =>
    simp only [Option.some.injEq] at hb; subst hb
    obtain ⟨_, F, hs, _⟩ := whole_rep hi hh hl hx
    rcases hs with ⟨hv, rfl, _⟩ | ⟨a, cap, _, _, _, _, _, _, _, hv, _, he, _⟩
    ·exact ⟨none, 0, 0, hv, rfl⟩
    ·refine ⟨some a, _, cap, hv, ?_⟩
     cases l1 with
     | nil => exact absurd rfl (he rfl)
     | cons _ _ => rfl
  ·cases hb
 obtain ⟨a, n, cap, hv, rfl⟩ := hval
 refine ⟨_, mk_bool, ?_⟩
 rcases hr with ⟨rfl, rfl⟩ | ⟨rfl, rfl⟩
 ·simp [execOp, ho, hv, hz, eqGuard, binOp, heq]
 ·simp [execOp, ho, hv, hz, eqGuard, binOp, heq]
theorem nilEq2_ok {op : BinOp} {u w : TypeId} {x z : Operand} {c : AV} {e e' : Bool} {el u' : U} {l : List u'.El} {r : Bool} (ht : TyOK X.P u (.sl e el)) (hb : slice? h c = some ⟨e', u', l⟩) (hr : op = .eql ∧ r = false ∨ op = .neq ∧ r = true) (hy : cond l.isEmpty none (K (.im .bool r) []) = some y) :
  Good X base (.binOp op u x z w) [c, .nil] h K y := by
 obtain ⟨d, hd, hsh⟩ := ht.d
 obtain ⟨elt, rfl, _⟩ := hsh
 have heq : ∀ (a : Option Addr) (n cap : Nat) (W : World), (Op.equal u (.slice a n cap) (.slice none 0 0)).run X.P W = .ok a.isNone W := by
  intro a n cap W
  have : ∀ k, (Op.equalIn (k + 1) u (.slice a n cap) (.slice none 0 0)).run X.P W = .ok a.isNone W := by
   intro k
   cases a with
   | none => simp only [Op.equalIn, Sem.run_bind, run_underlying hd, Result.andThen_ok]; rfl
   | some a => simp only [Op.equalIn, Sem.run_bind, run_underlying hd, Result.andThen_ok]; rfl
  exact this 9999
 cases hl : l.isEmpty with
 | true => rw [hl] at hy; cases hy
 | false =>
 rw [hl] at hy
 have hy : K (.im .bool r) [] = some y := hy
 refine ⟨_, [], hy, OpOK.pure (by simp [refs]) ?_⟩
 intro o M tt used own ac ho hvs hh hi
 obtain ⟨h1, h2⟩ := map2 hvs
 have hx := (hi.ev x).1
 have hz := (hi.ev z).1
 rw [h1] at hx; rw [h2] at hz
 simp only [AVRep] at hz
 obtain ⟨a, cap, hv, _, _, hn⟩ := (look hi hh hb hx).head
 have hsome : a.isNone = false := by
  cases a with
  | none => rw [hn rfl] at hl; cases hl
  | some a => rfl
 refine ⟨_, mk_bool, ?_⟩
 rcases hr with ⟨rfl, rfl⟩ | ⟨rfl, rfl⟩
 ·simp [execOp, ho, hv, hz, eqGuard, binOp, heq, hsome]
 ·simp [execOp, ho, hv, hz, eqGuard, binOp, heq, hsome]
end
end Go.VM

namespace Go.VM
variable [Bor]
open Go.RowKit
section
variable {X : Cx} {ρ : Type} {base : Nat} {h : Hp} {K : AV → Hp → Option ρ} {y : ρ}
theorem octs_rep {w : World} : ∀ l : List UInt8, RepL (Rep w true (.int .u8)) (l.map fun b => (b.toNat : Int)) (l.map fun b => Value.int .u8 b.toNat) []
 | [] => ⟨rfl, rfl⟩
 | b :: l => ⟨[_], _, [], [], rfl, rfl, ⟨rfl, rfl⟩, octs_rep l⟩
theorem strBytes_run {P : Program} {W : World} {s t el : TypeId} {x : ByteArray} (hs : P.underlying s = some .string) (ht : P.underlying t = some (.slice el)) (he : P.underlying el = some (.int .u8)) :
  ∃ W' cap, (convert s t (.string x)).run P W = .ok (.slice (some ⟨W.heap.size, 0, none⟩) x.size cap) W' ∧ x.size ≤ cap ∧ (x.size ≤ maxLen → cap ≤ maxLen) ∧ W'.os = W.os ∧ W'.tape = W.tape ∧ W'.output = W.output ∧ W'.heap.size = W.heap.size + 1 ∧
   (∀ b, b < W.heap.size → W'.heap[b]? = W.heap[b]?) ∧ ∃ q : List Value, W'.heap[W.heap.size]? = some (.cells (x.data.toList.map (fun b => Value.int .u8 b.toNat) ++ q).toArray el (cap, cap + 1)) ∧ x.size + q.length = cap := by
 let cap := grownCap W x.size 0 el
 have hge : x.size ≤ cap := grownCap_ge W x.size 0 el
 let c : Array Value := (x.data.map fun b => Value.int .u8 b.toNat) ++ Array.replicate (cap - x.size) (.int .u8 0)
 have hc : c.size = cap := by
  show (_ ++ _ : Array Value).size = cap
  rw [Array.size_append, Array.size_map, Array.size_replicate]
  have : x.data.size = x.size := rfl
  omega
 let W1 : World := W.drew.alloc (.cells c el)
 let W2 : World := W1.freeze { block := W.heap.size, off := cap } 1
 have h1 : W1.heap[W.heap.size]? = some (.cells c el) := alloc_new W.drew _
 have hlt : W.heap.size < W1.heap.size := lt_of_heap h1
 have h2 : W2.heap = W1.heap.modify W.heap.size (fun
   | .cells c elem (lo, hi) => .cells c elem (if lo == hi then (cap, cap + 1) else (min lo cap, max hi (cap + 1)))
   | o => o) := rfl
 refine ⟨W2, cap, ?_, hge, fun h => grownCap_le_maxLen W _ _ _ h, rfl, rfl, rfl, ?_, ?_, (List.replicate (cap - x.size) (.int .u8 0)), ?_, ?_⟩
 ·have hsh : W1.shape? W.heap.size = some (el, cap) := by simp [World.shape?, h1, hc]
  have hforce : (Question.appendCap x.size 0 el).forced = false := rfl
  simp only [convert, Sem.run_bind, run_underlying hs, run_underlying ht, run_underlying he, Result.andThen_ok, Conv.stringToBytes]
  have hch : (choose (.appendCap x.size 0 el)).run P W = .ok cap W.drew := by
   rw [run_choose, hforce]; rfl
  rw [hch]
  simp only [Result.andThen_ok]
  have hrow : (newRow el c).run P W.drew = .ok ⟨W.heap.size, 0, none⟩ W1 := rfl
  have hrow' : (newRow el (x.data.map (fun b => Value.int .u8 b.toNat) ++ Array.replicate (cap - x.size) (.int .u8 0))).run P W.drew = .ok ⟨W.heap.size, 0, none⟩ W1 := hrow
  simp only [hrow', Result.andThen_ok, markStringish, Sem.run_bind, run_shape, hsh, run_freeze, Sem.run_pure]
  rfl
 ·rw [h2, Array.size_modify]; exact alloc_sz W.drew _
 ·intro b hb
  rw [h2, Array.getElem?_modify, if_neg (by omega)]
  exact alloc_old W.drew _ hb
 ·rw [h2, Array.getElem?_modify, if_pos rfl, h1]
  simp only [Option.map_some, beq_self_eq_true, if_true]
  congr 2
  apply Array.toList_inj.1
  simp [c]
 ·rw [List.length_replicate]; omega
theorem strBytes_ok {s t : TypeId} {e : Bool} {z : Operand} {x : ByteArray} (hs : TyOK X.P s .str) (ht : TyOK X.P t (.sl e (.int .u8))) (hy : cond (room x.size) (K (.hs base [] none 0) [(base, .arr false (.int .u8) (octs x) 0)]) none = some y) :
  Good X base (.convert s t z) [.im .str x] h K y := by
 obtain ⟨hroom, hy⟩ := cond_none hy
 have hroom : x.size ≤ 1000000000 := by simpa [room] using hroom
 refine ⟨_, _, hy, OpOK.newArr (ks := []) rfl (by simp) ?_⟩
 intro o M tt used own a ho hvs hh hi
 have hx := (hi.ev z).1
 rw [map1 hvs] at hx
 obtain ⟨d, hd, rfl⟩ := hs.d
 obtain ⟨d', hd', hsh⟩ := ht.d
 obtain ⟨el, rfl, hel, hu8⟩ := hsh
 obtain ⟨W', cap, hrun, hge, hcm, h1, h2, h3, h4, h5, q, h6, h7⟩ := strBytes_run (P := X.P) (W := M.w) (x := x) hd hd' (hu8 rfl)
 have hol : (octs x).length = x.size := by simp [octs]
 refine ⟨W', (some ⟨M.w.heap.size, 0, none⟩, cap), [M.w.heap.size], ⟨h1, h2, h3, by rw [h4]; omega, fun b hb _ => h5 b hb⟩, ?_, by simp, ?_, ?_⟩
 ·have hsz : (x.data.toList.map (fun b => Value.int .u8 b.toNat) ++ q).length = cap := by rw [List.length_append, List.length_map, Array.length_toList]; exact h7
  refine .inr ⟨⟨M.w.heap.size, 0, none⟩, cap, _, el, (cap, cap + 1), [], x.data.toList.map (fun b => Value.int .u8 b.toNat), q, [], by simp [hdr], rfl, (fun h => by cases h), by rw [hol]; exact hge, h6, by simp, rfl, octs_rep _, rfl, fun _ => ⟨rfl, ?_, ?_, hcm (by simp only [maxLen]; omega)⟩⟩
  ·intro j hj
   rw [List.size_toArray, hsz] at hj
   simp only [U.sz] at hj ⊢; omega
  ·rw [List.size_toArray, hsz]; simp [U.sz]
 ·intro b hb
  simp at hb; subst hb
  rw [h4]
  exact ⟨by omega, fun h => by omega⟩
 ·simp only [execOp, ho, im_str hx, Sem.run_bind, hrun, Result.andThen_ok, hdr, hol]
  rfl
theorem indexArr_ok {t : TypeId} {x i : Operand} {m : Nat} {w v : U} {m' : Nat} {l : List v.El} {k : IntKind} {n : Int} (ht : TyOK X.P t (.ar m w)) (hc : (Nat.beq m m' && decide (w = v) && v.plain && v.flat) = true)
  (hy : cond (inB n m) (K (pack v (cellsOf imSl v (l.getD n.toNat v.dflt) 0)) []) none = some y) : Good X base (.index t x i) [.im (.ar m' v) l, .im (.int k) n] h K y := by
 simp only [Bool.and_eq_true, Nat.beq_eq, decide_eq_true_eq] at hc
 obtain ⟨⟨⟨rfl, rfl⟩, hp⟩, hf⟩ := hc
 obtain ⟨hb, hy⟩ := cond_none hy
 obtain ⟨h0, h1⟩ := inB_iff.1 hb
 have hrefs : ∀ j ∉ refs (pack w (cellsOf imSl w (l.getD n.toNat w.dflt) 0)), True := fun _ _ => trivial
 refine ⟨_, [], hy, OpOK.pure (fun j hj => ?_) ?_⟩
 ·exfalso
  have h2 : ∀ (c : Nat) (e : Bool) (u : U) (l : List u.El), j ∈ refs (imSl c e u l) → False := fun c e u l h => by simp [imSl, refs] at h
  have := refs_cells (mk := imSl) (j := j) (id := j + 1) (fun c e u l h => (h2 c e u l h).elim) (refs_pack hj)
  omega
 ·intro o M tt used own ac ho hvs hh hi
  obtain ⟨e1, e2⟩ := map2 hvs
  have hx := (hi.ev x).1
  have hz := (hi.ev i).1
  rw [e1] at hx; rw [e2] at hz
  obtain ⟨d, hd, hsh⟩ := ht.d
  obtain ⟨el, rfl, hel⟩ := hsh
  obtain ⟨ie, z, hie, hisz, _⟩ := hel.i
  obtain ⟨de, hde, hag⟩ := hel.ag
  simp only [AVRep] at hx
  obtain ⟨_, cs, F, hval, ⟨hlen, hr⟩, hZ⟩ := hx
  have hval : ac.eval x = .agg cs.toArray := by simpa [valC, U.isAgg] using hval
  have hlt : n.toNat < l.length := by omega
  obtain ⟨c1, c2, c3, F1, F2, F3, rfl, rfl, hl1, hxr, _⟩ := RepL.at (n := w.sz) (fun _ _ _ => Rep.length) w.dflt n.toNat hr hlt
  have hlx := Rep.length hxr
  have hcs := cells_im (M := M) 0 hp hxr (fun b hb => hZ b (by simp [hb]))
  have hcl := hcs.length
  have hrep := pack_rep hp hcs (by rw [az_sz hp]; omega)
  have hisAgg : (isAgg el).run X.P M.w = .ok w.isAgg M.w := by
   simp only [isAgg, Sem.run_bind, run_underlying hde, Result.andThen_ok]
   rw [← hag]
   cases de <;> rfl
  refine ⟨_, hrep, ?_⟩
  have hpart : (part el (c1 ++ c2 ++ c3).toArray (n.toNat * w.sz)).run X.P M.w = .ok (valOf w c2) M.w := by
   cases hA : w.isAgg with
   | true =>
    simp only [part, Sem.run_bind, hisAgg, Result.andThen_ok, hA, if_true, run_sizeOf hie, hisz, valOf]
    have hex : (c1 ++ c2 ++ c3).toArray.extract (n.toNat * w.sz) (n.toNat * w.sz + w.sz) = c2.toArray := by
     apply Array.toList_inj.1
     rw [Array.toList_extract]
     simp only [show ∀ (l : List Value) (a b : Nat), l.extract a b = (l.drop a).take (b - a) from fun _ _ _ => rfl]
     rw [← hl1, Nat.add_sub_cancel_left, ← hlx]
     simp
    rw [hex]
    rfl
   | false =>
    have hz1 := (sz_one hp hA).1
    have : c2 = [c2.headD undef] := by
     match c2, (by rw [hlx, hz1] : c2.length = 1) with
     | [v], _ => rfl
    have hget : (c1 ++ c2 ++ c3).toArray[n.toNat * w.sz]? = some (c2.headD undef) := by
     rw [← hl1, List.getElem?_toArray, List.append_assoc, List.getElem?_append_right (Nat.le_refl _), Nat.sub_self, this]
     rfl
    simp only [part, Sem.run_bind, hisAgg, Result.andThen_ok, hA, Bool.false_eq_true, if_false, hget, valOf]
    rfl
  have hn : 0 ≤ n ∧ n < (m : Int) := ⟨h0, h1⟩
  simp only [execOp, ho, hval, im_int hz, Instr.index, asIntOf, Sem.run_bind, Sem.run_pure, run_underlying hd, Result.andThen_ok, if_pos hn, run_sizeOf hie, hisz, hpart]
end
end Go.VM

namespace Go.VM
variable [Bor]
open Go.RowKit
theorem XF.at {P : Program} : ∀ {u : U} {fs : List Field} {f a w fd}, XF P u fs → fieldOff u f = some (a, w) → fs[f]? = some fd → ∃ d, P.underlying fd.type = some d ∧ aggD d = w.isAgg ∧ basicB w d = true
 | .pair a b, fd :: r, 0, x, w, fd', h, hf, hd => by
  simp only [fieldOff, Option.some.injEq, Prod.mk.injEq] at hf
  obtain ⟨rfl, rfl⟩ := hf
  simp only [List.getElem?_cons_zero, Option.some.injEq] at hd
  subst hd
  exact h.1
 | .pair a b, fd :: r, f + 1, x, w, fd', h, hf, hd => by
  simp only [fieldOff] at hf
  cases hb : fieldOff b f with
  | none => rw [hb] at hf; cases hf
  | some q =>
   obtain ⟨o', w'⟩ := q
   rw [hb] at hf
   simp only [Option.some.injEq, Prod.mk.injEq] at hf
   obtain ⟨rfl, rfl⟩ := hf
   simp only [List.getElem?_cons_succ] at hd
   exact XF.at h.2 hb hd
 | .pair _ _, [], _, _, _, _, _, _, hd => by simp at hd
 | .unit, _, _, _, _, _, _, hf, _ => by simp [fieldOff] at hf
 | .bool, _, _, _, _, _, _, hf, _ => by simp [fieldOff] at hf
 | .int _, _, _, _, _, _, _, hf, _ => by simp [fieldOff] at hf
 | .str, _, _, _, _, _, _, hf, _ => by simp [fieldOff] at hf
 | .sl _ _, _, _, _, _, _, _, hf, _ => by simp [fieldOff] at hf
 | .ar _ _, _, _, _, _, _, _, hf, _ => by simp [fieldOff] at hf
 | .oth, _, _, _, _, _, _, hf, _ => by simp [fieldOff] at hf
 | .bs _, _, _, _, _, _, _, hf, _ => by simp [fieldOff] at hf
 | .pt _, _, _, _, _, _, _, hf, _ => by simp [fieldOff] at hf
 | .tr u, fs, f, x, w, fd', h, hf, hd => by
  match fs, f, h, hf, hd with
  | [], _, _, _, hd => simp at hd
  | fd :: r, 0, h, hf, hd =>
   simp only [fieldOff, Option.some.injEq, Prod.mk.injEq] at hf
   obtain ⟨rfl, rfl⟩ := hf
   simp only [List.getElem?_cons_zero, Option.some.injEq] at hd
   subst hd
   exact h.1
  | fd :: r, 1, h, hf, hd =>
   simp only [fieldOff, Option.some.injEq, Prod.mk.injEq] at hf
   obtain ⟨rfl, rfl⟩ := hf
   simp only [List.getElem?_cons_succ] at hd
   obtain ⟨d, h1, h2⟩ := h.2 _ (List.mem_of_getElem? hd)
   exact ⟨d, h1, h2, by cases d <;> rfl⟩
  | fd :: r, k + 2, h, hf, hd => simp [fieldOff] at hf
theorem part_run {P : Program} {t : TypeId} {w : U} {d : TypeDesc} {i : TypeInfo} {o : Nat} {W : World} {vs : List Value} (hd : P.underlying t = some d) (ha : aggD d = w.isAgg) (hi : P.info? t = some i) (hs : i.size = w.sz) (hp : w.plain = true) (hl : o + w.sz ≤ vs.length) :
  (part t vs.toArray o).run P W = .ok (valOf w ((vs.drop o).take w.sz)) W := by
 have hag : (isAgg t).run P W = .ok w.isAgg W := by
  have h1 := run_underlying hd W
  simp only [isAgg, Sem.run_bind, h1, Result.andThen_ok]
  cases d <;> simp_all [aggD]
 simp only [part, Sem.run_bind, hag, Result.andThen_ok]
 cases hw : w.isAgg with
 | true =>
  simp only [if_true, Sem.run_bind, run_sizeOf hi, Result.andThen_ok, hs, Sem.run_pure, valOf, hw]
  congr 2
  apply Array.ext'
  simp [Array.toList_extract]
 | false =>
  obtain ⟨h1, _⟩ := sz_one hp hw
  rw [h1] at hl ⊢
  have hlt : o < vs.length := by omega
  have h1 : (vs.drop o).take 1 = [vs[o]] := by rw [List.drop_eq_getElem_cons hlt]; rfl
  simp only [valOf, hw, if_false, Bool.false_eq_true, List.getElem?_toArray, List.getElem?_eq_getElem hlt, h1]
  simp
section
variable {X : Cx} {ρ : Type} {base : Nat} {h : Hp} {K : AV → Hp → Option ρ} {y : ρ}
theorem field_ok {t : TypeId} {u : U} {x : Operand} {f : Nat} {cs : List AV} {o : Nat} {w : U} {c' : AV} (ht : TyOK X.P t u) (hp : u.plain = true) (hf : fieldOff u f = some (o, w)) (hc : piece? w cs o = some c') (hy : K c' [] = some y) :
  Good X base (.field t x f) [.agg cs] h K y := by
 obtain ⟨hl, hwp, rfl⟩ := piece?_some hc
 refine ⟨_, [], hy, OpOK.pure (fun j hj => ⟨.agg cs, by simp, by simpa [refs] using refsL_piece (refs_pack hj)⟩) ?_⟩
 intro op M tt used own ac ho hvs hh hi
 have hx := (hi.ev x).1
 rw [map1 hvs] at hx
 simp only [AVRep] at hx
 obtain ⟨vs, hv, hr⟩ := hx
 obtain ⟨fs, fd, h1, h2, h3, ⟨i, h4, h5⟩, h6⟩ := fields_of ht hp hf
 obtain ⟨hX, _⟩ := ht.x fs h1
 have h2' : fs.toList[f]? = some fd := by simpa using h2
 obtain ⟨d, hd, hda, _⟩ := hX.at hf h2'
 have hz := az_sz hwp
 have hlen := hr.length
 have hrun := part_run (W := M.w) (vs := vs) (o := o) hd hda h4 h5 hwp (by rw [← hz]; omega)
 refine ⟨valOf w ((vs.drop o).take w.az), pack_rep hwp (AVRepL.piece o w.az hr) (by rw [List.length_take, List.length_drop]; omega), ?_⟩
 simp [execOp, ho, Instr.field, run_underlying h1, h2, hv, h3, asAgg, hrun, hz]
end
theorem forIn_all {σ : Type} {P : Program} {W : World} {g : Field → σ → Sem (ForInStep σ)} {s0 s1 : σ} : ∀ {fs : List Field} {es : List Bool}, es.length = fs.length → (∀ (j : Nat) f e, fs[j]? = some f → es[j]? = some e → (g f s0).run P W = .ok (if e = true then .yield s0 else .done s1) W) →
  (forIn fs s0 g).run P W = .ok (if es.all id = true then s0 else s1) W
 | [], [], _, _ => by simp
 | [], _ :: _, h, _ => by simp at h
 | _ :: _, [], h, _ => by simp at h
 | f :: fs, e :: es, hl, hg => by
  have h0 := hg 0 f e rfl rfl
  rw [List.forIn_cons, Sem.run_bind, h0]
  cases e with
  | false => simp
  | true =>
   have := forIn_all (fs := fs) (es := es) (by simpa using hl) (fun j f e h1 h2 => hg (j + 1) f e (by simpa using h1) (by simpa using h2))
   simpa using this
theorem eqL_cmp : ∀ {u : U} {cs ds : List AV} {b : Bool}, eqL u cs ds = some b → cmpU u = true := by
 intro u
 induction u with
 | pair a b _ ih =>
  intro cs ds r h
  unfold eqL at h
  split at h
  ·rename_i heq; cases heq
  ·rename_i heq
   cases heq
   obtain ⟨_, h⟩ := sw_some h
   split at h
   ·rename_i h2; exact ih h2
   ·cases h
  ·rename_i heq
   cases heq
   split at h
   ·rename_i h2; exact ih h2
   ·cases h
  ·rename_i heq
   cases heq
   split at h
   ·rename_i h2; exact ih h2
   ·cases h
  ·cases h
 | unit => intros; rfl
 | _ => intro cs ds r h; simp [eqL] at h
theorem bytes_beq (x y : ByteArray) : (x == y) = true ↔ x = y := by
 obtain ⟨x⟩ := x
 obtain ⟨y⟩ := y
 show (x == y) = true ↔ _
 rw [beq_iff_eq]
 exact ⟨fun h => by rw [h], fun h => by injection h⟩
theorem one_part {P : Program} {t : TypeId} {w : U} {d : TypeDesc} {i : TypeInfo} {W : World} {p vs : List Value} {v : Value} {o : Nat} (hd : P.underlying t = some d) (ha : aggD d = w.isAgg) (hi : P.info? t = some i) (hs : i.size = w.sz) (hp : w.plain = true) (hw : w.isAgg = false) (ho : p.length = o) :
  (part t (p ++ v :: vs).toArray o).run P W = .ok v W := by
 have h1 := (sz_one hp hw).1
 have := part_run (W := W) (vs := p ++ v :: vs) (o := o) hd ha hi hs hp (by rw [h1]; simp; omega)
 rw [this, h1, ← ho, List.drop_left]
 simp [valOf, hw]
theorem eq_fields {P : Program} {M : Mem} : ∀ {u : U} {fs : List Field} {o : Nat} {cs ds : List AV} {vs ws : List Value} {b : Bool} {p q : List Value}, FieldsOK P u fs o → XF P u fs → eqL u cs ds = some b → AVRepL M cs vs → AVRepL M ds ws → p.length = o → q.length = o →
  ∃ es : List Bool, es.length = fs.length ∧ es.all id = b ∧ ∀ (j : Nat) f e, fs[j]? = some f → es[j]? = some e → ∀ d W, ∃ x y, (part f.type (p ++ vs).toArray f.offset).run P W = .ok x W ∧ (part f.type (q ++ ws).toArray f.offset).run P W = .ok y W ∧ (Op.equalIn (d + 1) f.type x y).run P W = .ok e W := by
 intro u
 induction u with
 | unit =>
  intro fs o cs ds vs ws b p q hF hX he hv hw hp hq
  cases fs with
  | cons => exact hF.elim
  | nil =>
   cases cs with
   | cons => simp [eqL] at he
   | nil => cases ds with
    | cons => simp [eqL] at he
    | nil =>
     simp only [eqL, Option.some.injEq] at he
     subst he
     exact ⟨[], rfl, rfl, fun j f e h => by simp at h⟩
 | pair a b _ ih =>
  intro fs o cs ds vs ws r p q hF hX he hv hw hp hq
  cases fs with
  | nil => exact hF.elim
  | cons f fs =>
   obtain ⟨h1, ⟨i, hi, hs⟩, hF⟩ := hF
   obtain ⟨⟨dd, hd, hda, hba⟩, hX⟩ := hX
   have step : ∀ (c1 c2 : AV) (cs' ds' : List AV) (e : Bool) (r' : Bool), cs = c1 :: cs' → ds = c2 :: ds' → a.plain = true → a.isAgg = false → eqL b cs' ds' = some r' → r = (e && r') → (∀ v w, AVRep M c1 v → AVRep M c2 w → ∀ d W, (Op.equalIn (d + 1) f.type v w).run P W = .ok e W) →
     ∃ es : List Bool, es.length = (f :: fs).length ∧ es.all id = r ∧ ∀ (j : Nat) f' e, (f :: fs)[j]? = some f' → es[j]? = some e → ∀ d W, ∃ x y, (part f'.type (p ++ vs).toArray f'.offset).run P W = .ok x W ∧ (part f'.type (q ++ ws).toArray f'.offset).run P W = .ok y W ∧ (Op.equalIn (d + 1) f'.type x y).run P W = .ok e W := by
    rintro c1 c2 cs' ds' e r' rfl rfl hpl hag h2 rfl heq
    simp only [AVRepL] at hv hw
    obtain ⟨v, vr, rfl, v1, v2⟩ := hv
    obtain ⟨w, wr, rfl, w1, w2⟩ := hw
    have hz := (sz_one hpl hag).1
    obtain ⟨es, l1, l2, l3⟩ := ih (p := p ++ [v]) (q := q ++ [w]) hF hX h2 v2 w2 (by simp [hp, hz]) (by simp [hq, hz])
    refine ⟨e :: es, by simp [l1], by simp [l2], fun j f' e' hj he' d W => ?_⟩
    cases j with
    | zero =>
     simp only [List.getElem?_cons_zero, Option.some.injEq] at hj he'
     subst hj; subst he'
     exact ⟨v, w, one_part hd hda hi hs hpl hag (by rw [hp, h1]), one_part hd hda hi hs hpl hag (by rw [hq, h1]), heq v w v1 w1 d W⟩
    | succ j =>
     simp only [List.getElem?_cons_succ] at hj he'
     have := l3 j f' e' hj he' d W
     simpa using this
   unfold eqL at he
   split at he
   ·rename_i heq; cases heq
   ·rename_i k b' k1 x cs' k2 y ds' heq
    cases heq
    obtain ⟨hk, he⟩ := sw_some he
    simp only [Bool.and_eq_true, decide_eq_true_eq] at hk
    obtain ⟨rfl, rfl⟩ := hk
    split at he
    case h_2 => cases he
    case h_1 r' h2 =>
     simp only [Option.some.injEq] at he
     subst he
     refine step _ _ cs' ds' _ r' rfl rfl rfl rfl h2 rfl fun v w v1 w1 d W => ?_
     rw [im_int v1, im_int w1]
     cases dd <;> simp only [basicB, decide_eq_true_eq, Bool.false_eq_true] at hba
     subst hba
     rw [Op.equalIn]
     simp only [Sem.run_bind, run_underlying hd, Result.andThen_ok, if_true, Sem.run_pure]
     congr 1
   ·rename_i b' x cs' y ds' heq
    cases heq
    split at he
    case h_2 => cases he
    case h_1 r' h2 =>
     simp only [Option.some.injEq] at he
     subst he
     refine step _ _ cs' ds' _ r' rfl rfl rfl rfl h2 rfl fun v w v1 w1 d W => ?_
     rw [im_str v1, im_str w1]
     cases dd <;> simp only [basicB, Bool.false_eq_true] at hba
     rw [Op.equalIn]
     simp only [Sem.run_bind, run_underlying hd, Result.andThen_ok, Sem.run_pure]
     refine congrArg (fun b => Result.ok b W) ?_
     rw [Bool.eq_iff_iff]
     simp only [seq, decide_eq_true_eq]
     exact bytes_beq x y
   ·rename_i b' x cs' y ds' heq
    cases heq
    split at he
    case h_2 => cases he
    case h_1 r' h2 =>
     simp only [Option.some.injEq] at he
     subst he
     refine step _ _ cs' ds' _ r' rfl rfl rfl rfl h2 rfl fun v w v1 w1 d W => ?_
     rw [im_bool v1, im_bool w1]
     cases dd <;> simp only [basicB, Bool.false_eq_true] at hba
     rw [Op.equalIn]
     simp only [Sem.run_bind, run_underlying hd, Result.andThen_ok, Sem.run_pure]
   ·cases he
 | _ => intro fs o cs ds vs ws r p q hF hX he; simp [eqL] at he
theorem equal_struct {P : Program} {M : Mem} {t : TypeId} {u : U} {cs ds : List AV} {vs ws : List Value} {W : World} {r : Bool} (ht : TyOK P t u) (he : eqL u cs ds = some r) (hv : AVRepL M cs vs) (hw : AVRepL M ds ws) : (Op.equal t (.agg vs.toArray) (.agg ws.toArray)).run P W = .ok r W := by
 have hc := eqL_cmp he
 obtain ⟨dd, hd, hsh⟩ := ht.d
 obtain ⟨fs, rfl, hF⟩ : ∃ fs, dd = .struct fs ∧ FieldsOK P u fs.toList 0 := by
  cases u <;> first | exact hsh | simp [cmpU] at hc
 obtain ⟨hX, hx⟩ := ht.x fs hd
 obtain ⟨hnm, hst, hgu⟩ := hx hc
 obtain ⟨es, h1, h2, h3⟩ := eq_fields (p := []) (q := []) hF hX he hv hw rfl rfl
 show (Op.equalIn (9998 + 1 + 1) t (.agg vs.toArray) (.agg ws.toArray)).run P W = _
 rw [Op.equalIn]
 simp only [Sem.run_bind, run_underlying hd, Result.andThen_ok, run_program, hst, Bool.false_eq_true, if_false]
 rw [← Array.forIn_toList]
 rw [forIn_all (es := es) (s1 := (some false, ())) h1 ?_]
 ·rw [h2]
  cases r <;> simp
 ·intro j f e hj he'
  obtain ⟨x, y, k1, k2, k3⟩ := h3 j f e hj he' 9998 W
  simp only [List.nil_append] at k1 k2
  rw [if_pos (hnm f (List.mem_of_getElem? hj))]
  simp only [Sem.run_bind, k1, k2, k3, Result.andThen_ok]
  cases e <;> simp
section
variable {X : Cx} {ρ : Type} {base : Nat} {h : Hp} {K : AV → Hp → Option ρ} {y : ρ}
theorem structEq_ok {op : BinOp} {t w : TypeId} {x z : Operand} {cs ds : List AV} {u : U} {r : Bool} (ht : TyOK X.P t u) (he : eqL u cs ds = some r) (hy : op = .eql ∧ K (.im .bool r) [] = some y ∨ op = .neq ∧ K (.im .bool (!r)) [] = some y) :
  Good X base (.binOp op t x z w) [.agg cs, .agg ds] h K y := by
 have hc := eqL_cmp he
 obtain ⟨dd, hd, hsh⟩ := ht.d
 obtain ⟨fs, rfl, hF⟩ : ∃ fs, dd = .struct fs ∧ FieldsOK X.P u fs.toList 0 := by
  cases u <;> first | exact hsh | simp [cmpU] at hc
 obtain ⟨hnm, hst, hgu⟩ := (ht.x fs hd).2 hc
 rcases hy with ⟨rfl, hy⟩ | ⟨rfl, hy⟩
 all_goals
  refine bin_key rfl ?_ hy
  intro M v1 v2 W _ _ _ e1 e2
  simp only [AVRep] at e1 e2
  obtain ⟨vs, rfl, hv⟩ := e1
  obtain ⟨ws, rfl, hw⟩ := e2
  refine ⟨_, mk_bool, ?_⟩
  simp [eqGuard, hgu, binOp, equal_struct ht he hv hw]
end
end Go.VM

namespace Go.VM
variable [Bor]
open Go.RowKit
structure NR where
 id : Nat
 R : Root
 r : Option Addr × Nat
 F : List Nat
def nrH (N : List NR) : Hp := N.map fun n => (n.id, n.R)
def nrOwn (N : List NR) (ts : List Nat) (own : Nat → Option Nat) (b : Nat) : Option Nat :=
 match N.find? fun n => n.F.contains b with
 | some n => some n.id
 | none => match own b with | some k => if k ∈ ts then none else some k | none => none
def nrR (N : List NR) (r : Nat → Option Addr × Nat) (id : Nat) : Option Addr × Nat := match N.find? fun n => n.id == id with | some n => n.r | none => r id
theorem find_id {N : List NR} (hn : (N.map NR.id).Nodup) {n : NR} (h : n ∈ N) : (N.find? fun m => m.id == n.id) = some n := by
 induction N with
 | nil => cases h
 | cons m N ih =>
  simp only [List.map_cons, List.nodup_cons] at hn
  rw [List.find?_cons]
  rcases List.mem_cons.1 h with rfl | h
  ·simp
  ·have : (m.id == n.id) = false := by
    rw [beq_eq_false_iff_ne]
    intro e
    exact hn.1 (e ▸ List.mem_map_of_mem h)
   rw [this]
   exact ih hn.2 h
theorem find_F {N : List NR} (hn : (N.flatMap NR.F).Nodup) {n : NR} (h : n ∈ N) {b : Nat} (hb : b ∈ n.F) : (N.find? fun m => m.F.contains b) = some n := by
 induction N with
 | nil => cases h
 | cons m N ih =>
  simp only [List.flatMap_cons] at hn
  obtain ⟨h1, h2, h3⟩ := List.nodup_append.1 hn
  rw [List.find?_cons]
  rcases List.mem_cons.1 h with rfl | h
  ·simp [hb]
  ·have : m.F.contains b = false := by
    cases hc : m.F.contains b with
    | false => rfl
    | true => exact absurd rfl (h3 b (by simpa using hc) b (List.mem_flatMap.2 ⟨n, h, hb⟩))
   rw [this]
   exact ih h2 h
theorem lkU_nr {N : List NR} {ts : List Nat} {h : Nat → Root} (hn : (N.map NR.id).Nodup) {n : NR} (hm : n ∈ N) : lkU (nrH N ++ killed ts) h n.id = n.R := by
 induction N with
 | nil => cases hm
 | cons m N ih =>
  simp only [List.map_cons, List.nodup_cons] at hn
  simp only [nrH, List.map_cons, List.cons_append, lkU_cons]
  rcases List.mem_cons.1 hm with rfl | hm
  ·rw [if_pos rfl]
  ·have hne : n.id ≠ m.id := fun e => hn.1 (by rw [← e]; exact List.mem_map_of_mem hm)
   rw [if_neg hne]
   exact ih hn.2 hm
theorem lkU_nr' {N : List NR} {ts : List Nat} {h : Nat → Root} {id : Nat} (hm : id ∉ N.map NR.id) : lkU (nrH N ++ killed ts) h id = if id ∈ ts then .dead else h id := by
 induction N with
 | nil => exact lkU_killed
 | cons m N ih =>
  simp only [List.map_cons, List.mem_cons, not_or] at hm
  simp only [nrH, List.map_cons, List.cons_append, lkU_cons]
  rw [if_neg hm.1]
  exact ih hm.2
theorem Inv.many {X : Cx} {M : Mem} {t used own a} (hi : Inv X M t used own a) {N : List NR} {ts : List Nat} {w' : World} {used' : Nat → Prop} (hid : (N.map NR.id).Nodup) (hF : (N.flatMap NR.F).Nodup)
  (hu : ∀ j, used j → used' j) (hnu : ∀ n ∈ N, used' n.id) (hold : ∀ n ∈ N, used n.id → n.id ∈ ts ∧ n.r = M.r n.id ∧ ((∃ cs cs', M.h n.id = .obj cs ∧ n.R = .obj cs') ∨ ∃ e u l l' g g' b, M.h n.id = .arr e u l g ∧ RowIs n.R e u l' g' b ∧ l'.length = l.length ∧ (g < g' ∨ g = g' ∧ b = true)))
  (hfr : ∀ b, b < M.w.heap.size → (∀ k, own b = some k → k ∉ ts) → w'.heap[b]? = M.w.heap[b]?) (hFb : ∀ n ∈ N, ∀ b ∈ n.F, b < w'.heap.size ∧ ¬ M.Z b ∧ ∀ k, own b = some k → k ∈ ts)
  (hrt : ∀ M' : Mem, M'.w0 = M.w0 → M'.Z = M.Z → M'.w = w' → (∀ id, used id → Keeps M M' id) → (∀ n ∈ N, M'.r n.id = n.r ∧ M'.h n.id = n.R) → ∀ n ∈ N, ∀ own', (∀ b ∈ n.F, own' b = some n.id) → RootRep M' own' n.id n.R)
  (hrf : ∀ n ∈ N, ∀ cs, n.R = .obj cs → ∀ j ∈ refsL cs, used' j)
  (hsz : M.w.heap.size ≤ w'.heap.size) (hos : w'.os = M.w.os) (htp : w'.tape = M.w.tape) (hot : w'.output = M.w.output) :
  Inv X ⟨M.w0, M.Z, lkU (nrH N ++ killed ts) M.h, nrR N M.r, w'⟩ t used' (nrOwn N ts own) a := by
 -- old blocks that stay
 have hstay : ∀ b k, own b = some k → k ∉ ts → nrOwn N ts own b = some k ∧ w'.heap[b]? = M.w.heap[b]? := by
  intro b k hb hk
  refine ⟨?_, hfr b (hi.ow b k hb).1 (fun k' h => by rw [hb] at h; cases h; exact hk)⟩
  unfold nrOwn
  have : (N.find? fun n => n.F.contains b) = none := by
   rw [List.find?_eq_none]
   intro n hn hc
   exact hk ((hFb n hn b (by simpa using hc)).2.2 k hb)
  rw [this, hb]
  simp [hk]
 have hr0 : ∀ id, id ∉ N.map NR.id → nrR N M.r id = M.r id := by
  intro id hn
  unfold nrR
  have : (N.find? fun n => n.id == id) = none := by
   rw [List.find?_eq_none]
   intro n hm hc
   exact hn (List.mem_map.2 ⟨n, hm, by simpa using hc⟩)
  rw [this]
 have hr1 : ∀ n ∈ N, nrR N M.r n.id = n.r := by
  intro n hn
  unfold nrR
  rw [find_id hid hn]
 have hkeep : ∀ id, used id → Keeps M ⟨M.w0, M.Z, lkU (nrH N ++ killed ts) M.h, nrR N M.r, w'⟩ id := by
  intro id hu
  by_cases hm : id ∈ N.map NR.id
  ·obtain ⟨n, hn, rfl⟩ := List.mem_map.1 hm
   obtain ⟨_, h2, h3⟩ := hold n hn hu
   refine .inr ⟨by show nrR N M.r n.id = _; rw [hr1 n hn, h2], ?_⟩
   have hM' : lkU (nrH N ++ killed ts) M.h n.id = n.R := lkU_nr hid hn
   rcases h3 with ⟨cs, cs', h4, h5⟩ | ⟨e, u, l, l', g, g', b1, h4, h5, h6, h7⟩
   ·exact .inl ⟨by rw [h4]; simp, by intro e u l g b hx; have hx : RowIs (lkU _ _ _) _ _ _ _ _ := hx; rw [hM', h5] at hx; cases hx⟩
   ·refine .inr ⟨e, u, l, l', g, g', false, b1, rowA h4, by show RowIs (lkU _ _ _) _ _ _ _ _; rw [hM']; exact h5, h6, by omega, (fun h => by cases h), ?_⟩
    intro p gg e' u' k v o1 o2 _ o3 hat hhd
    cases p with
    | nil =>
     simp only [atP, Option.some.injEq] at hat
     cases hat
     exact ⟨l', h6, rfl, by simpa [hdrAt] using hhd⟩
    | cons q p =>
     simp only [okG, Nat.beq_eq] at o1 o2
     rcases h7 with h7 | ⟨_, h7⟩
     ·omega
     ·exact absurd (o3 h7) (by simp)
  ·have hl := lkU_nr' (ts := ts) (h := M.h) hm
   by_cases hk : id ∈ ts
   ·left; show lkU _ _ _ = _; rw [hl, if_pos hk]
   ·exact Keeps.same hi (by show lkU _ _ _ = _; rw [hl, if_neg hk]) (hr0 id hm) (fun b hb => (hstay b id hb hk).2)
 refine { tm := ?_, tn := hi.tn, df := hi.df, rt := ?_, ow := ?_, zf := ?_, zb := hi.zb, sz := Nat.le_trans hi.sz hsz, os := by rw [← hi.os]; exact hos, tp := by rw [← hi.tp]; exact htp, ot := by rw [← hi.ot]; exact hot,
          ut := fun i j hj => hu j (hi.ut i j hj), uo := ?_, ud := ?_, pin := ?_, pl := hi.pl_keep hkeep, pu := fun j hj => hu j (hi.pu j hj), bo := hi.bo, bz := hi.bz, gl := hi.gl, gz := hi.gz }
 ·intro i
  exact AVRep.mono (M := M) (M' := ⟨M.w0, M.Z, lkU (nrH N ++ killed ts) M.h, nrR N M.r, w'⟩) rfl rfl (fun id hm => hkeep id (hi.ut i id hm)) (hi.tm i)
 ·intro id
  show RootRep _ _ id (lkU _ _ id)
  by_cases hm : id ∈ N.map NR.id
  ·obtain ⟨n, hn, rfl⟩ := List.mem_map.1 hm
   rw [lkU_nr hid hn]
   refine hrt ⟨M.w0, M.Z, lkU (nrH N ++ killed ts) M.h, nrR N M.r, w'⟩ rfl rfl rfl hkeep (fun m hm => ⟨hr1 m hm, lkU_nr hid hm⟩) n hn _ (fun b hb => ?_)
   unfold nrOwn
   rw [find_F hF hn hb]
  ·rw [lkU_nr' hm]
   by_cases hk : id ∈ ts
   ·rw [if_pos hk]; trivial
   ·rw [if_neg hk]
    exact RootRep.same (M := M) rfl rfl (hi.rt id) (hr0 id hm) (fun b hb => ⟨(hstay b id hb hk).2, (hstay b id hb hk).1⟩) (fun cs hc j hj => hkeep j (hi.uo id cs hc j hj))
 ·intro b id hb
  unfold nrOwn at hb
  split at hb
  ·rename_i n hn
   have hm := List.mem_of_find?_eq_some hn
   have hc := List.find?_some hn
   have := hFb n hm b (by simpa using hc)
   exact ⟨this.1, this.2.1⟩
  ·cases ho : own b with
   | none => rw [ho] at hb; cases hb
   | some k => exact ⟨Nat.lt_of_lt_of_le (hi.ow b k ho).1 hsz, (hi.ow b k ho).2⟩
 ·intro b hZ
  rw [← hi.zf b hZ]
  have h1 := hi.zb b hZ
  have h2 := hi.sz
  exact hfr b (by omega) (fun k hk => absurd hZ (hi.ow b k hk).2)
 ·intro id cs hc j hj
  have hc : lkU (nrH N ++ killed ts) M.h id = .obj cs := hc
  by_cases hm : id ∈ N.map NR.id
  ·obtain ⟨n, hn, rfl⟩ := List.mem_map.1 hm
   rw [lkU_nr hid hn] at hc
   exact hrf n hn cs hc j hj
  ·rw [lkU_nr' hm] at hc
   split at hc
   ·cases hc
   ·exact hu j (hi.uo id cs hc j hj)
 ·intro id hd
  have hd : lkU (nrH N ++ killed ts) M.h id ≠ .dead := hd
  by_cases hm : id ∈ N.map NR.id
  ·obtain ⟨n, hn, rfl⟩ := List.mem_map.1 hm
   exact hnu n hn
  ·rw [lkU_nr' hm] at hd
   split at hd
   ·exact absurd rfl hd
   ·exact hu id (hi.ud id hd)
 ·intro j hj
  rw [← hi.pin j hj]
  show nrR N M.r j = M.r j
  by_cases hm : j ∈ N.map NR.id
  ·obtain ⟨n, hn, rfl⟩ := List.mem_map.1 hm
   rw [hr1 n hn, (hold n hn (hi.pu _ hj)).2.1]
  ·exact hr0 j hm
end Go.VM

namespace Go.VM
variable [β : Bor]
open Go.RowKit
mutual
def ArgRep (w : World) : Arg → Value → List Nat → List Nat → Prop
 | .v u x, v, S, L => u.plain = true ∧ (∃ cs, v = valOf u cs ∧ Rep w false u x cs S) ∧ L = []
 | .p u x, v, S, L => u.plain = true ∧ S = [] ∧ ∃ b c t G, v = .pointer (some ⟨b, 0, none⟩) ∧ w.heap[b]? = some (.cells c t (0, 0)) ∧ Rep w true u x c.toList G ∧ L = b :: G
 | .s e u x, v, S, L => u.plain = true ∧ S = [] ∧ SlRep w true e u.sz (Rep w true u) x v L
 | .g u x, v, S, L => u.plain = true ∧ S = [] ∧ ∃ cs, v = valOf u cs ∧ Rep w true u x cs L
 | .q u x, v, S, L => u.plain = true ∧ L = [] ∧ (∀ b ∈ S, b < w.heap.size) ∧ ∃ a, v = .pointer (some a) ∧ ImRow w (· ∈ S) u [x] a
 | .fn f cs, v, S, L => ∃ vs, v = .func (.func f) #[] vs.toArray ∧ ArgsRep w cs vs S L
 | .cf f cs, v, S, L => ∃ b t vs S', v = .pointer (some ⟨b, 0, none⟩) ∧ w.heap[b]? = some (.cells #[.func (.func f) #[] vs.toArray] t (0, 0)) ∧ S = b :: S' ∧ ArgsRep w cs vs S' L
 | .ag cs, v, S, L => ∃ vs, v = .agg vs.toArray ∧ ArgsRep w cs vs S L
 | .me _ _, v, S, L => L = [] ∧ ∃ b, v = .pointer (some ⟨b, 0, none⟩) ∧ S = [b] ∧ b < w.heap.size
def ArgsRep (w : World) : List Arg → List Value → List Nat → List Nat → Prop
 | [], vs, S, L => vs = [] ∧ S = [] ∧ L = []
 | a :: r, vs, S, L => ∃ v vr S1 S2 L1 L2, vs = v :: vr ∧ S = S1 ++ S2 ∧ L = L1 ++ L2 ∧ ArgRep w a v S1 L1 ∧ ArgsRep w r vr S2 L2
end
mutual
def OutRep (w0 w : World) : Arg → Value → List TV → List Nat → Prop
 | .v _ _, _, o, F => o = [] ∧ F = []
 | .g _ _, _, o, F => o = [] ∧ F = []
 | .q _ _, _, o, F => o = [] ∧ F = []
 | .me _ _, _, o, F => o = [] ∧ F = []
 | .p u _, v, o, F => ∃ y b c t G, o = [⟨u, y⟩] ∧ v = .pointer (some ⟨b, 0, none⟩) ∧ w.heap[b]? = some (.cells c t (0, 0)) ∧ Rep w true u y c.toList G ∧ F = b :: G
 | .s e u x, v, o, F => ∃ y : List u.El, o = [⟨.sl e u, y⟩] ∧ y.length = x.length ∧ SlRep w true e u.sz (Rep w true u) y v F
 | .ag cs, v, o, F => ∃ vs, v = .agg vs.toArray ∧ OutsRep w0 w cs vs o F
 | .cf _ cs, v, o, F => ∃ g b t vs, v = .pointer (some ⟨b, 0, none⟩) ∧ w0.heap[b]? = some (.cells #[.func (.func g) #[] vs.toArray] t (0, 0)) ∧ OutsRep w0 w cs vs o F
 | .fn _ cs, v, o, F => ∃ f vs, v = .func (.func f) #[] vs.toArray ∧ OutsRep w0 w cs vs o F
def OutsRep (w0 w : World) : List Arg → List Value → List TV → List Nat → Prop
 | [], _, o, F => o = [] ∧ F = []
 | a :: r, vs, o, F => ∃ v vr o1 o2 F1 F2, vs = v :: vr ∧ o = o1 ++ o2 ∧ F = F1 ++ F2 ∧ OutRep w0 w a v o1 F1 ∧ OutsRep w0 w r vr o2 F2
end
def RetRep (w : World) : List TV → List Value → List Nat → Prop
 | [], vs, F => vs = [] ∧ F = []
 | ⟨u, x⟩ :: r, vs, F => ∃ cs vr F1 F2, vs = valOf u cs :: vr ∧ F = F1 ++ F2 ∧ u.plain = true ∧ Rep w true u x cs F1 ∧ RetRep w r vr F2
def resV : List Value → Value | [v] => v | vs => .tuple vs.toArray
def endR : Option (Nat × Bool) → List Value → Ending
 | some (t, true), _ => .panicked (pchain t)
 | _, rv => .returned (resV rv)
def RetB (w : World) : Option (Nat × Bool) → List TV → List Value → List Nat → Prop
 | some (_, true), _, _, F => F = []
 | _, r, rv, F => RetRep w r rv F
def GlobOK (gl : List (Nat × TV)) (w : World) (L : List Nat) : Prop :=
 (∀ g u x, lkN gl g = some ⟨u, x⟩ → ImRow w (fun b => b < w.heap.size ∧ b ∉ L) u [x] ⟨g, 0, none⟩) ∧ BorOK w ∧ (∀ b, Bor.Z b → b < w.heap.size ∧ b ∉ L) ∧ GlSz gl w
def RecOK (w : World) (as : List Arg) (vs : List Value) : Prop := ∀ (i f m : Nat), as[i]? = some (Arg.me f m) → m ≤ i ∧ ∃ (b : Nat) (t : TypeId), vs[i]? = some (Value.pointer (some ⟨b, 0, none⟩)) ∧ w.heap[b]? = some (Obj.cells #[.func (.func f) #[] (vs.drop m).toArray] t (0, 0))
def CallOK (P : Program) (gl : List (Nat × TV)) (f : FuncId) (args : List Arg) (res : Res) : Prop :=
 ∀ (w : World) (vs : List Value) (S L : List Nat), ArgsRep w args vs S L → RecOK w args vs → L.Nodup → (∀ b ∈ S, b ∉ L) → GlobOK gl w L →
  Calls P f vs.toArray w fun e w' => ∃ rv F O, e = endR res.pan rv ∧ RetB w' res.pan res.ret rv F ∧ OutsRep w w' args vs res.outs O ∧ (F ++ O).Nodup ∧ (∀ b ∈ F ++ O, b < w'.heap.size ∧ (b < w.heap.size → b ∈ L)) ∧
   w'.os = w.os ∧ w'.tape = w.tape ∧ w'.output = w.output ∧ w.heap.size ≤ w'.heap.size ∧ ∀ b, b < w.heap.size → b ∉ L → w'.heap[b]? = w.heap[b]?
def CalOK (P : Program) (gl : List (Nat × TV)) (E : En) : Prop := ∀ (ρ : Type) (f : Nat) (args : List Arg) (K : Res → Option ρ) (y : ρ), E.cal ρ f args K = some y → (∃ fn, P.funcs[f]? = some fn ∧ fn.body.isSome ∧ fn.name ≠ "runtime.NumGoroutine") ∧ ∃ res, K res = some y ∧ ∀ B : Bor, @CallOK B P gl f args res
theorem ImRow.mor {B' : Bor} (hm : @BMor β B') {w : World} {Z : Nat → Prop} {u : U} {l : List u.El} {a : Addr} (h : @ImRow β w Z u l a) : @ImRow B' w Z u l a := by
 obtain ⟨c, t, fz, p, m, q, G, h1, h2, h3, h4, h5, h6⟩ := h
 exact ⟨c, t, fz, p, m, q, G, h1, h2, h3, h4, RepL.imp (R := @Rep β w false u) (S := @Rep B' w false u) (fun _ _ _ _ h => Rep.mor (β := β) hm h) h5, h6⟩
mutual
theorem ArgRep.mor {B' : Bor} (hm : @BMor β B') {w : World} : ∀ {a : Arg} {v : Value} {S L : List Nat}, @ArgRep β w a v S L → @ArgRep B' w a v S L
 | .v u x, v, S, L, h => by
  unfold ArgRep at h ⊢
  obtain ⟨h1, ⟨cs, h2, h3⟩, h4⟩ := h
  exact ⟨h1, ⟨cs, h2, h3.mor (β := β) hm⟩, h4⟩
 | .p u x, v, S, L, h => by
  unfold ArgRep at h ⊢
  obtain ⟨h1, h2, b, c, t, G, h3, h4, h5, h6⟩ := h
  exact ⟨h1, h2, b, c, t, G, h3, h4, h5.mor (β := β) hm, h6⟩
 | .s e u x, v, S, L, h => by
  unfold ArgRep at h ⊢
  exact ⟨h.1, h.2.1, h.2.2.mor (β := β) hm⟩
 | .g u x, v, S, L, h => by
  unfold ArgRep at h ⊢
  obtain ⟨h1, h2, cs, h3, h4⟩ := h
  exact ⟨h1, h2, cs, h3, h4.mor (β := β) hm⟩
 | .q u x, v, S, L, h => by
  unfold ArgRep at h ⊢
  obtain ⟨h1, h2, h3, a, h4, h5⟩ := h
  exact ⟨h1, h2, h3, a, h4, h5.mor (β := β) hm⟩
 | .me f m, v, S, L, h => by
  unfold ArgRep at h ⊢
  exact h
 | .fn f cs, v, S, L, h => by
  unfold ArgRep at h ⊢
  obtain ⟨vs, h1, h2⟩ := h
  exact ⟨vs, h1, ArgsRep.mor hm h2⟩
 | .cf f cs, v, S, L, h => by
  unfold ArgRep at h ⊢
  obtain ⟨b, t, vs, S', h1, h2, h3, h4⟩ := h
  exact ⟨b, t, vs, S', h1, h2, h3, ArgsRep.mor hm h4⟩
 | .ag cs, v, S, L, h => by
  unfold ArgRep at h ⊢
  obtain ⟨vs, h1, h2⟩ := h
  exact ⟨vs, h1, ArgsRep.mor hm h2⟩
theorem ArgsRep.mor {B' : Bor} (hm : @BMor β B') {w : World} : ∀ {as : List Arg} {vs : List Value} {S L : List Nat}, @ArgsRep β w as vs S L → @ArgsRep B' w as vs S L
 | [], vs, S, L, h => by
  unfold ArgsRep at h ⊢
  exact h
 | a :: r, vs, S, L, h => by
  unfold ArgsRep at h ⊢
  obtain ⟨v, vr, S1, S2, L1, L2, h1, h2, h3, h4, h5⟩ := h
  exact ⟨v, vr, S1, S2, L1, L2, h1, h2, h3, ArgRep.mor hm h4, ArgsRep.mor hm h5⟩
end
theorem RepL.block_lt {w : World} {o : Bool} {u : U} (hu : ∀ {x : u.El} {cs F}, Rep w o u x cs F → ∀ b ∈ F, b < w.heap.size) : ∀ {l : List u.El} {cs F}, RepL (Rep w o u) l cs F → ∀ b ∈ F, b < w.heap.size
 | [], _, _, h, b, hb => by rw [h.2] at hb; cases hb
 | x :: l, _, _, h, b, hb => by
  obtain ⟨c, d, G, H, rfl, rfl, h1, h2⟩ := h
  rcases List.mem_append.1 hb with hb | hb
  ·exact hu h1 b hb
  ·exact RepL.block_lt hu h2 b hb
theorem Rep.block_lt {w : World} {o : Bool} : ∀ {u : U} {x : u.El} {cs F}, Rep w o u x cs F → ∀ b ∈ F, b < w.heap.size
 | .bool, _, _, _, h, b, hb => by rw [h.2] at hb; cases hb
 | .int _, _, _, _, h, b, hb => by rw [h.2] at hb; cases hb
 | .str, _, _, _, h, b, hb => by rw [h.2] at hb; cases hb
 | .unit, _, _, _, h, b, hb => by rw [h.2] at hb; cases hb
 | .oth, _, _, _, h, b, hb => by rw [h.1] at hb; cases hb
 | .bs _, _, _, _, h, b, hb => by rw [h.1] at hb; cases hb
 | .pt _, _, _, _, h, b, hb => TrR.lt _ _ _ h b hb
 | .tr _, _, _, _, h, b, hb => TrR.lt _ _ _ h b hb
 | .ar n u, _, _, _, h, b, hb => RepL.block_lt (fun h => Rep.block_lt h) h.2 b hb
 | .pair p q, _, _, _, h, b, hb => by
  obtain ⟨c, d, G, H, rfl, rfl, h1, h2⟩ := h
  rcases List.mem_append.1 hb with hb | hb
  ·exact Rep.block_lt h1 b hb
  ·exact Rep.block_lt h2 b hb
 | .sl e u, _, _, _, h, b, hb => by
  obtain ⟨v, rfl, h⟩ := h
  rcases h with (⟨_, _, rfl⟩ | ⟨a, cap, c, t, fz, p, m, q, G, rfl, hs, he, hl, hh, hc, hp, hr, rfl, _⟩) | ⟨_, _, _, rfl, _⟩
  rotate_left 2
  ·cases hb
  ·cases hb
  ·rcases List.mem_cons.1 hb with rfl | hb
   ·exact lt_of_heap hh
   ·exact RepL.block_lt (fun h => Rep.block_lt h) hr b hb
section
variable {w' : World}
def NewRep (w' : World) (n : NR) : Prop := (∃ (e : Bool) (u : U) (l : List u.El), n.R = .arr e u l 0 ∧ u.plain = true ∧ SlRep w' true e u.sz (Rep w' true u) l (hdr n.r l.length) n.F) ∨
 ∃ (u : U) (t : Tr u.El), n.R = .tre u t ∧ u.plain = true ∧ u.flat = true ∧ Rep w' true (.pt u) t [.pointer n.r.1] n.F
theorem NewRep.no {n : NR} (h : NewRep w' n) {cs : List AV} (hR : n.R = .obj cs) : False := by
 rcases h with ⟨e, u, l, h, _⟩ | ⟨u, t, h, _⟩ <;> rw [hR] at h <;> cases h
structure Comes (N : List NR) (base top : Nat) (F : List Nat) (as : List AV) (vs : List Value) (w' : World) : Prop where
 fF : N.flatMap NR.F = F
 rg : ∀ n ∈ N, base ≤ n.id ∧ n.id < top
 nd : (N.map NR.id).Nodup
 ar : ∀ n ∈ N, NewRep w' n
 av : ∀ M : Mem, (∀ n ∈ N, M.r n.id = n.r ∧ M.h n.id = n.R) → AVRepL M as vs
 rf : ∀ j ∈ refsL as, base ≤ j ∧ j < top
theorem rooted_rep : ∀ {u : U} {x : u.El} {cs F} (base : Nat), u.plain = true → Rep w' true u x cs F → ∃ N, nrH N = (rooted u x base).2 ∧ Comes N base (base + u.az) F (rooted u x base).1 cs w' := by
 intro u
 induction u with
 | bool =>
  intro x cs F base _ h
  refine ⟨[], rfl, ⟨by simp [h.2], by simp, by simp, by simp, fun M _ => ?_, by simp [rooted, refsL, refs]⟩⟩
  simp only [rooted, AVRepL]; rw [h.1]; exact ⟨_, _, rfl, mk_bool, rfl⟩
 | int k =>
  intro x cs F base _ h
  refine ⟨[], rfl, ⟨by simp [h.2], by simp, by simp, by simp, fun M _ => ?_, by simp [rooted, refsL, refs]⟩⟩
  simp only [rooted, AVRepL]; rw [h.1]; exact ⟨_, _, rfl, mk_int, rfl⟩
 | str =>
  intro x cs F base _ h
  refine ⟨[], rfl, ⟨by simp [h.2], by simp, by simp, by simp, fun M _ => ?_, by simp [rooted, refsL, refs]⟩⟩
  simp only [rooted, AVRepL]; rw [h.1]; exact ⟨_, _, rfl, mk_str, rfl⟩
 | unit =>
  intro x cs F base _ h
  refine ⟨[], rfl, ⟨by simp [h.2], by simp, by simp, by simp, fun M _ => ?_, by simp [rooted, refsL]⟩⟩
  simp only [rooted, AVRepL]; exact h.1
 | oth =>
  intro x cs F base _ h
  refine ⟨[], rfl, ⟨by simp [h.1], by simp, by simp, by simp, fun M _ => ?_, by simp [rooted, refsL, refs]⟩⟩
  obtain ⟨_, v, rfl, hv⟩ := h
  simp only [rooted, AVRepL, AVRep]
  exact ⟨v, [], rfl, ⟨rfl, [v], [], rfl, ⟨rfl, v, rfl, hv⟩, by simp⟩, rfl⟩
 | bs u _ =>
  intro x cs F base hp h
  obtain ⟨rfl, v, rfl, ho⟩ := h
  refine ⟨[], rfl, ⟨by simp, by simp, by simp, by simp, fun M _ => ?_, by simp [rooted, refsL, refs]⟩⟩
  simp only [rooted, AVRepL]
  refine ⟨_, _, rfl, ?_, rfl⟩
  simp only [AVRep]
  exact ⟨hp, [v], [], by simp [valC, U.isAgg], ⟨rfl, v, rfl, ho⟩, by simp⟩
 | ar n u _ => intro x cs F base hp _; cases hp
 | pt u _ =>
  intro x cs F base hp h
  simp only [U.plain, Bool.and_eq_true] at hp
  have hr : ∃ r : Option Addr × Nat, cs = [.pointer r.1] := by
   cases x with
   | nil => exact ⟨(none, 0), (rep_pnil.1 h).1⟩
   | node y ks => obtain ⟨b, _, _, _, h1, _⟩ := (rep_pt hp.2).1 h; exact ⟨(some ⟨b, 0, none⟩, 0), h1⟩
  obtain ⟨r, rfl⟩ := hr
  refine ⟨[⟨base, .tre u x, r, F⟩], rfl, ⟨by simp, by simp [U.az], by simp, ?_, fun M hM => ?_, by simp [rooted, refsL, refs, U.az]⟩⟩
  ·intro n hn
   simp at hn; subst hn
   exact .inr ⟨u, x, rfl, hp.1, hp.2, h⟩
  ·obtain ⟨h1, h2⟩ := hM _ (List.mem_singleton.2 rfl)
   simp only [rooted, AVRepL]
   refine ⟨_, _, rfl, ?_, rfl⟩
   simp only [AVRep]
   intro _
   rw [h1]
 | tr u ihu =>
  intro x cs F base hp h
  have hp' := hp
  simp only [U.plain, Bool.and_eq_true] at hp
  obtain ⟨c, kv, rfl, h1, v, e, hk⟩ := tr_split hp.2 h
  obtain rfl : kv = v := by simpa using e
  have hk := hk.resolve_right bare_no
  have hr : ∃ r, kv = hdr r x.kids.length := by
   rcases hk with ⟨rfl, hn, _⟩ | ⟨a, cap, _, _, _, _, _, _, _, hv, _⟩
   ·exact ⟨(none, 0), rfl⟩
   ·exact ⟨(some a, cap), hv⟩
  obtain ⟨r, rfl⟩ := hr
  obtain ⟨N, hN, a1, a2, a3, a4, a5, a6⟩ := ihu base hp.1 h1
  refine ⟨N ++ [⟨base + u.az, .arr false (.tr u) x.kids 0, r, F⟩], ?_, ⟨by rw [List.flatMap_append, a1]; simp, ?_, ?_, ?_, ?_, ?_⟩⟩
  ·simp only [rooted]; rw [← hN]; simp [nrH]
  ·intro n hn
   rcases List.mem_append.1 hn with hn | hn
   ·have := a2 n hn; simp only [U.az]; omega
   ·simp at hn; subst hn; simp only [U.az]; omega
  ·rw [List.map_append, List.nodup_append]
   refine ⟨a3, by simp, fun i hi j hj e => ?_⟩
   obtain ⟨n, hn, rfl⟩ := List.mem_map.1 hi
   have := a2 n hn
   simp at hj
   omega
  ·intro n hn
   rcases List.mem_append.1 hn with hn | hn
   ·exact a4 n hn
   ·simp at hn; subst hn
    exact .inl ⟨false, .tr u, x.kids, rfl, hp', hk⟩
  ·intro M hM
   simp only [rooted]
   refine AVRepL.app (a5 M fun n hn => hM n (by simp [hn])) ?_
   obtain ⟨h1, h2⟩ := hM ⟨base + u.az, .arr false (.tr u) x.kids 0, r, F⟩ (by simp)
   simp only [AVRepL]
   refine ⟨_, _, rfl, ?_, rfl⟩
   simp only [AVRep]
   intro e2 u2 l2 g2 b2 hl
   simp only at h1 h2
   rw [h2] at hl
   cases hl
   exact ⟨.inl trivial, fun _ _ => ⟨false, .tr u, x.kids, _, rfl, rfl, by simp only [Win, h1]⟩⟩
  ·intro j hj
   simp only [rooted] at hj
   obtain ⟨c', hc, hj⟩ := refsL_mem.1 hj
   rcases List.mem_append.1 hc with hc | hc
   ·have := a6 j (refsL_mem.2 ⟨c', hc, hj⟩); simp only [U.az]; omega
   ·simp at hc; subst hc; simp [refs] at hj; simp only [U.az]; omega
 | sl e u _ =>
  intro x cs F base hp h
  obtain ⟨v, rfl, h⟩ := h
  have h := h.resolve_right bare_no
  have hr : ∃ r, v = hdr r x.length := by
   rcases h with ⟨rfl, _⟩ | ⟨a, cap, _, _, _, _, _, _, _, hv, _⟩
   ·exact ⟨(none, 0), rfl⟩
   ·exact ⟨(some a, cap), hv⟩
  obtain ⟨r, rfl⟩ := hr
  refine ⟨[⟨base, .arr e u x 0, r, F⟩], rfl, ⟨by simp, by simp [U.az], by simp, ?_, fun M hM => ?_, by simp [rooted, refsL, refs, U.az]⟩⟩
  ·intro n hn
   simp at hn; subst hn
   exact .inl ⟨e, u, x, rfl, hp, h⟩
  ·obtain ⟨h1, h2⟩ := hM _ (List.mem_singleton.2 rfl)
   simp only [rooted, AVRepL]
   refine ⟨_, _, rfl, ?_, rfl⟩
   simp only [AVRep]
   intro e2 u2 l2 g2 b2 hl
   simp only at h1 h2
   rw [h2] at hl
   cases hl
   exact ⟨.inl trivial, fun _ _ => ⟨e, u, x, _, rfl, rfl, by simp only [Win, h1]⟩⟩
 | pair p q ihp ihq =>
  intro x cs F base hp h
  obtain ⟨c, d, G, H, rfl, rfl, h1, h2⟩ := h
  simp only [U.plain, Bool.and_eq_true] at hp
  obtain ⟨N, hN, a1, a2, a3, a4, a5, a6⟩ := ihp base hp.1 h1
  obtain ⟨N', hN', b1, b2, b3, b4, b5, b6⟩ := ihq (base + p.az) hp.2 h2
  refine ⟨N ++ N', ?_, ⟨by rw [List.flatMap_append, a1, b1], ?_, ?_, ?_, ?_, ?_⟩⟩
  ·simp only [rooted]; rw [← hN, ← hN']; simp [nrH]
  ·intro n hn
   rcases List.mem_append.1 hn with hn | hn
   ·have := a2 n hn; simp only [U.az]; omega
   ·have := b2 n hn; simp only [U.az]; omega
  ·rw [List.map_append, List.nodup_append]
   refine ⟨a3, b3, fun i hi j hj e => ?_⟩
   obtain ⟨n, hn, rfl⟩ := List.mem_map.1 hi
   obtain ⟨m, hm, rfl⟩ := List.mem_map.1 hj
   have := a2 n hn
   have := b2 m hm
   omega
  ·intro n hn
   rcases List.mem_append.1 hn with hn | hn
   ·exact a4 n hn
   ·exact b4 n hn
  ·intro M hM
   simp only [rooted]
   exact AVRepL.app (a5 M fun n hn => hM n (by simp [hn])) (b5 M fun n hn => hM n (by simp [hn]))
  ·intro j hj
   simp only [rooted] at hj
   obtain ⟨c', hc, hj⟩ := refsL_mem.1 hj
   rcases List.mem_append.1 hc with hc | hc
   ·have := a6 j (refsL_mem.2 ⟨c', hc, hj⟩); simp only [U.az]; omega
   ·have := b6 j (refsL_mem.2 ⟨c', hc, hj⟩); simp only [U.az]; omega
theorem rooted_len : ∀ {u : U} {x : u.El} {base : Nat}, u.plain = true → (rooted u x base).1.length = u.az
 | .bool, _, _, _ => rfl | .int _, _, _, _ => rfl | .str, _, _, _ => rfl | .sl _ _, _, _, _ => rfl | .unit, _, _, _ => rfl | .oth, _, _, _ => rfl | .bs _, _, _, _ => rfl | .pt _, _, _, _ => rfl
 | .tr u, x, base, h => by
  simp only [U.plain, Bool.and_eq_true] at h
  simp only [rooted, List.length_append, rooted_len h.1, U.az]; rfl
 | .ar _ _, _, _, h => by cases h
 | .pair a b, x, base, h => by
  simp only [U.plain, Bool.and_eq_true] at h
  simp only [rooted, List.length_append, rooted_len h.1, rooted_len h.2, U.az]
theorem rootedL_rep : ∀ {ret : List TV} {vs F} (base : Nat), RetRep w' ret vs F → ∃ N, nrH N = (rootedL ret base).2 ∧ Comes N base (base + azL ret) F (rootedL ret base).1 vs w'
 | [], vs, F, base, h => by
  obtain ⟨rfl, rfl⟩ := h
  exact ⟨[], rfl, ⟨by simp, by simp, by simp, by simp, fun M _ => by simp [rootedL, AVRepL], by simp [rootedL, refsL]⟩⟩
 | ⟨u, x⟩ :: ret, vs, F, base, h => by
  obtain ⟨cs, vr, F1, F2, rfl, rfl, hp, h1, h2⟩ := h
  obtain ⟨N, hN, a1, a2, a3, a4, a5, a6⟩ := rooted_rep base hp h1
  obtain ⟨N', hN', b1, b2, b3, b4, b5, b6⟩ := rootedL_rep (base + u.az) h2
  refine ⟨N ++ N', ?_, ⟨by rw [List.flatMap_append, a1, b1], ?_, ?_, ?_, ?_, ?_⟩⟩
  ·simp only [rootedL]; rw [← hN, ← hN']; simp [nrH]
  ·intro n hn
   rcases List.mem_append.1 hn with hn | hn
   ·have := a2 n hn; simp only [azL]; omega
   ·have := b2 n hn; simp only [azL]; omega
  ·rw [List.map_append, List.nodup_append]
   refine ⟨a3, b3, fun i hi j hj e => ?_⟩
   obtain ⟨n, hn, rfl⟩ := List.mem_map.1 hi
   obtain ⟨m, hm, rfl⟩ := List.mem_map.1 hj
   have := a2 n hn
   have := b2 m hm
   omega
  ·intro n hn
   rcases List.mem_append.1 hn with hn | hn
   ·exact a4 n hn
   ·exact b4 n hn
  ·intro M hM
   simp only [rootedL, AVRepL]
   exact ⟨_, _, rfl, pack_rep hp (a5 M fun n hn => hM n (by simp [hn])) (rooted_len hp), b5 M fun n hn => hM n (by simp [hn])⟩
  ·intro j hj
   simp only [rootedL, refsL, List.mem_append] at hj
   rcases hj with hj | hj
   ·have := a6 j (refs_pack hj); simp only [azL]; omega
   ·have := b6 j hj; simp only [azL]; omega
end
theorem RetRep.indep {i j : Bor} {w : World} : ∀ {r : List TV} {vs : List Value} {F : List Nat}, nobsL r = true → @RetRep i w r vs F → @RetRep j w r vs F
 | [], _, _, _, h => h
 | ⟨u, x⟩ :: r, vs, F, hn, h => by
  simp only [nobsL, Bool.and_eq_true] at hn
  obtain ⟨cs, vr, F1, F2, h1, h2, h3, h4, h5⟩ := h
  exact ⟨cs, vr, F1, F2, h1, h2, h3, Rep.indep hn.1 h4, RetRep.indep hn.2 h5⟩
theorem nobsL_app {a b : List TV} (h : nobsL (a ++ b) = true) : nobsL a = true ∧ nobsL b = true := by
 induction a with
 | nil => exact ⟨rfl, h⟩
 | cons x a ih =>
  obtain ⟨u, x⟩ := x
  simp only [List.cons_append, nobsL, Bool.and_eq_true] at h ⊢
  exact ⟨⟨h.1, (ih h.2).1⟩, (ih h.2).2⟩
mutual
theorem OutRep.indep {i j : Bor} {w0 w : World} : ∀ {a : Arg} {v : Value} {o : List TV} {F : List Nat}, nobsL o = true → @OutRep i w0 w a v o F → @OutRep j w0 w a v o F
 | .v u x, v, o, F, hn, h => by simpa only [OutRep] using h
 | .g u x, v, o, F, hn, h => by simpa only [OutRep] using h
 | .q u x, v, o, F, hn, h => by simpa only [OutRep] using h
 | .me f m, v, o, F, hn, h => by simpa only [OutRep] using h
 | .p u x, v, o, F, hn, h => by
  simp only [OutRep] at h ⊢
  obtain ⟨y, b, c, t, G, rfl, h2, h3, h4, h5⟩ := h
  simp only [nobsL, Bool.and_eq_true] at hn
  exact ⟨y, b, c, t, G, rfl, h2, h3, Rep.indep hn.1 h4, h5⟩
 | .s e u x, v, o, F, hn, h => by
  simp only [OutRep] at h ⊢
  obtain ⟨y, rfl, h2, h3⟩ := h
  simp only [nobsL, Bool.and_eq_true] at hn
  have h4 : @Rep j w true (.sl e u) y [v] F := Rep.indep (i := i) hn.1 ⟨v, rfl, .inl h3⟩
  obtain ⟨v', hv, h5⟩ := h4
  cases hv
  exact ⟨y, rfl, h2, h5.resolve_right bare_no⟩
 | .fn f cs, v, o, F, hn, h => by
  simp only [OutRep] at h ⊢
  obtain ⟨g, vs, h1, h2⟩ := h
  exact ⟨g, vs, h1, OutsRep.indep hn h2⟩
 | .cf f cs, v, o, F, hn, h => by
  simp only [OutRep] at h ⊢
  obtain ⟨g, b, t, vs, h1, h2, h3⟩ := h
  exact ⟨g, b, t, vs, h1, h2, OutsRep.indep hn h3⟩
 | .ag cs, v, o, F, hn, h => by
  simp only [OutRep] at h ⊢
  obtain ⟨vs, h1, h2⟩ := h
  exact ⟨vs, h1, OutsRep.indep hn h2⟩
theorem OutsRep.indep {i j : Bor} {w0 w : World} : ∀ {as : List Arg} {vs : List Value} {o : List TV} {F : List Nat}, nobsL o = true → @OutsRep i w0 w as vs o F → @OutsRep j w0 w as vs o F
 | [], vs, o, F, hn, h => by simpa only [OutsRep] using h
 | a :: r, vs, o, F, hn, h => by
  simp only [OutsRep] at h ⊢
  obtain ⟨v, vr, o1, o2, F1, F2, h1, rfl, h3, h4, h5⟩ := h
  obtain ⟨n1, n2⟩ := nobsL_app hn
  exact ⟨v, vr, o1, o2, F1, F2, h1, rfl, h3, OutRep.indep n1 h4, OutsRep.indep n2 h5⟩
end
theorem RetB.indep {i j : Bor} {w : World} {p : Option (Nat × Bool)} {r : List TV} {vs : List Value} {F : List Nat} (hn : nobsL r = true) (h : @RetB i w p r vs F) : @RetB j w p r vs F := by
 cases p with
 | none => exact RetRep.indep (i := i) hn h
 | some p =>
  obtain ⟨t, b⟩ := p
  cases b with
  | true => exact h
  | false => exact RetRep.indep (i := i) hn h
@[reducible] def enl (β : Bor) (w : World) (L : List Nat) : Bor :=
 { Z := fun b => b < w.heap.size ∧ b ∉ L
   ok := fun u x v => β.ok u x v ∨ ∃ F, @Rep β w false (.sl false u) x [v] F ∧ ∀ b ∈ F, b < w.heap.size ∧ b ∉ L
   one := fun {u x v} h => h.elim β.one fun ⟨_, h, _⟩ => @Rep.sl_one β w false false u x v _ h
   nil := fun u => .inl (β.nil u) }
theorem enl_mor {β : Bor} {w : World} {L : List Nat} : @BMor β (enl β w L) := fun _ _ _ h => .inl h
theorem enl_glob {β : Bor} {w : World} {gl : List (Nat × TV)} {L : List Nat} (h : @GlobOK β gl w L) : @GlobOK (enl β w L) gl w L := by
 obtain ⟨h1, h2, h3, h6⟩ := h
 refine ⟨fun g u x hg => ImRow.mor (β := β) enl_mor (h1 g u x hg), ?_, fun b hb => hb, h6⟩
 rintro u x v (hb | ⟨F, hF, hZ⟩)
 ·obtain ⟨G, h4, h5⟩ := h2 u x v hb
  exact ⟨G, Rep.mor (β := β) enl_mor h4, fun b hb => h3 b (h5 b hb)⟩
 ·exact ⟨F, Rep.mor (β := β) enl_mor hF, hZ⟩
end Go.VM

namespace Go.VM
variable [Bor]
open Go.RowKit
theorem append_run {P : Program} {W : World} {t ty : TypeId} {e : Bool} {u : U} {l m : List u.El} {v : Value} {F : List Nat} (ht : TyOK P t (.sl e u)) (hdata : u.data = true) (hsl : SlRep W true e u.sz (Rep W true u) l v F) (hFn : F.Nodup)
  {dd : Addr} {cs : List Value} (hcr : RepL (Rep W true u) m cs []) (hcell : ∀ j w, cs[j]? = some w → W.cell? (dd.add j) = some w) (hm0 : m ≠ []) (hroom : l.length + m.length ≤ 1000000000) (xc : Nat) :
  ∃ v' W' F', (Builtin.append_ #[t, t] ty #[v, .slice (some dd) m.length xc]).run P W = .ok v' W' ∧ SlRep W' true e u.sz (Rep W' true u) (l ++ m) v' F' ∧ F'.Nodup ∧ W'.os = W.os ∧ W'.tape = W.tape ∧ W'.output = W.output ∧
   W.heap.size ≤ W'.heap.size ∧ (∀ b, b < W.heap.size → b ∉ F → W'.heap[b]? = W.heap[b]?) ∧ ∀ b ∈ F', b < W'.heap.size ∧ (b < W.heap.size → b ∈ F) := by
 obtain ⟨d, hd, hsh⟩ := ht.d
 obtain ⟨el, rfl, hel, _⟩ := hsh
 obtain ⟨i, z, hei, hsz, hby, hzz, hzc⟩ := hel.i
 have hpos := hel.pos
 have hclen := RepL.length (n := u.sz) (fun _ _ _ => Rep.length) hcr
 have hzl : z.cells.size = u.sz := by have := Rep.length (zero_Rep (w := W) hdata hzc); simpa using this
 have hmp : 0 < m.length := List.length_pos_iff.2 hm0
 have hone := RepL.one hcr
 have hcl : cs.length = m.length * i.size := by rw [hclen, hsz]
 have hby' : ∀ n, n ≤ 1000000000 → n * i.bytes ≤ 140737488355328 := fun n hn => by
  have : n * i.bytes ≤ 1000000000 * 140000 := Nat.mul_le_mul hn hby
  omega
 have hblt : ∀ b ∈ F, b < W.heap.size := fun b hb => Rep.block_lt (u := .sl e u) (cs := [v]) ⟨v, rfl, .inl hsl⟩ b hb
 rcases hsl with ⟨hv, rfl, rfl⟩ | ⟨b, cap, cc, ct, fz, pp, mc, q, G0, hv, hsp, he, hlc, hhp, hcc, hpl, hr, rfl, how⟩
 ·have hrun := run_append_nil (P := P) W t ty el i z hd hei hzz dd m.length xc cs hcl hcell hmp (by omega) (by have := hby' m.length (by simp at hroom; omega); omega)
  have hge := grownCap_ge W m.length 0 el
  refine ⟨_, W.drew.alloc (.cells (cs.toArray ++ Builtin.zeroCells z.cells (grownCap W m.length 0 el - m.length)) el), [W.heap.size], by rw [hv]; exact hrun, ?_, by simp, rfl, rfl, rfl, by rw [alloc_sz]; exact Nat.le_succ _, fun b hb _ => alloc_old W.drew _ hb, fun b hb => ?_⟩
  ·refine .inr ⟨⟨W.heap.size, 0, none⟩, grownCap W m.length 0 el, _, el, (0, 0), [], cs, (Builtin.zeroCells z.cells (grownCap W m.length 0 el - m.length)).toList, [], by simp, rfl, ?_, by simpa using hge, alloc_new W.drew _, by simp, rfl, ?_, rfl, fun _ => ⟨rfl, by simp, ?_, ?_⟩⟩
   ·intro _; simpa using hm0
   ·simp only [List.nil_append]
    exact RepL.imp (fun _ _ _ hG => Rep.frame (fun b hb => absurd (hG b hb) (by simp))) hcr
   ·simp only [Array.size_append, List.size_toArray, size_zeroCells, hclen, hzl, ← Nat.add_mul]
    congr 1; omega
   ·exact grownCap_le_maxLen W _ _ _ (by simp only [maxLen]; simp at hroom; omega)
  ·rw [List.mem_singleton] at hb
   subst hb
   rw [alloc_sz]
   exact ⟨Nat.lt_succ_self _, fun h => absurd h (Nat.lt_irrefl _)⟩
 ·obtain ⟨hoff, hfz, hcsz, hcm⟩ := how rfl
  have hmlen := RepL.length (n := u.sz) (fun _ _ _ => Rep.length) hr
  have hpp : pp = [] := List.eq_nil_of_length_eq_zero (by rw [hpl, hoff])
  subst hpp
  simp only [List.nil_append] at hcc
  have hbblk : b.block < W.heap.size := lt_of_heap hhp
  have hbG0 : b.block ∉ G0 := (List.nodup_cons.1 hFn).1
  by_cases hfit : l.length + m.length ≤ cap
  ·have hfit' : l.length * i.size + cs.length ≤ cc.size := by
    rw [hcl, hcsz, hsz, ← Nat.add_mul]
    exact Nat.mul_le_mul_right _ hfit
   have hrun := run_append_in (P := P) (W := W) (ty := ty) (c := xc) hd hei hsp hoff hhp hcl hcell hone (fun j hj => hfz j (by omega)) hfit hfit'
   have hspl : splice cc.toList (l.length * i.size) cs = mc ++ cs ++ q.drop cs.length := by
    rw [hcc]
    have h5 : l.length * i.size = mc.length := by rw [hmlen, hsz]
    rw [h5]
    refine take_app rfl ?_
    have : cc.toList.length = mc.length + q.length := by rw [hcc]; simp
    rw [Array.length_toList] at this
    omega
   have hoth : ∀ k, k ≠ b.block → (putB W b.block (.cells (splice cc.toList (l.length * i.size) cs).toArray ct fz)).heap[k]? = W.heap[k]? := fun k hk => putB_other hk
   refine ⟨_, putB W b.block (.cells (splice cc.toList (l.length * i.size) cs).toArray ct fz), b.block :: G0, by rw [hv]; exact hrun, ?_, hFn, rfl, rfl, rfl, by rw [putB_sz]; exact Nat.le_refl _, fun k hk hno => hoth k fun e => hno (by simp [e]), fun k hk => ⟨by rw [putB_sz]; exact hblt k hk, fun _ => hk⟩⟩
   refine .inr ⟨b, cap, _, ct, fz, [], mc ++ cs, q.drop cs.length, G0, by simp, hsp, ?_, by simpa using hfit, putB_same hbblk, by simpa using hspl, by simpa using hoff.symm, ?_, rfl, fun _ => ⟨hoff, ?_, ?_, hcm⟩⟩
   ·intro _ hn; simp at hn; exact hm0 hn.2
   ·have := RepL.append (RepL.imp (fun _ _ _ hG => Rep.frame (fun k hk => hoth k (fun e => hbG0 (e ▸ hG _ hk)))) hr) (RepL.imp (S := Rep (putB W b.block (.cells (splice cc.toList (l.length * i.size) cs).toArray ct fz)) true u) (fun _ _ _ hG => Rep.frame (fun k hk => absurd (hG k hk) (by simp))) hcr)
    simpa using this
   ·intro j hj
    refine hfz j ?_
    rw [List.size_toArray, splice_len (by rw [Array.length_toList]; omega), Array.length_toList] at hj
    exact hj
   ·rw [List.size_toArray, splice_len (by rw [Array.length_toList]; omega), Array.length_toList]; exact hcsz
  ·have hml : mc.length = l.length * i.size := by rw [hmlen, hsz]
   have hold : ∀ j v, mc[j]? = some v → W.cell? (b.add j) = some v := cells_at (p := []) hsp hhp (by simpa using hcc) (by simpa using hoff.symm)
   have hrun := run_append_grow (P := P) W t ty el i z hd hei hzz b l.length cap mc hml hold dd m.length xc cs hcl hcell (by omega) (by omega) (growslice_fits (by omega) (hby' _ hroom))
   have hge := grownCap_ge W (l.length + m.length) cap el
   refine ⟨_, W.drew.alloc (.cells (mc.toArray ++ cs.toArray ++ Builtin.zeroCells z.cells (grownCap W (l.length + m.length) cap el - (l.length + m.length))) el), W.heap.size :: G0, by rw [hv]; exact hrun, ?_, ?_, rfl, rfl, rfl, by rw [alloc_sz]; exact Nat.le_succ _, fun k hk _ => alloc_old W.drew _ hk, fun k hk => ?_⟩
   ·refine .inr ⟨⟨W.heap.size, 0, none⟩, grownCap W (l.length + m.length) cap el, _, el, (0, 0), [], mc ++ cs, (Builtin.zeroCells z.cells (grownCap W (l.length + m.length) cap el - (l.length + m.length))).toList, G0, by simp, rfl, ?_, by simpa using hge, alloc_new W.drew _, by simp, rfl, ?_, rfl, fun _ => ⟨rfl, by simp, ?_, ?_⟩⟩
    ·intro _ hn; simp at hn; exact hm0 hn.2
    ·have h1 := RepL.imp (R := Rep W true u) (S := Rep (W.drew.alloc (.cells (mc.toArray ++ cs.toArray ++ Builtin.zeroCells z.cells (grownCap W (l.length + m.length) cap el - (l.length + m.length))) el)) true u) (fun x c G hG h => Rep.frame (w := W) (fun k hk => alloc_old W.drew _ (hblt k (List.mem_cons_of_mem _ (hG k hk)))) h) hr
     have h2 := RepL.imp (R := Rep W true u) (S := Rep (W.drew.alloc (.cells (mc.toArray ++ cs.toArray ++ Builtin.zeroCells z.cells (grownCap W (l.length + m.length) cap el - (l.length + m.length))) el)) true u) (fun x c G hG h => Rep.frame (w := W) (fun k hk => absurd (hG k hk) (by simp)) h) hcr
     have := RepL.append h1 h2
     simpa using this
    ·simp only [Array.size_append, List.size_toArray, size_zeroCells, hclen, hzl, hmlen, ← Nat.add_mul]
     congr 1; omega
    ·exact grownCap_le_maxLen W _ _ _ (by simp only [maxLen]; omega)
   ·refine List.nodup_cons.2 ⟨fun hb => ?_, (List.nodup_cons.1 hFn).2⟩
    exact Nat.lt_irrefl _ (hblt _ (by simp [hb]))
   ·rw [alloc_sz]
    rcases List.mem_cons.1 hk with rfl | hk
    ·exact ⟨Nat.lt_succ_self _, fun h => absurd h (Nat.lt_irrefl _)⟩
    ·exact ⟨Nat.lt_succ_of_lt (hblt k (by simp [hk])), fun _ => by simp [hk]⟩
end Go.VM

-- What this claim needs of the print's words, left by a program of this session (wip/prune.py).
namespace Go.VM
section
variable {P : Program} {ops : Array Oper} {Q : Exit → Act → World → Prop} {md : Region.Mode} {S : World → Prop} {ds : List Nat}
def Region.reachB (md : Region.Mode) (ops : Array Oper) (i : Nat) : Nat → Nat → Bool
 | 0, _ => false
 | fuel + 1, d => match ops[d]? with
  | some o => o.after.any fun e => Region.binds md e && (e.on == i || Region.reachB md ops i fuel e.on)
  | none => false
def Region.closedB (md : Region.Mode) (ops : Array Oper) (listed : Array Bool) : Bool :=
 (List.range ops.size).all fun j => !listed.getD j false || match ops[j]? with
  | some o => o.after.all fun e => !Region.binds md e || listed.getD e.on false
  | none => true
def Region.lastB (md : Region.Mode) (ops : Array Oper) (listed : Array Bool) (ds : List Nat) (i : Nat) : Bool :=
 ds.all fun d => listed.getD d true || Region.reachB md ops i ops.size d
def ListedClosed (md : Region.Mode) (ops : Array Oper) (listed : Array Bool) : Prop :=
 ∀ j oj, ops[j]? = some oj → listed.getD j false = true → ∀ e ∈ oj.after, Region.binds md e = true → listed.getD e.on false = true
theorem Region.closedB_spec {listed : Array Bool} (h : Region.closedB md ops listed = true) : ListedClosed md ops listed := by
 intro j oj hj hl e he hb
 have hlt : j < ops.size := (Array.getElem?_eq_some_iff.1 hj).1
 have h1 := List.all_eq_true.1 h j (List.mem_range.2 hlt)
 simp only [hl, hj, Bool.not_true, Bool.false_or] at h1
 have h2 := Array.all_eq_true_iff_forall_mem.1 h1 e he
 simpa [hb] using h2
theorem ListedClosed.set {listed : Array Bool} {i : Nat} (h : ListedClosed md ops listed) (hi : i ∈ Region.ready md ops listed) : ListedClosed md ops (listed.setIfInBounds i true) := by
 obtain ⟨_, oi, hoi, hall⟩ := mem_ready.1 hi
 intro j oj hj hl e he hb
 by_cases hij : i = j
 ·subst hij
  have : oj = oi := Option.some.inj (hj.symm.trans hoi)
  subst this
  exact getD_set_true (hall e he hb)
 ·rw [getD_set_ne false hij] at hl
  exact getD_set_true (h j oj hj hl e he hb)
theorem Region.reach_listed {listed : Array Bool} {i : Nat} (hc : ListedClosed md ops listed) : ∀ (fuel d : Nat), Region.reachB md ops i fuel d = true → listed.getD d false = true → listed.getD i false = true
 | 0, _, h, _ => by simp [Region.reachB] at h
 | fuel + 1, d, h, hl => by
  unfold Region.reachB at h
  cases ho : ops[d]? with
  | none => rw [ho] at h; simp at h
  | some o =>
   rw [ho] at h
   obtain ⟨e, he, h1⟩ := Array.any_eq_true'.1 h
   simp only [Bool.and_eq_true, Bool.or_eq_true, beq_iff_eq] at h1
   have hle := hc d o ho hl e he h1.1
   rcases h1.2 with h2 | h2
   ·rw [← h2]; exact hle
   ·exact Region.reach_listed hc fuel e.on h2 hle
theorem Region.reach_not_ready {listed : Array Bool} {i d fuel : Nat} (hc : ListedClosed md ops listed) (hr : Region.reachB md ops i fuel d = true) (hun : listed.getD i true = false) : d ∉ Region.ready md ops listed := by
 intro hd
 obtain ⟨_, o, ho, hall⟩ := mem_ready.1 hd
 have hi : listed.getD i false = true := by
  cases fuel with
  | zero => simp [Region.reachB] at hr
  | succ n =>
   unfold Region.reachB at hr
   rw [ho] at hr
   obtain ⟨e, he, h1⟩ := Array.any_eq_true'.1 hr
   simp only [Bool.and_eq_true, Bool.or_eq_true, beq_iff_eq] at h1
   have hle := hall e he h1.1
   rcases h1.2 with h2 | h2
   ·rw [← h2]; exact hle
   ·exact Region.reach_listed hc n e.on h2 hle
 rcases Nat.lt_or_ge i listed.size with h' | h'
 ·simp [h'] at hun hi
  rw [hun] at hi
  cases hi
 ·simp [Array.getElem?_eq_none h'] at hun
def wpAnyLast (P : Program) (md : Region.Mode) (ops : Array Oper) (Q : Exit → Act → World → Prop) (S : World → Prop) (ds : List Nat) : Nat → Array Bool → Act → World → Prop
 | 0, listed, a, w => Region.ready md ops listed = [] ∧ Q .normal a w
 | fuel + 1, listed, a, w =>
  (Region.ready md ops listed = [] → Q .normal a w) ∧
  ∀ i ∈ Region.ready md ops listed, wpOp P ops Q i (fun a' w' => (i ∉ ds → S w → S w') ∧ wpAnyLast P md ops Q S ds fuel (listed.setIfInBounds i true) a' w') a w
theorem wpAny_of_last : ∀ (fuel : Nat) (listed : Array Bool) (a : Act) (w : World), wpAnyLast P md ops Q S ds fuel listed a w → wpAny P md ops Q fuel listed a w
 | 0, _, _, _, h => h
 | fuel + 1, _, _, _, h => ⟨h.1, fun i hi => wpOp_mono (fun a' w' h' => wpAny_of_last fuel _ a' w' h'.2) (h.2 i hi)⟩
theorem wpAnyLast_first {i : Nat} {oi : Oper} {v : Value} (hi : ops[i]? = some oi) (hsel : ∀ (j : Nat) (o : Oper) cs b, ops[j]? = some o → o.op ≠ .select cs b)
  (hQ : ∀ c a w, Q (.panic c) (a.put oi.dst v) w → Q (.panic c) a w) (n : Nat) :
  ∀ (fuel : Nat) (listed : Array Bool) (a : Act) (w : World),
   (∀ j oj, ops[j]? = some oj → j ≠ i → listed.getD j true = false → (∀ e ∈ oj.after, Region.binds md e = true → e.on ≠ i) → oi.apart ops oj = true) →
   ListedClosed md ops listed → (∀ d ∈ ds, listed.getD d true = false → Region.reachB md ops i n d = true) →
   i ∈ Region.ready md ops listed → YieldsIf P ops S oi v a → S w →
   wpAnyLast P md ops Q S ds fuel (listed.setIfInBounds i true) (a.put oi.dst v) w → wpAnyLast P md ops Q S ds (fuel + 1) listed a w := by
 intro fuel
 induction fuel with
 | zero =>
  intro listed a w _ _ _ hr hy hS H
  refine ⟨fun h => (by rw [h] at hr; cases hr), fun j hj => ?_⟩
  by_cases hji : j = i
  ·subst hji; exact hy.wpOp hi hS ⟨fun _ h => h, H⟩
  ·have := ready_mono hj hji
   rw [H.1] at this
   cases this
 | succ fuel ih =>
  intro listed a w hfree hc hd hr hy hS H
  refine ⟨fun h => (by rw [h] at hr; cases hr), fun j hj => ?_⟩
  by_cases hji : j = i
  ·subst hji; exact hy.wpOp hi hS ⟨fun _ h => h, H⟩
  ·have h1 := H.2 j (ready_mono hj hji)
   obtain ⟨hjun, oj, hoj, hall⟩ := mem_ready.1 hj
   have hiun := (mem_ready.1 hr).1
   have hnot : ∀ e ∈ oj.after, Region.binds md e = true → e.on ≠ i := fun e he hb heq => by
    have h1 := hall e he hb
    rw [heq] at h1
    rcases Nat.lt_or_ge i listed.size with h' | h'
    ·simp [h'] at hiun h1; rw [hiun] at h1; cases h1
    ·simp [Array.getElem?_eq_none h'] at h1
   have hjd : j ∉ ds := fun hm => Region.reach_not_ready hc (hd j hm hjun) hiun hj
   have h2 := wpOp_putIf hoj (hfree j oj hoj hji hjun hnot) (fun cs b => hsel i oi cs b hi) (fun cs b => hsel j oj cs b hoj) hQ hy h1
   have hfree' : ∀ k ok, ops[k]? = some ok → k ≠ i → (listed.setIfInBounds j true).getD k true = false →
     (∀ e ∈ ok.after, Region.binds md e = true → e.on ≠ i) → oi.apart ops ok = true := fun k ok hk hki hun hno => by
    refine hfree k ok hk hki ?_ hno
    by_cases hjk : j = k
    ·subst hjk; exact hjun
    ·rw [getD_set_ne true hjk] at hun; exact hun
   have hd' : ∀ d ∈ ds, (listed.setIfInBounds j true).getD d true = false → Region.reachB md ops i n d = true := fun d hm hun => by
    refine hd d hm ?_
    by_cases hjk : j = d
    ·subst hjk; exact hjun
    ·rw [getD_set_ne true hjk] at hun; exact hun
   refine wpOp_mono (fun a' w' h3 => ⟨h3.2.1, ih (listed.setIfInBounds j true) a' w' hfree' (hc.set hj) hd' (ready_mono hr (Ne.symm hji)) h3.1 (h3.2.1 hjd hS) ?_⟩) h2
   rw [Array.setIfInBounds_comm _ _ hji]
   exact h3.2.2
theorem wpAnyLast_any {i : Nat} {oi : Oper} {v : Value} (hi : ops[i]? = some oi) (hsel : ∀ (j : Nat) (o : Oper) cs b, ops[j]? = some o → o.op ≠ .select cs b)
  (hQ : ∀ c a w, Q (.panic c) (a.put oi.dst v) w → Q (.panic c) a w) :
  ∀ (fuel : Nat) (listed : Array Bool) (a : Act) (w : World),
   (∀ j oj, ops[j]? = some oj → j ≠ i → listed.getD j true = false → (∀ e ∈ oj.after, Region.binds md e = true → e.on ≠ i) → oi.apart ops oj = true) →
   i ∈ Region.ready md ops listed → Yields P ops oi v a →
   wpAnyLast P md ops Q S ds fuel (listed.setIfInBounds i true) (a.put oi.dst v) w → wpAnyLast P md ops Q S ds (fuel + 1) listed a w := by
 intro fuel
 induction fuel with
 | zero =>
  intro listed a w _ hr hy H
  refine ⟨fun h => (by rw [h] at hr; cases hr), fun j hj => ?_⟩
  by_cases hji : j = i
  ·subst hji; exact (hy.yieldsIf (S := fun _ => True)).wpOp hi trivial ⟨fun _ h => h, H⟩
  ·have := ready_mono hj hji
   rw [H.1] at this
   cases this
 | succ fuel ih =>
  intro listed a w hfree hr hy H
  refine ⟨fun h => (by rw [h] at hr; cases hr), fun j hj => ?_⟩
  by_cases hji : j = i
  ·subst hji; exact (hy.yieldsIf (S := fun _ => True)).wpOp hi trivial ⟨fun _ h => h, H⟩
  ·have h1 := H.2 j (ready_mono hj hji)
   obtain ⟨hjun, oj, hoj, hall⟩ := mem_ready.1 hj
   have hiun := (mem_ready.1 hr).1
   have hnot : ∀ e ∈ oj.after, Region.binds md e = true → e.on ≠ i := fun e he hb heq => by
    have h1 := hall e he hb
    rw [heq] at h1
    rcases Nat.lt_or_ge i listed.size with h' | h'
    ·simp [h'] at hiun h1; rw [hiun] at h1; cases h1
    ·simp [Array.getElem?_eq_none h'] at h1
   have h2 := wpOp_put hoj (hfree j oj hoj hji hjun hnot) (fun cs b => hsel i oi cs b hi) (fun cs b => hsel j oj cs b hoj) hQ hy h1
   have hfree' : ∀ k ok, ops[k]? = some ok → k ≠ i → (listed.setIfInBounds j true).getD k true = false →
     (∀ e ∈ ok.after, Region.binds md e = true → e.on ≠ i) → oi.apart ops ok = true := fun k ok hk hki hun hno => by
    refine hfree k ok hk hki ?_ hno
    by_cases hjk : j = k
    ·subst hjk; exact hjun
    ·rw [getD_set_ne true hjk] at hun; exact hun
   refine wpOp_mono (fun a' w' h3 => ⟨h3.2.1, ih (listed.setIfInBounds j true) a' w' hfree' (ready_mono hr (Ne.symm hji)) h3.1 ?_⟩) h2
   rw [Array.setIfInBounds_comm _ _ hji]
   exact h3.2.2
theorem wpAnyLast_take {i : Nat} {oi : Oper} {v : Value} {fuel : Nat} {listed : Array Bool} {a : Act} {w : World} (hi : ops[i]? = some oi)
  (hs : Region.noSelect ops = true) (hf : Region.free md ops listed i = true) (hr : (Region.ready md ops listed).contains i = true)
  (hc : Region.closedB md ops listed = true) (hl : Region.lastB md ops listed ds i = true)
  (hQ : ∀ c a w, Q (.panic c) (a.put oi.dst v) w → Q (.panic c) a w) (hy : YieldsIf P ops S oi v a) (hS : S w)
  (h : wpAnyLast P md ops Q S ds fuel (listed.setIfInBounds i true) (a.put oi.dst v) w) : wpAnyLast P md ops Q S ds (fuel + 1) listed a w :=
 wpAnyLast_first hi (Region.noSelect_spec hs) hQ ops.size fuel listed a w (Region.free_spec hi hf) (Region.closedB_spec hc)
  (fun d hm hun => by have := List.all_eq_true.1 hl d hm; rw [hun] at this; simpa using this) (by simpa using hr) hy hS h
theorem wpAnyLast_all {rs : List Nat} {fuel : Nat} {listed : Array Bool} {a : Act} {w : World} (hr : Region.ready md ops listed = rs) (hne : rs ≠ [])
  (h : ∀ i ∈ rs, wpOp P ops Q i (fun a' w' => (i ∉ ds → S w → S w') ∧ wpAnyLast P md ops Q S ds fuel (listed.setIfInBounds i true) a' w') a w) : wpAnyLast P md ops Q S ds (fuel + 1) listed a w :=
 ⟨fun h0 => absurd (hr ▸ h0) hne, hr ▸ h⟩
theorem wpAnyLast_done {listed : Array Bool} {a : Act} {w : World} (hr : Region.ready md ops listed = []) (h : Q .normal a w) :
  ∀ fuel, wpAnyLast P md ops Q S ds fuel listed a w
 | 0 => ⟨hr, h⟩
 | _ + 1 => ⟨fun _ => h, by rw [hr]; simp⟩
theorem wp_region_last {id : Nat} {a : Act} {w : World} (hm : P.follows .mixedOrders = true)
  (h : wpAnyLast P .any ops Q S ds ops.size (Array.replicate ops.size false) a { w with drawn := w.drawn + 1 }) : (Code.region id ops true).wp P Q a w :=
 wp_region_any hm (wpAny_of_last _ _ _ _ h)
end
section
variable {P : Program} {ops : Array Oper} {Q : Exit → Act → World → Prop} {md : Region.Mode} {S : World → Prop} {ds : List Nat}
def AllReadyL (P : Program) (md : Region.Mode) (ops : Array Oper) (Q : Exit → Act → World → Prop) (S : World → Prop) (ds : List Nat) (fuel : Nat) (listed : Array Bool) (a : Act) (w : World) (rs : List Nat) : Prop :=
 ∀ i ∈ rs, wpOp P ops Q i (fun a' w' => (i ∉ ds → S w → S w') ∧ wpAnyLast P md ops Q S ds fuel (listed.setIfInBounds i true) a' w') a w
theorem AllReadyL.nil {fuel : Nat} {listed : Array Bool} {a : Act} {w : World} : AllReadyL P md ops Q S ds fuel listed a w [] := fun _ h => by cases h
theorem AllReadyL.cons {fuel : Nat} {listed : Array Bool} {a : Act} {w : World} {i : Nat} {o : Oper} {rs : List Nat} (ho : ops[i]? = some o) (hd : i ∉ ds)
  (h : ∀ K' : Act → World → Prop, Shut (∀ a w, S w → (S w → wpAnyLast P md ops Q S ds fuel (listed.setIfInBounds i true) a w) → K' a w) → if Region.wanted o (yielded ops a.tmps) = true then Oper.wp P o a w K' Q else K' (a.put o.dst undef) w)
  (hs : AllReadyL P md ops Q S ds fuel listed a w rs) : AllReadyL P md ops Q S ds fuel listed a w (i :: rs) := fun j hj => by
 rcases List.mem_cons.1 hj with rfl | hj
 ·exact wpOp_step ho (fun K' hK => h K' (fun a w hS hW => hK a w ⟨fun _ _ => hS, hW hS⟩))
 ·exact hs j hj
theorem AllReadyL.cons_last {fuel : Nat} {listed : Array Bool} {a : Act} {w : World} {i : Nat} {o : Oper} {rs : List Nat} (ho : ops[i]? = some o) (hd : i ∈ ds)
  (h : ∀ K' : Act → World → Prop, Shut (∀ a w, wpAnyLast P md ops Q S ds fuel (listed.setIfInBounds i true) a w → K' a w) → if Region.wanted o (yielded ops a.tmps) = true then Oper.wp P o a w K' Q else K' (a.put o.dst undef) w)
  (hs : AllReadyL P md ops Q S ds fuel listed a w rs) : AllReadyL P md ops Q S ds fuel listed a w (i :: rs) := fun j hj => by
 rcases List.mem_cons.1 hj with rfl | hj
 ·exact wpOp_step ho (fun K' hK => h K' (fun a w hW => hK a w ⟨fun hn => absurd hd hn, hW⟩))
 ·exact hs j hj
theorem wpAnyLast_ready {rs : List Nat} {fuel : Nat} {listed : Array Bool} {a : Act} {w : World} (hr : Region.ready md ops listed = rs) (hne : rs ≠ [])
  (h : AllReadyL P md ops Q S ds fuel listed a w rs) : wpAnyLast P md ops Q S ds (fuel + 1) listed a w := wpAnyLast_all hr hne h
theorem start_ {id n : Nat} {a : Act} {w : World} (l : Array Bool) (hm : P.follows .mixedOrders = true) (hn : ops.size = n) (hl : Array.replicate n false = l) (hS : S w.drew)
  (h : S w.drew → wpAnyLast P .any ops Q S ds n l a w.drew) : (Code.region id ops true).wp P Q a w := by
 subst hn
 subst hl
 exact wp_region_last hm (h hS)
def takeB (md : Region.Mode) (ops : Array Oper) (ds : List Nat) (l l' : Array Bool) (i : Nat) : Bool :=
 Region.noSelect ops && Region.free md ops l i && (Region.ready md ops l).contains i && Region.closedB md ops l && Region.lastB md ops l ds i && (l.setIfInBounds i true == l')
theorem take_ {i : Nat} {N : Option Tmp} {oi : Oper} {v : Value} {fuel : Nat} {l : Array Bool} {a : Act} {w : World} (l' : Array Bool) (hi : ops[i]? = some oi) (hN : oi.dst = N) (hc : takeB md ops ds l l' i = true)
  (hQ : ∀ c a w, Q (.panic c) (a.put oi.dst v) w → Q (.panic c) a w) (hy : YieldsIf P ops S oi v a) (hS : S w) {a' : Act} (ha : a.put N v = a')
  (h : wpAnyLast P md ops Q S ds fuel l' a' w) : wpAnyLast P md ops Q S ds (fuel + 1) l a w := by
 subst ha
 subst hN
 simp only [takeB, Bool.and_eq_true, beq_iff_eq] at hc
 obtain ⟨⟨⟨⟨⟨h1, h2⟩, h3⟩, h4⟩, h5⟩, h6⟩ := hc
 subst h6
 exact wpAnyLast_take hi h1 h2 h3 h4 h5 hQ hy hS h
def anyB (md : Region.Mode) (ops : Array Oper) (l l' : Array Bool) (i : Nat) : Bool :=
 Region.noSelect ops && Region.free md ops l i && (Region.ready md ops l).contains i && (l.setIfInBounds i true == l')
theorem pure_ {i : Nat} {N : Option Tmp} {oi : Oper} {v : Value} {fuel : Nat} {l : Array Bool} {a : Act} {w : World} (l' : Array Bool) (hi : ops[i]? = some oi) (hN : oi.dst = N) (hc : anyB md ops l l' i = true)
  (hQ : ∀ c a w, Q (.panic c) (a.put oi.dst v) w → Q (.panic c) a w) (hy : Yields P ops oi v a) {a' : Act} (ha : a.put N v = a')
  (h : wpAnyLast P md ops Q S ds fuel l' a' w) : wpAnyLast P md ops Q S ds (fuel + 1) l a w := by
 subst ha
 subst hN
 simp only [anyB, Bool.and_eq_true, beq_iff_eq] at hc
 obtain ⟨⟨⟨h1, h2⟩, h3⟩, h6⟩ := hc
 subst h6
 exact wpAnyLast_any hi (Region.noSelect_spec h1) hQ fuel l a w (Region.free_spec hi h2) (by simpa using h3) hy h
def readyB (md : Region.Mode) (ops : Array Oper) (l l' : Array Bool) (i : Nat) : Bool := (Region.ready md ops l == [i]) && (l.setIfInBounds i true == l')
theorem one_ {i : Nat} {N : Option Tmp} {oi : Oper} {fuel : Nat} {l : Array Bool} {a : Act} {w : World} (l' : Array Bool) (hi : ops[i]? = some oi) (hN : oi.dst = N) (hc : readyB md ops l l' i = true) (hd : i ∉ ds)
  (h : ∀ K : Act → World → Prop, Shut (∀ a' w', S w' → (S w' → wpAnyLast P md ops Q S ds fuel l' a' w') → K a' w') → if Region.wanted oi (yielded ops a.tmps) = true then Oper.wp P oi a w K Q else K (a.put N undef) w) :
  wpAnyLast P md ops Q S ds (fuel + 1) l a w := by
 subst hN
 simp only [readyB, Bool.and_eq_true, beq_iff_eq] at hc
 obtain ⟨h1, h2⟩ := hc
 subst h2
 exact wpAnyLast_ready h1 (by simp) (AllReadyL.cons hi hd (fun K hK => h K hK) AllReadyL.nil)
theorem last_ {i : Nat} {N : Option Tmp} {oi : Oper} {fuel : Nat} {l : Array Bool} {a : Act} {w : World} (l' : Array Bool) (hi : ops[i]? = some oi) (hN : oi.dst = N) (hc : readyB md ops l l' i = true) (hd : i ∈ ds)
  (h : ∀ K : Act → World → Prop, Shut (∀ a' w', wpAnyLast P md ops Q S ds fuel l' a' w' → K a' w') → if Region.wanted oi (yielded ops a.tmps) = true then Oper.wp P oi a w K Q else K (a.put N undef) w) :
  wpAnyLast P md ops Q S ds (fuel + 1) l a w := by
 subst hN
 simp only [readyB, Bool.and_eq_true, beq_iff_eq] at hc
 obtain ⟨h1, h2⟩ := hc
 subst h2
 exact wpAnyLast_ready h1 (by simp) (AllReadyL.cons_last hi hd (fun K hK => h K hK) AllReadyL.nil)
theorem done_ {l : Array Bool} {a : Act} {w : World} {n : Nat} (hr : (Region.ready md ops l == []) = true) (h : Q .normal a w) : wpAnyLast P md ops Q S ds n l a w := wpAnyLast_done (by simpa using hr) h n
theorem norm_ {fuel : Nat} {l : Array Bool} {a a' : Act} {w : World} (ha : a = a') (h : wpAnyLast P md ops Q S ds fuel l a' w) : wpAnyLast P md ops Q S ds fuel l a w := by
 subst ha
 exact h
theorem i64_w (n : Int) : IntKind.i64.wrap n = Go.RowKit.wrap64 n := by unfold Go.RowKit.wrap64; exact IntKind.wrap_i64 n
theorem i32_w (n : Int) : IntKind.i32.wrap n = Go.RowKit.wrap32 n := by unfold Go.RowKit.wrap32; exact IntKind.wrap_i32 n
end
end Go.VM


namespace Go.VM
variable [β : Bor]
open Go.RowKit
theorem setAt_sl {u' : U} {e' : Bool} {u : U} {x : u.El} {k : Nat} {y y2 : u.El} {m : List u'.El} (h : setAt (.sl e' u') m u x k = some y) (h2 : setAt (.sl e' u') m u x k = some y2) : y = y2 := by
 rw [h] at h2; exact Option.some.inj h2
theorem take_rep {X : Cx} {M : Mem} {t : List (Nat × AV)} {used : Nat → Prop} {own : Nat → Option Nat} {a : Act} {h : Hp} (hi : Inv X M t used own a) (hh : ∀ id, lkH h id ≠ .dead → M.h id = lkH h id) {w : U} {c : AV} {v : Value} {id g i k : Nat} {e : Bool} {u : U} {l : List u.El} {w' : U} {x : w.El}
  (ht : takeP h w c = some (id, g, i, k, ⟨e, u, l⟩, w', x)) (hv : AVRep M c v) :
  id ∈ refs c ∧ w.plain = true ∧ w.isAgg = false ∧ M.h id = .arr e u l g ∧ ∃ F1 F2, Rep M.w true w x [v] F2 ∧ F2.Nodup ∧ F1.Nodup ∧ (∀ b ∈ F1, b ∉ F2) ∧ (∀ b ∈ F1, own b = some id) ∧ (∀ b ∈ F2, own b = some id) ∧ HolRep M.w e u l i k w' (hdr (M.r id) l.length) F1 := by
 unfold takeP at ht
 split at ht
 case h_2 => cases ht
 case h_1 ew uw id0 i0 c0 gg =>
  split at ht
  case h_2 => cases ht
  case h_1 e0 u0 l0 g0 hl =>
   obtain ⟨hc, ht⟩ := sw_some ht
   simp only [Bool.and_eq_true, Nat.beq_eq] at hc
   obtain ⟨⟨rfl, hup⟩, huw⟩ := hc
   split at ht
   case h_2 => cases ht
   case h_1 e' u' l' hat =>
    obtain ⟨hel, ht⟩ := sw_some ht
    split at ht
    case h_2 => cases ht
    case h_1 x0 hx0 =>
     obtain ⟨rfl, rfl⟩ := castL_some hx0
     cases ht
     have hM : M.h id = .arr e u l g := by rw [hh id (by rw [hl]; simp), hl]
     obtain ⟨_, F, hs, hnd, hown⟩ := hi.arr hM
     simp only [AVRep] at hv
     obtain ⟨_, hv⟩ := rowOld hv hM
     obtain ⟨e2, u2, l2, v', hat2, hhd, hwin⟩ := hv (by simp [okG])
     simp only [Win] at hwin
     subst hwin
     simp only [atP, hat, Option.some.injEq] at hat2
     cases hat2
     refine ⟨by simp [refs], huw, rfl, hM, ?_⟩
     simp only [hdrAt] at hhd
     rcases hs with ⟨hn', _⟩ | ⟨ad, cap, cc, ty, fz, pp, mc, q, G, hv', hsp, he, hlc, hw, hcc, hpl, hr, rfl, how⟩
     ·rw [hn'] at hhd; simp at hhd
     rw [hv'] at hhd
     simp only at hhd
     split at hhd
     case isFalse => cases hhd
     case isTrue hil =>
     obtain ⟨hoff, hfz, hcsz, hcm⟩ := how rfl
     obtain ⟨c1, c2, c3, G1, G2, G3, rfl, rfl, hl1, hxr, htk, hdr', _⟩ := RepL.at (n := u.sz) (fun _ _ _ => Rep.length) u.dflt i hr hil
     obtain ⟨hpl', d1, vv, d3, H1, H2, H3, rfl, hd1, rfl, hsl, hset⟩ := slAt_rep hup hxr hat
     obtain rfl : pp = [] := List.eq_nil_of_length_eq_zero (by rw [hpl, hoff])
     -- the cell
     have hcell : M.w.cell? (ad.add (i * u.sz + k)) = some vv := by
      have hh2 : M.w.heap[(ad.add (i * u.sz + k)).block]? = some (.cells cc ty fz) := by rw [Addr.add_block]; exact hw
      have hsp2 := Addr.add_spot hsp (i * u.sz + k)
      simp only [World.cell?, hh2, hsp2, Option.isSome_none, Bool.false_eq_true, if_false, Addr.add_off, hoff, Nat.zero_add]
      rw [← Array.getElem?_toList, hcc]
      have e : [] ++ (c1 ++ (d1 ++ vv :: d3) ++ c3) ++ q = (c1 ++ d1) ++ vv :: (d3 ++ c3 ++ q) := by simp
      rw [e, List.getElem?_append_right (by rw [List.length_append]; omega)]
      rw [show i * u.sz + k - (c1 ++ d1).length = 0 by rw [List.length_append]; omega]
      rfl
     rw [hcell] at hhd
     simp only [hat] at hhd
     have hvv : v = vv := by simpa [hdrAt] using hhd.symm
     subst hvv
     have hsl : SlRep M.w true e' u'.sz (Rep M.w true u') l' v H2 := hsl.resolve_right (fun h => bare_no h)
     have hn2 : (ad.block :: (G1 ++ (H1 ++ H2 ++ H3) ++ G3)).Nodup := hnd
     have hG : ∀ b ∈ G1 ++ (H1 ++ H2 ++ H3) ++ G3, b ≠ ad.block := fun b hb e => (List.nodup_cons.1 hn2).1 (e ▸ hb)
     have hn3 := (List.nodup_cons.1 hn2).2
     have hp : List.Perm (G1 ++ (H1 ++ H2 ++ H3) ++ G3) ((G1 ++ (H1 ++ (H3 ++ G3))) ++ H2) := by
      have e1 : G1 ++ (H1 ++ H2 ++ H3) ++ G3 = (G1 ++ H1) ++ (H2 ++ (H3 ++ G3)) := by simp
      have e2 : (G1 ++ (H1 ++ (H3 ++ G3))) ++ H2 = (G1 ++ H1) ++ ((H3 ++ G3) ++ H2) := by simp
      rw [e1, e2]
      exact List.Perm.append_left _ List.perm_append_comm
     have hn4 := hp.nodup_iff.1 hn3
     obtain ⟨n1, n2, n3⟩ := List.nodup_append.1 hn4
     refine ⟨ad.block :: (G1 ++ (H1 ++ (H3 ++ G3))), H2, ⟨v, rfl, .inl (SlRep.loose hsl hel)⟩, n2, List.nodup_cons.2 ⟨fun hb => hG _ (hp.mem_iff.2 (List.mem_append_left _ hb)) rfl, n1⟩, ?_, ?_, ?_, ?_⟩
     ·intro b hb hb2
      rcases List.mem_cons.1 hb with rfl | hb
      ·exact hG _ (hp.mem_iff.2 (List.mem_append_right _ hb2)) rfl
      ·exact n3 b hb b hb2 rfl
     ·intro b hb
      refine hown b ?_
      rcases List.mem_cons.1 hb with rfl | hb
      ·exact List.mem_cons_self ..
      ·exact List.mem_cons_of_mem _ (hp.mem_iff.2 (List.mem_append_left _ hb))
     ·intro b hb
      exact hown b (List.mem_cons_of_mem _ (hp.mem_iff.2 (List.mem_append_right _ hb)))
     ·refine ⟨hup, huw, hil, ad, cap, cc, ty, fz, G1 ++ (H1 ++ (H3 ++ G3)), c1 ++ d1, [v], d3 ++ c3 ++ q, hv', hsp, hoff, hlc, hw, hfz, hcsz, hcm, rfl, by rw [hcc]; simp, by rw [List.length_append]; omega, rfl, ?_⟩
      intro W y d H x' hW hy hset'
      obtain ⟨vy, rfl, hy⟩ := hy
      have hy : SlRep W true e' u'.sz (Rep W true u') y vy H := hy.resolve_right (fun h => bare_no h)
      have hW1 : ∀ b ∈ H1, W.heap[b]? = M.w.heap[b]? := fun b hb => hW b (by simp [hb])
      have hW3 : ∀ b ∈ H3, W.heap[b]? = M.w.heap[b]? := fun b hb => hW b (by simp [hb])
      obtain ⟨y2, hy2, hry⟩ := hset W true y vy H hW1 hW3 (fun h => h) hy
      obtain rfl := setAt_sl hset' hy2
      refine ⟨c1 ++ (d1 ++ vy :: d3) ++ c3, q, G1 ++ ((H1 ++ H ++ H3) ++ G3), by simp, ?_, ?_, ?_⟩
      ·have ht' : RepL (Rep W true u) (l.take i) c1 G1 := RepL.imp (fun _ _ _ hGm => Rep.frame (fun b hb => hW b (by simp [hGm b hb]))) htk
       have hd' : RepL (Rep W true u) (l.drop (i + 1)) c3 G3 := RepL.imp (fun _ _ _ hGm => Rep.frame (fun b hb => hW b (by simp [hGm b hb]))) hdr'
       have := RepL.append ht' (m := x' :: l.drop (i + 1)) (ds := (d1 ++ vy :: d3) ++ c3) (G := (H1 ++ H ++ H3) ++ G3) ⟨_, _, _, _, rfl, rfl, hry, hd'⟩
       rw [List.set_eq_take_append_cons_drop, if_pos hil]
       simpa using this
      ·intro b hb
       simp only [List.mem_append] at hb ⊢
       rcases hb with hb | ((hb | hb) | hb) | hb <;> simp [hb]
      ·intro hnn
       have : List.Perm ((G1 ++ (H1 ++ (H3 ++ G3))) ++ H) (G1 ++ ((H1 ++ H ++ H3) ++ G3)) := by
        have e1 : G1 ++ ((H1 ++ H ++ H3) ++ G3) = (G1 ++ H1) ++ (H ++ (H3 ++ G3)) := by simp
        have e2 : (G1 ++ (H1 ++ (H3 ++ G3))) ++ H = (G1 ++ H1) ++ ((H3 ++ G3) ++ H) := by simp
        rw [e1, e2]
        exact List.Perm.append_left _ List.perm_append_comm
       exact this.nodup_iff.1 hnn
end Go.VM

namespace Go.VM
variable [β : Bor]
open Go.RowKit
def LentRep (M : Mem) (w' : World) : List Lent → List TV → List Nat → Prop
 | [], o, F => o = [] ∧ F = []
 | .p id u :: lt, o, F => ∃ y r b c t G F2, o = ⟨u, y⟩ :: r ∧ u.plain = true ∧ (∃ cs, M.h id = .obj cs) ∧ (M.r id).1 = some ⟨b, 0, none⟩ ∧ w'.heap[b]? = some (.cells c t (0, 0)) ∧ Rep w' true u y c.toList G ∧ F = (b :: G) ++ F2 ∧ LentRep M w' lt r F2
 | .s id p g :: lt, o, F => ∃ e u y r F1 F2, o = ⟨.sl e u, y⟩ :: r ∧ u.plain = true ∧ (∃ l : List u.El, M.h id = .arr e u l g ∧ y.length = l.length) ∧ SlRep w' true e u.sz (Rep w' true u) y (hdr (M.r id) y.length) F1 ∧ F = F1 ++ F2 ∧ LentRep M w' lt r F2
 | .sp id p g e0 u0 l0 :: lt, o, F => ∃ e u y r m F1 F2, o = ⟨.sl e u, y⟩ :: r ∧ u0.plain = true ∧ M.h id = .arr e0 u0 l0 g ∧ modP u (fun _ => y) e0 u0 l0 p = some m ∧ m.length = l0.length ∧ SlRep w' true e0 u0.sz (Rep w' true u0) m (hdr (M.r id) m.length) F1 ∧ F = F1 ++ F2 ∧ LentRep M w' lt r F2
 | .ho id g i c e0 u0 l0 w :: lt, o, F => ∃ F1 F2, M.h id = .arr e0 u0 l0 g ∧ HolRep w' e0 u0 l0 i c w (hdr (M.r id) l0.length) F1 ∧ F = F1 ++ F2 ∧ LentRep M w' lt o F2
def lentId : Lent → Nat | .p id _ | .s id _ _ | .sp id _ _ _ _ _ | .ho id _ _ _ _ _ _ _ => id
section
variable {X : Cx} {M : Mem} {t : List (Nat × AV)} {used : Nat → Prop} {own : Nat → Option Nat} {a : Act} {h : Hp}
theorem LentRep.app {M : Mem} {w' : World} : ∀ {lt1 lt2 : List Lent} {o1 o2 : List TV} {F1 F2 : List Nat}, LentRep M w' lt1 o1 F1 → LentRep M w' lt2 o2 F2 → LentRep M w' (lt1 ++ lt2) (o1 ++ o2) (F1 ++ F2)
 | [], lt2, o1, o2, F1, F2, h1, h2 => by
  simp only [LentRep] at h1
  obtain ⟨rfl, rfl⟩ := h1
  exact h2
 | .p id u :: lt1, lt2, o1, o2, F1, F2, h1, h2 => by
  simp only [LentRep] at h1
  obtain ⟨y, r, b, c, t, G, F3, rfl, a1, a2, a3, a4, a5, rfl, h1⟩ := h1
  simp only [List.cons_append, LentRep]
  exact ⟨y, r ++ o2, b, c, t, G, F3 ++ F2, rfl, a1, a2, a3, a4, a5, by simp, h1.app h2⟩
 | .s id p g :: lt1, lt2, o1, o2, F1, F2, h1, h2 => by
  simp only [LentRep] at h1
  obtain ⟨e, u, y, r, F3, F4, rfl, a1, a2, a3, rfl, h1⟩ := h1
  simp only [List.cons_append, LentRep]
  exact ⟨e, u, y, r ++ o2, F3, F4 ++ F2, rfl, a1, a2, a3, by simp, h1.app h2⟩
 | .sp id p g e0 u0 l0 :: lt1, lt2, o1, o2, F1, F2, h1, h2 => by
  simp only [LentRep] at h1
  obtain ⟨e, u, y, r, m, F3, F4, rfl, a1, a2, a3, a4, a5, rfl, h1⟩ := h1
  simp only [List.cons_append, LentRep]
  exact ⟨e, u, y, r ++ o2, m, F3, F4 ++ F2, rfl, a1, a2, a3, a4, a5, by simp, h1.app h2⟩
 | .ho id g i c e0 u0 l0 w :: lt1, lt2, o1, o2, F1, F2, h1, h2 => by
  simp only [LentRep] at h1
  obtain ⟨F3, F4, a1, a2, rfl, h1⟩ := h1
  simp only [List.cons_append, LentRep]
  exact ⟨F3, F4 ++ F2, a1, a2, by simp, h1.app h2⟩
def Rest (M : Mem) (own : Nat → Option Nat) (T L O : List Nat) (w' : World) : Prop := ∀ b id, own b = some id → id ∈ T → b ∉ L → b ∉ O ∧ w'.heap[b]? = M.w.heap[b]?
def BackOK (M : Mem) (own : Nat → Option Nat) (T L : List Nat) (lt : List Lent) (w' : World) (o : List TV) (O : List Nat) : Prop :=
 ∃ O', LentRep M w' lt o O' ∧ (∀ b ∈ O', b ∈ O ∨ b ∉ L ∧ ∃ id ∈ T, own b = some id) ∧ (O.Nodup → O'.Nodup)
def Gives (M : Mem) (own : Nat → Option Nat) (T L : List Nat) (lt : List Lent) (as : List Arg) (vs : List Value) : Prop :=
 T.Nodup → ∀ w' o O, Rest M own T L O w' → OutsRep M.w w' as vs o O → BackOK M own T L lt w' o O
theorem BackOK.nil {M : Mem} {own : Nat → Option Nat} {T L : List Nat} {w' : World} : BackOK M own T L [] w' [] [] :=
 ⟨[], by unfold LentRep; exact ⟨rfl, rfl⟩, by simp, fun h => h⟩
theorem BackOK.same {M : Mem} {own : Nat → Option Nat} {T L O : List Nat} {lt : List Lent} {w' : World} {o : List TV} (h : LentRep M w' lt o O) : BackOK M own T L lt w' o O :=
 ⟨O, h, fun b hb => .inl hb, fun h => h⟩
theorem Gives.cons {M : Mem} {own : Nat → Option Nat} {T1 T2 L1 L2 : List Nat} {lt1 lt2 : List Lent} {a : Arg} {v : Value} {as : List Arg} {vs : List Value}
  (h1 : ∀ b ∈ L1, ∃ id ∈ T1, own b = some id) (h2 : ∀ b ∈ L2, ∃ id ∈ T2, own b = some id)
  (k1 : T1.Nodup → ∀ w' o O, Rest M own T1 L1 O w' → OutRep M.w w' a v o O → BackOK M own T1 L1 lt1 w' o O) (k2 : Gives M own T2 L2 lt2 as vs) :
  Gives M own (T1 ++ T2) (L1 ++ L2) (lt1 ++ lt2) (a :: as) (v :: vs) := by
 intro hn w' o O hr ho
 obtain ⟨n1, n2, n3⟩ := List.nodup_append.1 hn
 simp only [OutsRep] at ho
 obtain ⟨v1, vr1, o1, o2, O1, O2, e1, rfl, rfl, h3, h4⟩ := ho
 cases e1
 have x1 : ∀ {b id}, own b = some id → id ∈ T1 → b ∉ L1 → b ∉ L1 ++ L2 := by
  intro b id e hi hb hm
  rcases List.mem_append.1 hm with hm | hm
  ·exact hb hm
  ·obtain ⟨k, hk, e'⟩ := h2 b hm
   rw [e] at e'; cases e'
   exact n3 id hi id hk rfl
 have x2 : ∀ {b id}, own b = some id → id ∈ T2 → b ∉ L2 → b ∉ L1 ++ L2 := by
  intro b id e hi hb hm
  rcases List.mem_append.1 hm with hm | hm
  ·obtain ⟨k, hk, e'⟩ := h1 b hm
   rw [e] at e'; cases e'
   exact n3 id hk id hi rfl
  ·exact hb hm
 have r1 : Rest M own T1 L1 O1 w' := fun b id e hi hb => by
  obtain ⟨a1, a2⟩ := hr b id e (List.mem_append_left _ hi) (x1 e hi hb)
  exact ⟨fun h => a1 (List.mem_append_left _ h), a2⟩
 have r2 : Rest M own T2 L2 O2 w' := fun b id e hi hb => by
  obtain ⟨a1, a2⟩ := hr b id e (List.mem_append_right _ hi) (x2 e hi hb)
  exact ⟨fun h => a1 (List.mem_append_right _ h), a2⟩
 obtain ⟨P1, p1, p2, p3⟩ := k1 n1 w' o1 O1 r1 h3
 obtain ⟨P2, q1, q2, q3⟩ := k2 n2 w' o2 O2 r2 h4
 refine ⟨P1 ++ P2, p1.app q1, ?_, ?_⟩
 ·intro b hb
  rcases List.mem_append.1 hb with hb | hb
  ·rcases p2 b hb with h | ⟨h, id, hi, e⟩
   ·exact .inl (List.mem_append_left _ h)
   ·exact .inr ⟨x1 e hi h, id, List.mem_append_left _ hi, e⟩
  ·rcases q2 b hb with h | ⟨h, id, hi, e⟩
   ·exact .inl (List.mem_append_right _ h)
   ·exact .inr ⟨x2 e hi h, id, List.mem_append_right _ hi, e⟩
 ·intro hO
  obtain ⟨o1', o2', o3'⟩ := List.nodup_append.1 hO
  rw [List.nodup_append]
  refine ⟨p3 o1', q3 o2', fun b hb c hc e => ?_⟩
  subst e
  rcases p2 b hb with h | ⟨h, id, hi, e⟩ <;> rcases q2 b hc with h' | ⟨h', id', hi', e'⟩
  ·exact o3' b h b h' rfl
  ·exact (hr b id' e' (List.mem_append_right _ hi') (x2 e' hi' h')).1 (List.mem_append_left _ h)
  ·exact (hr b id e (List.mem_append_left _ hi) (x1 e hi h)).1 (List.mem_append_right _ h')
  ·rw [e] at e'; cases e'
   exact n3 id hi id hi' rfl
def Opens (M : Mem) (own : Nat → Option Nat) (seen : List Nat) (p : Bor → Prop) : Prop := ∃ S0, (∀ b ∈ S0, Sees M own seen b) ∧ ∀ B' : Bor, @BMor β B' → (bwId ∈ seen → @BExt β M.w S0 B') → p B'
theorem Opens.plain {M : Mem} {own : Nat → Option Nat} {a : Arg} {v : Value} {S L : List Nat} (h : @ArgRep β M.w a v S L) : Opens M own [] fun B' => @ArgRep B' M.w a v S L := ⟨[], by simp, fun B' hm _ => ArgRep.mor (β := β) hm h⟩
theorem Opens.cons {M : Mem} {own : Nat → Option Nat} {a : Arg} {v : Value} {as : List Arg} {vr : List Value} {S1 S L1 L s1 sn sa : List Nat} (h1 : Opens M own s1 fun B' => @ArgRep B' M.w a v S1 L1) (r1 : Opens M own sn fun B' => @ArgsRep B' M.w as vr S L) (e1 : ∀ k ∈ s1, k ∈ sa) (e2 : ∀ k ∈ sn, k ∈ sa) :
  Opens M own sa fun B' => @ArgsRep B' M.w (a :: as) (v :: vr) (S1 ++ S) (L1 ++ L) := by
 obtain ⟨A0, a1, a2⟩ := h1
 obtain ⟨C0, c1, c2⟩ := r1
 refine ⟨A0 ++ C0, fun b hb => ?_, fun B' hm he => ?_⟩
 ·exact (List.mem_append.1 hb).elim (fun h => (a1 b h).mono e1) fun h => (c1 b h).mono e2
 ·unfold ArgsRep
  exact ⟨v, vr, S1, S, L1, L, rfl, rfl, rfl, a2 B' hm (fun hb => (he (e1 _ hb)).sub (β := β) fun b hb => List.mem_append_left _ hb), c2 B' hm (fun hb => (he (e2 _ hb)).sub (β := β) fun b hb => List.mem_append_right _ hb)⟩
def ArgsGood (M : Mem) (own : Nat → Option Nat) (used : Nat → Prop) (A : Args) (vs : List Value) : Prop :=
 ∃ S L, Opens M own A.seen (fun B' => @ArgsRep B' M.w A.as vs S L) ∧ (A.taken.Nodup → L.Nodup) ∧ (∀ b ∈ L, ∃ id ∈ A.taken, own b = some id) ∧ (∀ b ∈ S, Sees M own A.seen b) ∧ (∀ k ∈ A.taken, used k) ∧
   (∀ l ∈ A.lent, lentId l ∈ A.taken) ∧ (A.taken.Nodup → (A.lent.map lentId).Nodup) ∧ Gives M own A.taken L A.lent A.as vs
theorem argsG_rep {fnc : Nat → List AV → Option Args} (hfnc : ∀ f cs A ws, fnc f cs = some A → AVRepL M cs ws → ArgsGood M own used A ws) (hi : Inv X M t used own a) (hh : ∀ id, lkH h id ≠ .dead → M.h id = lkH h id) : ∀ {as : List (U × AV)} {md : List Md} {A : Args} {vs : List Value}, argsG fnc h as md = some A → AVRepL M (as.map (·.2)) vs → ArgsGood M own used A vs
 | [], md, A, vs, ha, hv => by
  simp only [argsG, Option.some.injEq] at ha
  subst ha
  simp only [List.map_nil, AVRepL] at hv
  subst hv
  refine ⟨[], [], ⟨[], by simp, fun B' _ _ => by unfold ArgsRep; exact ⟨rfl, rfl, rfl⟩⟩, fun _ => List.nodup_nil, by simp, by simp, by simp, by simp, by simp, ?_⟩
  intro _ w' o O _ h
  simp only [OutsRep] at h
  obtain ⟨rfl, rfl⟩ := h
  exact BackOK.nil
 | (u, c) :: as, md, A, vs, ha, hv => by
  simp only [List.map_cons, AVRepL] at hv
  obtain ⟨v, vr, rfl, h1, h2⟩ := hv
  simp only [argsG] at ha
  cases hr : argsG fnc h as md.tail with
  | none => rw [hr] at ha; cases ha
  | some B =>
   obtain ⟨bs, lt, tk, sn⟩ := B
   rw [hr] at ha
   simp only at ha
   obtain ⟨S, L, r1, r2, r3, r4, r5, r6, r7, r8⟩ := argsG_rep hfnc hi hh hr h2
   simp only at r1 r2 r3 r4 r5 r6 r7 r8
   -- looked at
   have look : ∀ (w : U) (x : w.El), (sw (w.plain && fitsU w c) (asmV h w c) none) = some x → A = ⟨.v w x :: bs, lt, tk, refs c ++ sn⟩ →
     ∃ S L, Opens M own A.seen (fun B' => @ArgsRep B' M.w A.as (v :: vr) S L) ∧ (A.taken.Nodup → L.Nodup) ∧ (∀ b ∈ L, ∃ id ∈ A.taken, own b = some id) ∧ (∀ b ∈ S, Sees M own A.seen b) ∧ (∀ k ∈ A.taken, used k) ∧
      (∀ l ∈ A.lent, lentId l ∈ A.taken) ∧ (A.taken.Nodup → (A.lent.map lentId).Nodup) ∧ Gives M own A.taken L A.lent A.as (v :: vr) := by
    intro w x hx hA
    obtain ⟨hc, hx⟩ := sw_some hx
    simp only [Bool.and_eq_true] at hc
    obtain ⟨cs, F, hval, hrep, hF⟩ := asmV_rep hi hh hc.1 hc.2 hx h1
    subst hA
    refine ⟨F ++ S, L, ?_, r2, r3, ?_, r5, r6, r7, ?_⟩
    ·exact Opens.cons (S1 := F) (L1 := []) (Opens.plain (by unfold ArgRep; exact ⟨hc.1, ⟨cs, hval, hrep⟩, rfl⟩)) r1 (by simp) (fun k hk => by simp [hk])
    ·intro b hb
     rcases List.mem_append.1 hb with hb | hb
     ·exact (hF b hb).mono (fun i hi => by simp [hi])
     ·exact (r4 b hb).mono (fun i hi => by simp [hi])
    ·exact Gives.cons (T1 := []) (L1 := []) (lt1 := []) (by simp) r3 (fun _ w' o O _ h3 => by
      simp only [OutRep] at h3
      obtain ⟨rfl, rfl⟩ := h3
      exact BackOK.nil) r8
   split at ha
   ·split at ha
    ·rename_i x hx
     simp only [Option.some.injEq] at ha
     exact look u x hx ha.symm
    ·cases ha
   ·rename_i w _
    split at ha
    ·rename_i x hx
     simp only [Option.some.injEq] at ha
     exact look w x hx ha.symm
    ·cases ha
   ·-- borrowed
    rename_i w _
    split at ha
    case h_2 => cases ha
    case h_1 x hx =>
     simp only [Option.some.injEq] at ha
     subst ha
     obtain ⟨hc, hx⟩ := sw_some hx
     simp only [Bool.and_eq_true] at hc
     split at hx
     case h_2 => cases hx
     case h_1 y hy =>
      simp only [Option.some.injEq] at hx
      subst hx
      obtain ⟨vs, hvr, hval⟩ := fits_val hc.1 hc.2 h1
      obtain ⟨c1, v1, v2, F, S0, hcc, rfl, hr2, hlen, hF, hS0, hrep⟩ := asmB_rep hi hh hc.1 hy hvr
      simp only [AVRepL] at hr2
      subst hr2
      rw [List.append_nil] at hcc
      have up : ∀ {b}, Sees M own (refsL c1) b → Sees M own (bwId :: refs c) b := fun h => h.mono fun i hi => List.mem_cons_of_mem _ (refs_unpack (by rw [hcc]; exact hi))
      refine ⟨F ++ S, L, ?_, r2, r3, ?_, r5, r6, r7, ?_⟩
      ·exact Opens.cons (S1 := F) (L1 := []) (s1 := bwId :: refs c) ⟨S0, fun b hb => up (hS0 b hb), fun B' hm he => by unfold ArgRep; exact ⟨hc.1, ⟨v1, hval v1 hlen (by simp), hrep B' hm (he (by simp))⟩, rfl⟩⟩ r1 (fun k hk => List.mem_append_left _ hk) (fun k hk => List.mem_append_right _ hk)
      ·intro b hb
       rcases List.mem_append.1 hb with hb | hb
       ·exact (up (hF b hb)).mono (fun i hi => List.mem_append_left _ hi)
       ·exact (r4 b hb).mono (fun i hi => List.mem_append_right _ hi)
      ·exact Gives.cons (T1 := []) (L1 := []) (lt1 := []) (by simp) r3 (fun _ w' o O _ h3 => by
        simp only [OutRep] at h3
        obtain ⟨rfl, rfl⟩ := h3
        exact BackOK.nil) r8
   ·-- a pointer
    rename_i w _
    split at ha
    case h_2 => cases ha
    case h_1 id =>
     split at ha
     case h_2 => cases ha
     case h_1 cs hl =>
      split at ha
      case h_2 => cases ha
      case h_1 x ks hx =>
       obtain ⟨hc, hx⟩ := sw_some hx
       simp only [Bool.and_eq_true] at hc
       obtain ⟨⟨hwp, hca⟩, hcl⟩ := hc
       simp only [Option.some.injEq] at ha
       subst ha
       have hM : M.h id = .obj cs := by rw [hh id (by rw [hl]; simp), hl]
       have hrt := hi.rt id
       rw [hM] at hrt
       obtain ⟨b, cc, ty, hb, hw, hcs, hob⟩ := hrt
       simp only [AVRep] at h1
       obtain ⟨ad, had, hv⟩ := h1 (by rw [hM]; simp)
       rw [hb] at had
       cases had
       rw [Addr.add_zero] at hv
       obtain ⟨F, hF1, hF2, hF3, ⟨_, hF4, hF5⟩, hF6⟩ := asmOV_rep hi hh hwp hx (vs := cc.toList) (by simpa [unpack] using hcs)
       have hidk : id ∉ ks → True := fun _ => trivial
       refine ⟨S, (b :: F) ++ L, ?_, ?_, ?_, r4, ?_, ?_, ?_, ?_⟩
       ·exact Opens.cons (S1 := []) (L1 := b :: F) (Opens.plain (by unfold ArgRep; exact ⟨hwp, rfl, b, cc, ty, F, hv, hw, hF1, rfl⟩)) r1 (by simp) (fun k hk => by simp [hk])
       ·intro hn
        simp only [List.nodup_cons, List.nodup_append, List.mem_append, not_or] at hn
        obtain ⟨⟨hn1, hn2⟩, hn3, hn4, hn5⟩ := hn
        rw [List.nodup_append, List.nodup_cons]
        refine ⟨⟨fun hbF => ?_, hF2⟩, r2 hn4, fun p hp q hq e => ?_⟩
        ·obtain ⟨k, hk, e⟩ := hF4 b hbF
         rw [hob] at e; cases e
         exact hn1 hk
        ·subst e
         obtain ⟨k, hk, e⟩ := r3 p hq
         rcases List.mem_cons.1 hp with rfl | hp
         ·rw [hob] at e; cases e
          exact hn2 hk
         ·obtain ⟨k', hk', e'⟩ := hF4 p hp
          rw [e] at e'; cases e'
          exact hn5 k hk' k hk rfl
       ·intro p hp
        rcases List.mem_append.1 hp with hp | hp
        ·rcases List.mem_cons.1 hp with rfl | hp
         ·exact ⟨id, by simp, hob⟩
         ·obtain ⟨k, hk, e⟩ := hF4 p hp; exact ⟨k, by simp [hk], e⟩
        ·obtain ⟨k, hk, e⟩ := r3 p hp; exact ⟨k, by simp [hk], e⟩
       ·intro k hk
        simp only [List.mem_cons, List.mem_append] at hk
        rcases hk with rfl | hk | hk
        ·exact hi.ud _ (by rw [hM]; simp)
        ·exact hi.ud _ (hF5 k hk)
        ·exact r5 k hk
       ·intro l hl'
        rcases List.mem_cons.1 hl' with rfl | hl'
        ·simp [lentId]
        ·have := r6 l hl'; simp [this]
       ·intro hn
        simp only [List.nodup_cons, List.nodup_append, List.mem_append, not_or] at hn
        obtain ⟨⟨hn1, hn2⟩, hn3, hn4, hn5⟩ := hn
        simp only [List.map_cons, lentId, List.nodup_cons]
        refine ⟨fun hm => ?_, r7 hn4⟩
        obtain ⟨l, hl1, hl2⟩ := List.mem_map.1 hm
        exact hn2 (hl2 ▸ r6 l hl1)
       ·refine Gives.cons (T1 := id :: ks) (L1 := b :: F) (lt1 := [.p id w]) ?_ r3 (fun _ w' o O _ h3 => ?_) r8
        ·intro p hp
         rcases List.mem_cons.1 hp with rfl | hp
         ·exact ⟨id, by simp, hob⟩
         ·obtain ⟨k, hk, e⟩ := hF4 p hp; exact ⟨k, by simp [hk], e⟩
        ·simp only [OutRep] at h3
         obtain ⟨y, b', c', t', G', rfl, e2, h5, h6, rfl⟩ := h3
         rw [hv] at e2
         cases e2
         refine BackOK.same ?_
         simp only [LentRep]
         exact ⟨y, [], b, c', t', G', [], rfl, hwp, ⟨cs, hM⟩, hb, h5, h6, by simp, rfl, rfl⟩
   ·-- a pointer to look through
    rename_i w _
    have fin : ∀ (x : w.El) (se : List Nat) (S1 : List Nat), A = ⟨.q w x :: bs, lt, tk, se ++ sn⟩ → ArgRep M.w (.q w x) v S1 [] → (∀ b ∈ S1, Sees M own se b) → ArgsGood M own used A (v :: vr) := by
     intro x se S1 hA h3 h4
     subst hA
     refine ⟨S1 ++ S, L, ?_, r2, r3, ?_, r5, r6, r7, ?_⟩
     ·exact Opens.cons (S1 := S1) (L1 := []) (Opens.plain (h3)) r1 (by simp) (fun k hk => by simp [hk])
     ·intro b hb
      rcases List.mem_append.1 hb with hb | hb
      ·exact (h4 b hb).mono (fun i hi => by simp [hi])
      ·exact (r4 b hb).mono (fun i hi => by simp [hi])
     ·exact Gives.cons (T1 := []) (L1 := []) (lt1 := []) (by simp) r3 (fun _ w' o O _ h3 => by
       simp only [OutRep] at h3
       obtain ⟨rfl, rfl⟩ := h3
       exact BackOK.nil) r8
    split at ha
    case h_3 => cases ha
    case h_1 id =>
     split at ha
     case h_3 => cases ha
     case h_2 u x hl =>
      split at ha
      case h_2 => cases ha
      case h_1 l2 hl2 =>
       obtain ⟨hwp, hl2⟩ := sw_some hl2
       obtain ⟨rfl, rfl⟩ := castL_some hl2
       simp only [Option.some.injEq] at ha
       have hM : M.h id = .imm u x := by rw [hh id (by rw [hl]; simp), hl]
       have hrt := hi.rt id
       rw [hM] at hrt
       obtain ⟨ad, hb, c, ty, fz, p, m, q, G, g1, g2, g3, g4, g5, g6, g7⟩ := hrt
       simp only [AVRep] at h1
       obtain ⟨ad', had, hv⟩ := h1 (by rw [hM]; simp)
       rw [hb] at had
       cases had
       rw [Addr.add_zero] at hv
       have hz : ∀ b, M.Z b → M.w.heap[b]? = M.w0.heap[b]? := hi.zf
       have hlt : ∀ b, M.Z b → b < M.w.heap.size := fun b hb => by have := hi.zb b hb; have := hi.sz; omega
       refine fin x [] (ad.block :: G) (by rw [← ha]; rfl) ?_ ?_
       ·unfold ArgRep
        refine ⟨hwp, rfl, ?_, ad, hv, c, ty, fz, p, m, q, G, g1, by rw [hz _ g6]; exact g2, g3, g4, ?_, by simp, fun k hk => by simp [hk]⟩
        ·intro k hk
         rcases List.mem_cons.1 hk with rfl | hk
         ·exact hlt _ g6
         ·exact hlt _ (g7 k hk)
        ·exact RepL.imp (fun _ _ _ hG => Rep.frame (fun b hm => hz b (g7 b (hG b hm)))) g5
       ·intro k hk
        left
        rcases List.mem_cons.1 hk with rfl | hk
        ·exact g6
        ·exact g7 k hk
     case h_1 cs hl =>
      split at ha
      case h_2 => cases ha
      case h_1 x hx =>
       obtain ⟨hwp, hx⟩ := sw_some hx
       simp only [Option.some.injEq] at ha
       have hM : M.h id = .obj cs := by rw [hh id (by rw [hl]; simp), hl]
       have hrt := hi.rt id
       rw [hM] at hrt
       obtain ⟨b, cc, ty, hb, hw, hcs, hob⟩ := hrt
       simp only [AVRep] at h1
       obtain ⟨ad, had, hv⟩ := h1 (by rw [hM]; simp)
       rw [hb] at had
       cases had
       rw [Addr.add_zero] at hv
       obtain ⟨c1, v1, v2, F, e1, e2, h3, h4, h5⟩ := asm_rep hi hh hwp hx hcs
       simp only [AVRepL] at h3
       subst h3
       rw [List.append_nil] at e1 e2
       subst e1
       refine fin x (id :: refsL cs) (b :: F) (by rw [← ha]; simp) ?_ ?_
       ·unfold ArgRep
        refine ⟨hwp, rfl, ?_, ⟨b, 0, none⟩, hv, cc, ty, (0, 0), [], cc.toList, [], F, rfl, hw, by simp, rfl, ⟨cc.toList, [], F, [], by simp, by simp, by rw [e2]; exact h4, rfl, rfl⟩, by simp, fun k hk => by simp [hk]⟩
        intro k hk
        rcases List.mem_cons.1 hk with rfl | hk
        ·exact lt_of_heap hw
        ·exact Rep.block_lt h4 k hk
       ·intro k hk
        rcases List.mem_cons.1 hk with rfl | hk
        ·exact .inr ⟨id, by simp, hob⟩
        ·exact (h5 k hk).mono (fun i hi => by simp [hi])
    case h_2 u l i =>
     split at ha
     case h_2 => cases ha
     case h_1 l2 hl2 =>
      obtain ⟨hwp, hl2⟩ := sw_some hl2
      obtain ⟨rfl, rfl⟩ := castL_some hl2
      simp only [Option.some.injEq] at ha
      simp only [AVRep] at h1
      obtain ⟨hil, ad, ⟨c, ty, fz, p, m, q, G, g1, g2, g3, g4, g5, g6, g7⟩, hv⟩ := h1
      obtain ⟨c1, c2, c3, F1, F2, F3, rfl, rfl, hc1, hr, _⟩ := RepL.at (n := u.sz) (fun _ _ _ => Rep.length) u.dflt i g5 hil
      rw [Nat.add_zero] at hv
      have hz : ∀ b, M.Z b → M.w.heap[b]? = M.w0.heap[b]? := hi.zf
      have hr2 : Rep M.w false u (l.getD i u.dflt) c2 F2 := Rep.frame (fun b hb => hz b (g7 b (by simp [hb]))) hr
      refine fin _ [] (ad.block :: F2) (by rw [← ha]; rfl) ?_ ?_
      ·unfold ArgRep
       refine ⟨hwp, rfl, ?_, ad.add (i * u.sz), hv, c, ty, fz, p ++ c1, c2, c3 ++ q, F2, ?_, ?_, by rw [g3]; simp, ?_, ⟨c2, [], F2, [], by simp, by simp, hr2, rfl, rfl⟩, by simp [Addr.add_block], fun k hk => by simp [hk]⟩
       ·intro k hk
        rcases List.mem_cons.1 hk with rfl | hk
        ·have := hi.zb _ g6; have := hi.sz; omega
        ·exact Rep.block_lt hr2 k hk
       ·exact Addr.add_spot g1 _ |> fun h => by first | exact h | (rw [h])
       ·rw [Addr.add_block, hz _ g6]; exact g2
       ·rw [List.length_append, g4, hc1, Addr.add_off]
      ·intro k hk
       left
       rcases List.mem_cons.1 hk with rfl | hk
       ·exact g6
       ·exact g7 k (by simp [hk])
   ·-- a slice to be written
    split at ha
    case h_3 => cases ha
    case h_1 id g =>
     split at ha
     case h_2 => cases ha
     case h_1 e w l g' hl =>
      simp only [Option.some.injEq] at ha
      subst ha
      have hM : M.h id = .arr e w l g' := by rw [hh id (by rw [hl]; simp), hl]
      obtain ⟨hwp, F, hs, hn1, hown⟩ := hi.arr hM
      simp only [AVRep] at h1
      obtain ⟨_, h1⟩ := rowOld h1 hM
      obtain ⟨e2, u2, l2, v2, hat, hhd, hw⟩ := h1 rfl
      simp only [atP, Option.some.injEq] at hat
      cases hat
      simp only [hdrAt, Option.some.injEq] at hhd
      simp only [Win] at hw
      subst hhd
      refine ⟨S, F ++ L, ?_, ?_, ?_, r4, ?_, ?_, ?_, ?_⟩
      ·exact Opens.cons (S1 := []) (L1 := F) (Opens.plain (by unfold ArgRep; exact ⟨hwp, rfl, by rw [hw]; exact hs⟩)) r1 (by simp) (fun k hk => by simp [hk])
      ·intro hn
       simp only [List.nodup_cons] at hn
       rw [List.nodup_append]
       refine ⟨hn1, r2 hn.2, fun p hp q hq e => ?_⟩
       subst e
       obtain ⟨k, hk, e⟩ := r3 p hq
       rw [hown p hp] at e; cases e
       exact hn.1 hk
      ·intro p hp
       rcases List.mem_append.1 hp with hp | hp
       ·exact ⟨id, by simp, hown p hp⟩
       ·obtain ⟨k, hk, e⟩ := r3 p hp; exact ⟨k, by simp [hk], e⟩
      ·intro k hk
       rcases List.mem_cons.1 hk with rfl | hk
       ·exact hi.ud _ (by rw [hM]; simp)
       ·exact r5 k hk
      ·intro l hl'
       rcases List.mem_cons.1 hl' with rfl | hl'
       ·simp [lentId]
       ·have := r6 l hl'; simp [this]
      ·intro hn
       simp only [List.nodup_cons] at hn
       simp only [List.map_cons, lentId, List.nodup_cons]
       refine ⟨fun hm => ?_, r7 hn.2⟩
       obtain ⟨l, hl1, hl2⟩ := List.mem_map.1 hm
       exact hn.1 (hl2 ▸ r6 l hl1)
      ·refine Gives.cons (T1 := [id]) (L1 := F) (lt1 := [.s id [] g']) (fun p hp => ⟨id, by simp, hown p hp⟩) r3 (fun _ w' o O _ h3 => ?_) r8
       simp only [OutRep] at h3
       obtain ⟨y, rfl, h5, h6⟩ := h3
       refine BackOK.same ?_
       simp only [LentRep]
       exact ⟨e, w, y, [], O, [], rfl, hwp, ⟨l, hM, h5⟩, by rw [h5, ← hw]; exact h6, by simp, rfl, rfl⟩
    case h_2 id qq p gg =>
     split at ha
     case h_2 => cases ha
     case h_1 e0 u0 l0 g' hl =>
      obtain ⟨hgg, ha⟩ := sw_some ha
      simp only [Nat.beq_eq] at hgg
      subst hgg
      split at ha
      case h_2 => cases ha
      case h_1 e w l hatp =>
      simp only [Option.some.injEq] at ha
      subst ha
      have hM : M.h id = .arr e0 u0 l0 gg := by rw [hh id (by rw [hl]; simp), hl]
      obtain ⟨hwp0, F, hs, hn1, hown⟩ := hi.arr hM
      simp only [AVRep] at h1
      obtain ⟨_, h1⟩ := rowOld h1 hM
      obtain ⟨e2, u2, l2, v2, hat, hhd, hw⟩ := h1 (by simp [okG])
      rw [hatp] at hat
      cases hat
      simp only [Win] at hw
      subst hw
      obtain ⟨hwp, F1, F', F2, rfl, hs', hwand⟩ := path_rep hwp0 hs hatp hhd
      obtain ⟨m1, m2, m3⟩ := List.nodup_append.1 hn1
      obtain ⟨m4, m5, m6⟩ := List.nodup_append.1 m1
      have hown' : ∀ b ∈ F', own b = some id := fun b hb => hown b (by simp [hb])
      refine ⟨S, F' ++ L, ?_, ?_, ?_, r4, ?_, ?_, ?_, ?_⟩
      ·exact Opens.cons (S1 := []) (L1 := F') (Opens.plain (by unfold ArgRep; exact ⟨hwp, rfl, hs'⟩)) r1 (by simp) (fun k hk => by simp [hk])
      ·intro hn
       simp only [List.nodup_cons] at hn
       rw [List.nodup_append]
       refine ⟨m5, r2 hn.2, fun p hp q hq e => ?_⟩
       subst e
       obtain ⟨k, hk, e⟩ := r3 p hq
       rw [hown' p hp] at e; cases e
       exact hn.1 hk
      ·intro p hp
       rcases List.mem_append.1 hp with hp | hp
       ·exact ⟨id, by simp, hown' p hp⟩
       ·obtain ⟨k, hk, e⟩ := r3 p hp; exact ⟨k, by simp [hk], e⟩
      ·intro k hk
       rcases List.mem_cons.1 hk with rfl | hk
       ·exact hi.ud _ (by rw [hM]; simp)
       ·exact r5 k hk
      ·intro l hl'
       rcases List.mem_cons.1 hl' with rfl | hl'
       ·simp [lentId]
       ·have := r6 l hl'; simp [this]
      ·intro hn
       simp only [List.nodup_cons] at hn
       simp only [List.map_cons, lentId, List.nodup_cons]
       refine ⟨fun hm => ?_, r7 hn.2⟩
       obtain ⟨l, hl1, hl2⟩ := List.mem_map.1 hm
       exact hn.1 (hl2 ▸ r6 l hl1)
      ·refine Gives.cons (T1 := [id]) (L1 := F') (lt1 := [.sp id (qq :: p) gg e0 u0 l0]) (fun p hp => ⟨id, by simp, hown' p hp⟩) r3 (fun _ w' o O hr h3 => ?_) r8
       simp only [OutRep] at h3
       obtain ⟨y, rfl, h5, h6⟩ := h3
       have d1 : ∀ b ∈ F1, b ∉ F' := fun b hb hb' => m6 b hb b hb' rfl
       have d2 : ∀ b ∈ F2, b ∉ F' := fun b hb hb' => m3 b (by simp [hb']) b hb rfl
       have f1 := fun b (hb : b ∈ F1) => hr b id (hown b (by simp [hb])) (by simp) (d1 b hb)
       have f2 := fun b (hb : b ∈ F2) => hr b id (hown b (by simp [hb])) (by simp) (d2 b hb)
       obtain ⟨m, hm1, hm2, hm3⟩ := hwand w' (fun _ => y) O (fun b hb => (f1 b hb).2) (fun b hb => (f2 b hb).2) h5 h6
       refine ⟨F1 ++ O ++ F2, ?_, ?_, ?_⟩
       ·simp only [LentRep]
        exact ⟨e, w, y, [], m, F1 ++ O ++ F2, [], rfl, hwp0, hM, hm1, hm2, by rw [hm2]; exact hm3, by simp, rfl, rfl⟩
       ·intro b hb
        simp only [List.mem_append] at hb
        rcases hb with (hb | hb) | hb
        ·exact .inr ⟨d1 b hb, id, by simp, hown b (by simp [hb])⟩
        ·exact .inl hb
        ·exact .inr ⟨d2 b hb, id, by simp, hown b (by simp [hb])⟩
       ·intro hO
        rw [List.nodup_append, List.nodup_append]
        refine ⟨⟨m4, hO, fun b hb c hc e => (f1 b hb).1 (e ▸ hc)⟩, m2, fun b hb c hc e => ?_⟩
        subst e
        rcases List.mem_append.1 hb with hb | hb
        ·exact m3 b (by simp [hb]) b hc rfl
        ·exact (f2 b hc).1 hb
   ·-- given away
    rename_i w _
    split at ha
    case h_2 =>
     -- out of an element
     split at ha
     case h_2 => cases ha
     case h_1 id g i k e0 u0 l0 w' x hx =>
      simp only [Option.some.injEq] at ha
      subst ha
      obtain ⟨hidr, hwp, hag, hM, F1, F2, hr, n2, n1, hdj, ho1, ho2, hhol⟩ := take_rep hi hh hx h1
      refine ⟨S, F2 ++ L, ?_, ?_, ?_, r4, ?_, ?_, ?_, ?_⟩
      ·exact Opens.cons (S1 := []) (L1 := F2) (Opens.plain (by unfold ArgRep; exact ⟨hwp, rfl, [v], by unfold valOf; simp [hag], hr⟩)) r1 (by simp) (fun k hk => by simp [hk])
      ·intro hn
       simp only [List.nodup_cons] at hn
       rw [List.nodup_append]
       refine ⟨n2, r2 hn.2, fun p hp q hq e => ?_⟩
       subst e
       obtain ⟨k', hk, e⟩ := r3 p hq
       rw [ho2 p hp] at e; cases e
       exact hn.1 hk
      ·intro p hp
       rcases List.mem_append.1 hp with hp | hp
       ·exact ⟨id, by simp, ho2 p hp⟩
       ·obtain ⟨k', hk, e⟩ := r3 p hp; exact ⟨k', by simp [hk], e⟩
      ·intro k' hk
       rcases List.mem_cons.1 hk with rfl | hk
       ·exact hi.ud _ (by rw [hM]; simp)
       ·exact r5 k' hk
      ·intro l hl'
       rcases List.mem_cons.1 hl' with rfl | hl'
       ·simp [lentId]
       ·have := r6 l hl'; simp [this]
      ·intro hn
       simp only [List.nodup_cons] at hn
       simp only [List.map_cons, lentId, List.nodup_cons]
       refine ⟨fun hm => ?_, r7 hn.2⟩
       obtain ⟨l, hl1, hl2⟩ := List.mem_map.1 hm
       exact hn.1 (hl2 ▸ r6 l hl1)
      ·refine Gives.cons (T1 := [id]) (L1 := F2) (lt1 := [.ho id g i k e0 u0 l0 w']) ?_ r3 (fun _ w2 o O hrest h3 => ?_) r8
       ·intro p hp; exact ⟨id, by simp, ho2 p hp⟩
       ·simp only [OutRep] at h3
        obtain ⟨rfl, rfl⟩ := h3
        refine ⟨F1, ?_, fun b hb => .inr ⟨hdj b hb, id, by simp, ho1 b hb⟩, fun _ => n1⟩
        simp only [LentRep]
        exact ⟨F1, [], hM, hhol.frame fun b hb => (hrest b id (ho1 b hb) (by simp) (hdj b hb)).2, by simp, by trivial⟩
    case h_1 x ks hx =>
     obtain ⟨hc, hx⟩ := sw_some hx
     simp only [Bool.and_eq_true] at hc
     obtain ⟨hwp, hf⟩ := hc
     simp only [Option.some.injEq] at ha
     subst ha
     obtain ⟨cs0, hr0, hvo⟩ := fits_val hwp hf h1
     obtain ⟨F, hF1, hF2, hF3, ⟨_, hF4, hF5⟩, hF6⟩ := asmOV_rep hi hh hwp hx hr0
     refine ⟨S, F ++ L, ?_, ?_, ?_, r4, ?_, ?_, ?_, ?_⟩
     ·exact Opens.cons (S1 := []) (L1 := F) (Opens.plain (by unfold ArgRep; exact ⟨hwp, rfl, cs0, hvo cs0 (Rep.length hF1) rfl, hF1⟩)) r1 (by simp) (fun k hk => by simp [hk])
     ·intro hn
      obtain ⟨n1, n2, n3⟩ := List.nodup_append.1 hn
      rw [List.nodup_append]
      refine ⟨hF2, r2 n2, fun p hp q hq e => ?_⟩
      subst e
      obtain ⟨k, hk, e⟩ := hF4 p hp
      obtain ⟨k', hk', e'⟩ := r3 p hq
      rw [e] at e'; cases e'
      exact n3 k hk k hk' rfl
     ·intro p hp
      rcases List.mem_append.1 hp with hp | hp
      ·obtain ⟨k, hk, e⟩ := hF4 p hp; exact ⟨k, by simp [hk], e⟩
      ·obtain ⟨k, hk, e⟩ := r3 p hp; exact ⟨k, by simp [hk], e⟩
     ·intro k hk
      rcases List.mem_append.1 hk with hk | hk
      ·exact hi.ud _ (hF5 k hk)
      ·exact r5 k hk
     ·intro l hl'
      have := r6 l hl'; simp [this]
     ·intro hn
      exact r7 (List.nodup_append.1 hn).2.1
     ·exact Gives.cons (T1 := ks) (L1 := F) (lt1 := []) hF4 r3 (fun _ w' o O _ h3 => by
       simp only [OutRep] at h3
       obtain ⟨rfl, rfl⟩ := h3
       exact BackOK.nil) r8
   ·-- a function
    split at ha
    case h_2 => cases ha
    case h_1 f cs =>
     split at ha
     case h_2 => cases ha
     case h_1 A' hb =>
      simp only [Option.some.injEq] at ha
      subst ha
      simp only [AVRep] at h1
      obtain ⟨ws, rfl, h1⟩ := h1
      obtain ⟨S2, L2, q1, q2, q3, q4, q5, q6, q7, q8⟩ := hfnc f cs A' ws hb h1
      refine ⟨S2 ++ S, L2 ++ L, ?_, ?_, ?_, ?_, ?_, ?_, ?_, ?_⟩
      ·exact Opens.cons (S1 := S2) (L1 := L2) (s1 := A'.seen) (by obtain ⟨Q0, q01, q02⟩ := q1; exact ⟨Q0, q01, fun B' hm he => by unfold ArgRep; exact ⟨ws, rfl, q02 B' hm he⟩⟩) r1 (fun k hk => by simp [hk]) (fun k hk => by simp [hk])
      ·intro hn
       obtain ⟨n1, n2, n3⟩ := List.nodup_append.1 hn
       rw [List.nodup_append]
       refine ⟨q2 n1, r2 n2, fun p hp q hq e => ?_⟩
       subst e
       obtain ⟨k, hk, e⟩ := q3 p hp
       obtain ⟨k', hk', e'⟩ := r3 p hq
       rw [e] at e'; cases e'
       exact n3 k hk k hk' rfl
      ·intro p hp
       rcases List.mem_append.1 hp with hp | hp
       ·obtain ⟨k, hk, e⟩ := q3 p hp; exact ⟨k, by simp [hk], e⟩
       ·obtain ⟨k, hk, e⟩ := r3 p hp; exact ⟨k, by simp [hk], e⟩
      ·intro b hb
       rcases List.mem_append.1 hb with hb | hb
       ·exact (q4 b hb).mono (fun i hi => by simp [hi])
       ·exact (r4 b hb).mono (fun i hi => by simp [hi])
      ·intro k hk
       rcases List.mem_append.1 hk with hk | hk
       ·exact q5 k hk
       ·exact r5 k hk
      ·intro l hl
       rcases List.mem_append.1 hl with hl | hl
       ·have := q6 l hl; simp [this]
       ·have := r6 l hl; simp [this]
      ·intro hn
       obtain ⟨n1, n2, n3⟩ := List.nodup_append.1 hn
       rw [List.map_append, List.nodup_append]
       refine ⟨q7 n1, r7 n2, fun i hi j hj e => ?_⟩
       obtain ⟨l1, hl1, rfl⟩ := List.mem_map.1 hi
       obtain ⟨l2, hl2, rfl⟩ := List.mem_map.1 hj
       exact n3 _ (q6 l1 hl1) _ (r6 l2 hl2) e
      ·refine Gives.cons q3 r3 (fun hn w' o O hr h3 => ?_) r8
       simp only [OutRep] at h3
       obtain ⟨g, ws', e2, h3⟩ := h3
       simp only [Value.func.injEq, true_and] at e2
       obtain ⟨_, e2⟩ := e2
       have e2 : ws = ws' := by simpa using e2
       subst e2
       exact q8 hn w' o O hr h3
   ·-- an aggregate
    split at ha
    case h_2 => cases ha
    case h_1 cs =>
     split at ha
     case h_2 => cases ha
     case h_1 A' hb =>
      simp only [Option.some.injEq] at ha
      subst ha
      simp only [AVRep] at h1
      obtain ⟨ws, rfl, h1⟩ := h1
      obtain ⟨S2, L2, q1, q2, q3, q4, q5, q6, q7, q8⟩ := hfnc _ cs A' ws hb h1
      refine ⟨S2 ++ S, L2 ++ L, ?_, ?_, ?_, ?_, ?_, ?_, ?_, ?_⟩
      ·exact Opens.cons (S1 := S2) (L1 := L2) (s1 := A'.seen) (by obtain ⟨Q0, q01, q02⟩ := q1; exact ⟨Q0, q01, fun B' hm he => by unfold ArgRep; exact ⟨ws, rfl, q02 B' hm he⟩⟩) r1 (fun k hk => by simp [hk]) (fun k hk => by simp [hk])
      ·intro hn
       obtain ⟨n1, n2, n3⟩ := List.nodup_append.1 hn
       rw [List.nodup_append]
       refine ⟨q2 n1, r2 n2, fun p hp q hq e => ?_⟩
       subst e
       obtain ⟨k, hk, e⟩ := q3 p hp
       obtain ⟨k', hk', e'⟩ := r3 p hq
       rw [e] at e'; cases e'
       exact n3 k hk k hk' rfl
      ·intro p hp
       rcases List.mem_append.1 hp with hp | hp
       ·obtain ⟨k, hk, e⟩ := q3 p hp; exact ⟨k, by simp [hk], e⟩
       ·obtain ⟨k, hk, e⟩ := r3 p hp; exact ⟨k, by simp [hk], e⟩
      ·intro b hb
       rcases List.mem_append.1 hb with hb | hb
       ·exact (q4 b hb).mono (fun i hi => by simp [hi])
       ·exact (r4 b hb).mono (fun i hi => by simp [hi])
      ·intro k hk
       rcases List.mem_append.1 hk with hk | hk
       ·exact q5 k hk
       ·exact r5 k hk
      ·intro l hl
       rcases List.mem_append.1 hl with hl | hl
       ·have := q6 l hl; simp [this]
       ·have := r6 l hl; simp [this]
      ·intro hn
       obtain ⟨n1, n2, n3⟩ := List.nodup_append.1 hn
       rw [List.map_append, List.nodup_append]
       refine ⟨q7 n1, r7 n2, fun i hi j hj e => ?_⟩
       obtain ⟨l1, hl1, rfl⟩ := List.mem_map.1 hi
       obtain ⟨l2, hl2, rfl⟩ := List.mem_map.1 hj
       exact n3 _ (q6 l1 hl1) _ (r6 l2 hl2) e
      ·refine Gives.cons q3 r3 (fun hn w' o O hr h3 => ?_) r8
       simp only [OutRep] at h3
       obtain ⟨ws', e2, h3⟩ := h3
       simp only [Value.agg.injEq] at e2
       have e2 : ws = ws' := by simpa using e2
       subst e2
       exact q8 hn w' o O hr h3
   ·-- a cell that holds a closure
    have fin : ∀ (se : List Nat) (b f : Nat) (ty : TypeId) (cs : List AV) (ws : List Value) (B : Args), fnc f cs = some B → A = ⟨.cf f B.as :: bs, B.lent ++ lt, B.taken ++ tk, se ++ (B.seen ++ sn)⟩ → v = .pointer (some ⟨b, 0, none⟩) →
      M.w.heap[b]? = some (.cells #[.func (.func f) #[] ws.toArray] ty (0, 0)) → AVRepL M cs ws → Sees M own se b → ArgsGood M own used A (v :: vr) := by
     intro se b f ty cs ws B hB hA hv hw hcs hsee
     subst hA
     obtain ⟨S2, L2, q1, q2, q3, q4, q5, q6, q7, q8⟩ := hfnc _ _ _ _ hB hcs
     refine ⟨(b :: S2) ++ S, L2 ++ L, ?_, ?_, ?_, ?_, ?_, ?_, ?_, ?_⟩
     ·exact Opens.cons (S1 := b :: S2) (L1 := L2) (s1 := se ++ B.seen) (by obtain ⟨Q0, q01, q02⟩ := q1; exact ⟨Q0, fun b hb => (q01 b hb).mono (fun k hk => by simp [hk]), fun B' hm he => by unfold ArgRep; exact ⟨b, ty, ws, S2, hv, hw, rfl, q02 B' hm (fun hb => he (by simp [hb]))⟩⟩) r1 (fun k hk => by simp at hk ⊢; rcases hk with hk | hk <;> simp [hk]) (fun k hk => by simp [hk])
     ·intro hn
      obtain ⟨n1, n2, n3⟩ := List.nodup_append.1 hn
      refine List.nodup_append.2 ⟨q2 n1, r2 n2, fun p hp q hq e => ?_⟩
      subst e
      obtain ⟨k, hk, e1⟩ := q3 p hp
      obtain ⟨k', hk', e2⟩ := r3 p hq
      rw [e1] at e2; cases e2
      exact n3 k hk k hk' rfl
     ·intro p hp
      rcases List.mem_append.1 hp with hp | hp
      ·obtain ⟨k, hk, e⟩ := q3 p hp; exact ⟨k, by simp [hk], e⟩
      ·obtain ⟨k, hk, e⟩ := r3 p hp; exact ⟨k, by simp [hk], e⟩
     ·intro c hc
      rcases List.mem_append.1 hc with hc | hc
      ·rcases List.mem_cons.1 hc with rfl | hc
       ·exact hsee.mono (fun i hi => by simp [hi])
       ·exact (q4 c hc).mono (fun i hi => by simp [hi])
      ·exact (r4 c hc).mono (fun i hi => by simp [hi])
     ·intro k hk
      rcases List.mem_append.1 hk with hk | hk
      ·exact q5 k hk
      ·exact r5 k hk
     ·intro l hl
      rcases List.mem_append.1 hl with hl | hl
      ·have := q6 l hl; simp [this]
      ·have := r6 l hl; simp [this]
     ·intro hn
      obtain ⟨n1, n2, n3⟩ := List.nodup_append.1 hn
      rw [List.map_append, List.nodup_append]
      refine ⟨q7 n1, r7 n2, fun i hi j hj e => ?_⟩
      obtain ⟨l1, hl1, rfl⟩ := List.mem_map.1 hi
      obtain ⟨l2, hl2, rfl⟩ := List.mem_map.1 hj
      exact n3 _ (q6 l1 hl1) _ (r6 l2 hl2) e
     ·refine Gives.cons q3 r3 (fun hn w' o O hr h3 => ?_) r8
      simp only [OutRep] at h3
      obtain ⟨g, b', t', ws', e1, e2, h3⟩ := h3
      rw [hv] at e1
      simp only [Value.pointer.injEq, Option.some.injEq, Addr.mk.injEq, and_true] at e1
      subst e1
      rw [hw] at e2
      simp only [Option.some.injEq, Obj.cells.injEq] at e2
      have e3 : ws = ws' := by
       have := e2.1
       simp at this
       exact this.2
      subst e3
      exact q8 hn w' o O hr h3
    split at ha
    case h_3 => cases ha
    case h_1 f' cs =>
     split at ha
     case h_2 => cases ha
     case h_1 B hB =>
      simp only [Option.some.injEq] at ha
      simp only [AVRep] at h1
      obtain ⟨b, t, ws, hv, hw, hZ, hcs⟩ := h1
      exact fin [] b f' t cs ws B hB ha.symm hv (by rw [hi.zf b hZ]; exact hw) hcs (.inl hZ)
    case h_2 id =>
     split at ha
     case h_2 => cases ha
     case h_1 f' cs hl =>
      split at ha
      case h_2 => cases ha
      case h_1 B hB =>
       simp only [Option.some.injEq] at ha
       have hM : M.h id = .obj [.fn f' cs] := by rw [hh id (by rw [hl]; simp), hl]
       have hrt := hi.rt id
       rw [hM] at hrt
       obtain ⟨b, cc, ty, hb, hw, hcs, hob⟩ := hrt
       simp only [AVRepL, AVRep] at hcs
       obtain ⟨x, r, e1, ⟨ws, rfl, h3⟩, rfl⟩ := hcs
       have ecc : cc = #[.func (.func f') #[] ws.toArray] := Array.toList_inj.1 e1
       simp only [AVRep] at h1
       obtain ⟨ad, had, hv⟩ := h1 (by rw [hM]; simp)
       rw [hb] at had
       cases had
       rw [Addr.add_zero] at hv
       exact fin [id] b f' ty cs ws B hB ha.symm hv (by rw [hw, ecc]) h3 (.inr ⟨id, by simp, hob⟩)
   ·-- the closure's own cell
    rename_i f m _
    have fin : ∀ (se : List Nat) (b : Nat), A = ⟨.me f m :: bs, lt, tk, se ++ sn⟩ → v = .pointer (some ⟨b, 0, none⟩) → b < M.w.heap.size → Sees M own se b → ArgsGood M own used A (v :: vr) := by
     intro se b hA h3 h4 h5
     subst hA
     refine ⟨[b] ++ S, L, ?_, r2, r3, ?_, r5, r6, r7, ?_⟩
     ·exact Opens.cons (S1 := [b]) (L1 := []) (Opens.plain (by unfold ArgRep; exact ⟨rfl, b, h3, rfl, h4⟩)) r1 (by simp) (fun k hk => by simp [hk])
     ·intro k hk
      rcases List.mem_append.1 hk with hk | hk
      ·rw [List.mem_singleton] at hk
       subst hk
       exact h5.mono (fun i hi => by simp [hi])
      ·exact (r4 k hk).mono (fun i hi => by simp [hi])
     ·exact Gives.cons (T1 := []) (L1 := []) (lt1 := []) (by simp) r3 (fun _ w' o O _ h3 => by
       simp only [OutRep] at h3
       obtain ⟨rfl, rfl⟩ := h3
       exact BackOK.nil) r8
    split at ha
    case h_3 => cases ha
    case h_1 f' cs k =>
     simp only [Option.some.injEq] at ha
     simp only [AVRep] at h1
     obtain ⟨b, t, ws, hv, hw, hZ, _⟩ := h1
     refine fin [] b ha.symm hv ?_ (.inl hZ)
     have := hi.zb b hZ; have := hi.sz; omega
    case h_2 id =>
     split at ha
     case h_2 => cases ha
     case h_1 cs hl =>
      simp only [Option.some.injEq] at ha
      have hM : M.h id = .obj cs := by rw [hh id (by rw [hl]; simp), hl]
      have hrt := hi.rt id
      rw [hM] at hrt
      obtain ⟨b, cc, ty, hb, hw, hcs, hob⟩ := hrt
      simp only [AVRep] at h1
      obtain ⟨ad, had, hv⟩ := h1 (by rw [hM]; simp)
      rw [hb] at had
      cases had
      rw [Addr.add_zero] at hv
      exact fin [id] b ha.symm hv (lt_of_heap hw) (.inr ⟨id, by simp, hob⟩)
   ·cases ha
theorem argsOf_rep {cm : Nat → List Md} (hi : Inv X M t used own a) (hh : ∀ id, lkH h id ≠ .dead → M.h id = lkH h id) {as : List (U × AV)} {md : List Md} {A : Args} {vs : List Value} (h1 : argsOf h cm as md = some A) (h2 : AVRepL M (as.map (·.2)) vs) : ArgsGood M own used A vs := by
 have hm : ∀ (cs : List AV), (cs.map fun c => ((U.oth, c) : U × AV)).map (·.2) = cs := fun cs => by rw [List.map_map]; exact List.map_id cs
 refine argsG_rep (fun f cs A ws h3 h4 => ?_) hi hh h1 h2
 refine argsG_rep (fun f cs A ws h3 h4 => ?_) hi hh h3 (by rw [hm]; exact h4)
 exact argsG_rep (fun f cs A ws h3 h4 => by cases h3) hi hh h3 (by rw [hm]; exact h4)
end
end Go.VM

namespace Go.VM
variable [Bor]
open Go.RowKit
def HoldP (M : Mem) (n : NR) : Prop := n.r = M.r n.id ∧ ((∃ cs cs', M.h n.id = .obj cs ∧ n.R = .obj cs') ∨ ∃ e u l l' g g' b, M.h n.id = .arr e u l g ∧ RowIs n.R e u l' g' b ∧ l'.length = l.length ∧ (g < g' ∨ g = g' ∧ b = true))
structure Backs (M : Mem) (lt : List Lent) (N : List NR) (base top : Nat) (F : List Nat) (w' : World) : Prop where
 fF : N.flatMap NR.F = F
 rg : ∀ n ∈ N, ((∃ l ∈ lt, lentId l = n.id) ∧ HoldP M n) ∨ base ≤ n.id ∧ n.id < top
 nd : (∀ l ∈ lt, ¬ (base ≤ lentId l ∧ lentId l < top)) → (lt.map lentId).Nodup → (N.map NR.id).Nodup
 rt : F.Nodup → ∀ M' : Mem, M'.w = w' → (∀ n ∈ N, M'.r n.id = n.r ∧ M'.h n.id = n.R) → ∀ n ∈ N, ∀ own' : Nat → Option Nat, (∀ b ∈ n.F, own' b = some n.id) → RootRep M' own' n.id n.R
 rf : ∀ n ∈ N, ∀ cs, n.R = .obj cs → ∀ j ∈ refsL cs, base ≤ j ∧ j < top
theorem arr_nr {M' : Mem} {n : NR} {own' : Nat → Option Nat} {e : Bool} {u : U} {l : List u.El} {g : Nat} (hR : n.R = .arr e u l g) (hp : u.plain = true) (hs : SlRep M'.w true e u.sz (Rep M'.w true u) l (hdr n.r l.length) n.F) (hF : n.F.Nodup) (hr : M'.r n.id = n.r) (ho : ∀ b ∈ n.F, own' b = some n.id) : RootRep M' own' n.id n.R := by
 rw [hR]
 exact ⟨hp, n.F, by rw [hr]; exact hs, hF, ho⟩
theorem flat_nodup {N : List NR} (h : (N.flatMap NR.F).Nodup) {n : NR} (hn : n ∈ N) : n.F.Nodup := by
 induction N with
 | nil => cases hn
 | cons m N ih =>
  simp only [List.flatMap_cons] at h
  obtain ⟨h1, h2, _⟩ := List.nodup_append.1 h
  rcases List.mem_cons.1 hn with rfl | hn
  ·exact h1
  ·exact ih h2 hn
theorem Comes.rt {N : List NR} {base top : Nat} {F : List Nat} {as vs} {w' : World} (h : Comes N base top F as vs w') (hF : F.Nodup) {M' : Mem} (hw : M'.w = w') (hM : ∀ n ∈ N, M'.r n.id = n.r ∧ M'.h n.id = n.R) {n : NR} (hn : n ∈ N) {own' : Nat → Option Nat} (ho : ∀ b ∈ n.F, own' b = some n.id) : RootRep M' own' n.id n.R := by
 rcases h.ar n hn with ⟨e, u, l, hR, hp, hs⟩ | ⟨u, t, hR, hp, hf, hs⟩
 rotate_left
 ·subst hw
  rw [hR]
  exact ⟨hp, hf, n.F, by rw [(hM n hn).1]; exact hs, flat_nodup (by rw [h.fF]; exact hF) hn, ho⟩
 subst hw
 exact arr_nr hR hp hs (flat_nodup (by rw [h.fF]; exact hF) hn) (hM n hn).1 ho
theorem backA_rep {M : Mem} {w' : World} : ∀ {lt : List Lent} {outs : List TV} {F : List Nat} {base : Nat} {q : Hp}, LentRep M w' lt outs F → backA lt outs base = some q → ∃ N, nrH N = q ∧ Backs M lt N base (base + azL outs) F w'
 | [], outs, F, base, q, h, hq => by
  simp only [LentRep] at h
  obtain ⟨rfl, rfl⟩ := h
  simp only [backA, Option.some.injEq] at hq
  exact ⟨[], hq, ⟨rfl, by simp, by simp, by simp, by simp⟩⟩
 | .p id u :: lt, outs, F, base, q, h, hq => by
  simp only [LentRep] at h
  obtain ⟨y, r, b, c, t, G, F2, rfl, hp, ⟨cs0, hM⟩, hb, hw, hrep, rfl, h⟩ := h
  simp only [backA] at hq
  cases hq2 : backA lt r (base + u.az) with
  | none => rw [hq2] at hq; cases hq
  | some q2 =>
   rw [hq2] at hq
   simp only [↓reduceDIte, Option.some.injEq] at hq
   obtain ⟨N2, hN2, b1, b2, b3, b4, b5⟩ := backA_rep h hq2
   obtain ⟨N1, hN1, hc⟩ := rooted_rep base hp hrep
   have a1 := hc.fF; have a2 := hc.rg; have a3 := hc.nd; have a5 := hc.av; have a6 := hc.rf
   refine ⟨⟨id, .obj (rooted u y base).1, M.r id, [b]⟩ :: (N1 ++ N2), ?_, ⟨?_, ?_, ?_, ?_, ?_⟩⟩
   ·rw [← hq, ← hN2, ← hN1]; simp [nrH]
   ·simp only [List.flatMap_cons, List.flatMap_append, a1, b1]; simp
   ·intro n hn
    simp only [List.mem_cons, List.mem_append] at hn
    simp only [azL]
    rcases hn with rfl | hn | hn
    ·exact .inl ⟨⟨.p id u, by simp, rfl⟩, rfl, .inl ⟨_, _, hM, rfl⟩⟩
    ·have := a2 n hn; right; omega
    ·rcases b2 n hn with ⟨⟨l, hl, e⟩, hh⟩ | hh
     ·exact .inl ⟨⟨l, by simp [hl], e⟩, hh⟩
     ·right; omega
   ·intro hf hn
    simp only [azL] at hf
    simp only [List.map_cons, List.nodup_cons, lentId] at hn
    have hf0 := hf (.p id u) (by simp)
    simp only [lentId] at hf0
    simp only [List.map_cons, List.map_append, List.nodup_cons, List.mem_append, not_or, List.nodup_append]
    refine ⟨⟨fun hm => ?_, fun hm => ?_⟩, a3, b3 (fun l hl => by have := hf l (by simp [hl]); omega) hn.2, fun i hi j hj e => ?_⟩
    ·obtain ⟨n, hn, e⟩ := List.mem_map.1 hm
     have := a2 n hn; omega
    ·obtain ⟨n, hn', e⟩ := List.mem_map.1 hm
     rcases b2 n hn' with ⟨⟨l, hl, e'⟩, _⟩ | hh
     ·exact hn.1 (List.mem_map.2 ⟨l, hl, by omega⟩)
     ·omega
    ·obtain ⟨n, hn1, rfl⟩ := List.mem_map.1 hi
     obtain ⟨m, hm1, rfl⟩ := List.mem_map.1 hj
     have h1 := a2 n hn1
     rcases b2 m hm1 with ⟨⟨l, hl, e'⟩, _⟩ | hh
     ·have := hf l (by simp [hl]); omega
     ·omega
   ·intro hF M' hw' hM' n hn own' ho
    simp only [List.mem_cons, List.mem_append] at hn
    rcases hn with rfl | hn | hn
    ·obtain ⟨h1, h2⟩ := hM' _ (List.mem_cons_self ..)
     refine ⟨b, c, t, by rw [h1]; exact hb, by rw [hw']; exact hw, a5 M' fun n hn => hM' n (by simp [hn]), ho b (by simp)⟩
    ·simp only [List.cons_append, List.nodup_cons, List.nodup_append] at hF
     exact hc.rt hF.2.1 hw' (fun n hn => hM' n (by simp [hn])) hn ho
    ·simp only [List.cons_append, List.nodup_cons, List.nodup_append] at hF
     exact b4 hF.2.2.1 M' hw' (fun n hn => hM' n (by simp [hn])) n hn own' ho
   ·intro n hn cs hR j hj
    simp only [List.mem_cons, List.mem_append] at hn
    simp only [azL]
    rcases hn with rfl | hn | hn
    ·simp only [Root.obj.injEq] at hR
     subst hR
     have := a6 j hj; omega
    ·exact ((hc.ar n hn).no hR).elim
    ·have := b5 n hn cs hR j hj; omega
 | .s id p g :: lt, outs, F, base, q, h, hq => by
  simp only [LentRep] at h
  obtain ⟨e, u, y, r, F1, F2, rfl, hp, ⟨l, hM, hlen⟩, hs, rfl, h⟩ := h
  simp only [backA] at hq
  cases hq2 : backA lt r base with
  | none => rw [hq2] at hq; cases hq
  | some q2 =>
   rw [hq2] at hq
   simp only [Option.some.injEq] at hq
   obtain ⟨N2, hN2, b1, b2, b3, b4, b5⟩ := backA_rep h hq2
   refine ⟨⟨id, .arr e u y (g + 1), M.r id, F1⟩ :: N2, ?_, ⟨?_, ?_, ?_, ?_, ?_⟩⟩
   ·rw [← hq, ← hN2]; simp [nrH]
   ·simp only [List.flatMap_cons, b1]
   ·intro n hn
    simp only [azL]
    rcases List.mem_cons.1 hn with rfl | hn
    ·exact .inl ⟨⟨.s id p g, by simp, rfl⟩, rfl, .inr ⟨e, u, l, y, g, g + 1, false, hM, .arr, hlen, by omega⟩⟩
    ·rcases b2 n hn with ⟨⟨l, hl, e⟩, hh⟩ | hh
     ·exact .inl ⟨⟨l, by simp [hl], e⟩, hh⟩
     ·right; omega
   ·intro hf hn
    simp only [azL] at hf
    simp only [List.map_cons, List.nodup_cons, lentId] at hn
    have hf0 := hf (.s id p g) (by simp)
    simp only [lentId] at hf0
    simp only [List.map_cons, List.nodup_cons]
    refine ⟨fun hm => ?_, b3 (fun l hl => by have := hf l (by simp [hl]); omega) hn.2⟩
    obtain ⟨n, hn', e'⟩ := List.mem_map.1 hm
    rcases b2 n hn' with ⟨⟨l, hl, e''⟩, _⟩ | hh
    ·exact hn.1 (List.mem_map.2 ⟨l, hl, by omega⟩)
    ·omega
   ·intro hF M' hw' hM' n hn own' ho
    obtain ⟨f1, f2, _⟩ := List.nodup_append.1 hF
    rcases List.mem_cons.1 hn with rfl | hn
    ·obtain ⟨h1, h2⟩ := hM' _ (List.mem_cons_self ..)
     subst hw'
     exact arr_nr (n := ⟨id, .arr e u y (g + 1), M.r id, F1⟩) rfl hp hs f1 h1 ho
    ·exact b4 f2 M' hw' (fun n hn => hM' n (by simp [hn])) n hn own' ho
   ·intro n hn cs hR j hj
    simp only [azL]
    rcases List.mem_cons.1 hn with rfl | hn
    ·cases hR
    ·have := b5 n hn cs hR j hj; omega
 | .ho id g i c e0 u0 l0 w :: lt, outs, F, base, q, h, hq => by
  simp only [LentRep] at h
  obtain ⟨F1, F2, hM, hs, rfl, h⟩ := h
  simp only [backA] at hq
  cases hq2 : backA lt outs base with
  | none => rw [hq2] at hq; cases hq
  | some q2 =>
   rw [hq2] at hq
   simp only [Option.some.injEq] at hq
   obtain ⟨N2, hN2, b1, b2, b3, b4, b5⟩ := backA_rep h hq2
   refine ⟨⟨id, .hol e0 u0 l0 g i c w, M.r id, F1⟩ :: N2, ?_, ⟨?_, ?_, ?_, ?_, ?_⟩⟩
   ·rw [← hq, ← hN2]; simp [nrH]
   ·simp only [List.flatMap_cons, b1]
   ·intro n hn
    rcases List.mem_cons.1 hn with rfl | hn
    ·exact .inl ⟨⟨.ho id g i c e0 u0 l0 w, by simp, rfl⟩, rfl, .inr ⟨e0, u0, l0, l0, g, g, true, hM, .hol, rfl, .inr ⟨rfl, rfl⟩⟩⟩
    ·rcases b2 n hn with ⟨⟨l, hl, e⟩, hh⟩ | hh
     ·exact .inl ⟨⟨l, by simp [hl], e⟩, hh⟩
     ·right; omega
   ·intro hf hn
    simp only [List.map_cons, List.nodup_cons, lentId] at hn
    have hf0 := hf (.ho id g i c e0 u0 l0 w) (by simp)
    simp only [lentId] at hf0
    simp only [List.map_cons, List.nodup_cons]
    refine ⟨fun hm => ?_, b3 (fun l hl => by have := hf l (by simp [hl]); omega) hn.2⟩
    obtain ⟨n, hn', e'⟩ := List.mem_map.1 hm
    rcases b2 n hn' with ⟨⟨l, hl, e''⟩, _⟩ | hh
    ·exact hn.1 (List.mem_map.2 ⟨l, hl, by omega⟩)
    ·omega
   ·intro hF M' hw' hM' n hn own' ho
    obtain ⟨f1, f2, _⟩ := List.nodup_append.1 hF
    rcases List.mem_cons.1 hn with rfl | hn
    ·obtain ⟨h1, h2⟩ := hM' _ (List.mem_cons_self ..)
     subst hw'
     exact ⟨F1, by rw [h1]; exact hs, f1, ho⟩
    ·exact b4 f2 M' hw' (fun n hn => hM' n (by simp [hn])) n hn own' ho
   ·intro n hn cs hR j hj
    rcases List.mem_cons.1 hn with rfl | hn
    ·cases hR
    ·have := b5 n hn cs hR j hj; omega
 | .sp id p g e0 u0 l0 :: lt, outs, F, base, q, h, hq => by
  simp only [LentRep] at h
  obtain ⟨e, u, y, r, m, F1, F2, rfl, hp, hM, hmod, hlen, hs, rfl, h⟩ := h
  simp only [backA] at hq
  cases hq2 : backA lt r base with
  | none => rw [hq2] at hq; cases hq
  | some q2 =>
   rw [hq2, hmod] at hq
   simp only [Option.some.injEq] at hq
   obtain ⟨N2, hN2, b1, b2, b3, b4, b5⟩ := backA_rep h hq2
   refine ⟨⟨id, .arr e0 u0 m (g + 1), M.r id, F1⟩ :: N2, ?_, ⟨?_, ?_, ?_, ?_, ?_⟩⟩
   ·rw [← hq, ← hN2]; simp [nrH]
   ·simp only [List.flatMap_cons, b1]
   ·intro n hn
    simp only [azL]
    rcases List.mem_cons.1 hn with rfl | hn
    ·exact .inl ⟨⟨.sp id p g e0 u0 l0, by simp, rfl⟩, rfl, .inr ⟨e0, u0, l0, m, g, g + 1, false, hM, .arr, hlen, by omega⟩⟩
    ·rcases b2 n hn with ⟨⟨l, hl, e⟩, hh⟩ | hh
     ·exact .inl ⟨⟨l, by simp [hl], e⟩, hh⟩
     ·right; omega
   ·intro hf hn
    simp only [azL] at hf
    simp only [List.map_cons, List.nodup_cons, lentId] at hn
    have hf0 := hf (.sp id p g e0 u0 l0) (by simp)
    simp only [lentId] at hf0
    simp only [List.map_cons, List.nodup_cons]
    refine ⟨fun hm => ?_, b3 (fun l hl => by have := hf l (by simp [hl]); omega) hn.2⟩
    obtain ⟨n, hn', e'⟩ := List.mem_map.1 hm
    rcases b2 n hn' with ⟨⟨l, hl, e''⟩, _⟩ | hh
    ·exact hn.1 (List.mem_map.2 ⟨l, hl, by omega⟩)
    ·omega
   ·intro hF M' hw' hM' n hn own' ho
    obtain ⟨f1, f2, _⟩ := List.nodup_append.1 hF
    rcases List.mem_cons.1 hn with rfl | hn
    ·obtain ⟨h1, h2⟩ := hM' _ (List.mem_cons_self ..)
     subst hw'
     exact arr_nr (n := ⟨id, .arr e0 u0 m (g + 1), M.r id, F1⟩) rfl hp hs f1 h1 ho
    ·exact b4 f2 M' hw' (fun n hn => hM' n (by simp [hn])) n hn own' ho
   ·intro n hn cs hR j hj
    simp only [azL]
    rcases List.mem_cons.1 hn with rfl | hn
    ·cases hR
    ·have := b5 n hn cs hR j hj; omega
end Go.VM

namespace Go.VM
variable [β : Bor]
open Go.RowKit
theorem ImRow.move {w w' : World} {Z Z' : Nat → Prop} {u : U} {l : List u.El} {a : Addr} (hZ : ∀ b, Z b → Z' b) (hw : ∀ b, Z b → w'.heap[b]? = w.heap[b]?) (h : ImRow w Z u l a) : ImRow w' Z' u l a := by
 obtain ⟨c, t, fz, p, m, q, G, h1, h2, h3, h4, h5, h6, h7⟩ := h
 refine ⟨c, t, fz, p, m, q, G, h1, by rw [hw _ h6]; exact h2, h3, h4, ?_, hZ _ h6, fun b hb => hZ _ (h7 b hb)⟩
 exact RepL.imp (fun _ _ _ hG => Rep.frame (fun b hm => hw b (h7 b (hG b hm)))) h5
theorem res_rep {M : Mem} {cs : List AV} {vs : List Value} (h : AVRepL M cs vs) : AVRep M (resA cs) (resV vs) := by
 have hl := h.length
 match cs, vs, h with
 | [c], [v], h =>
  simp only [AVRepL] at h
  obtain ⟨v', r, e, h, _⟩ := h
  cases e
  exact h
 | [], vs, h =>
  simp only [AVRepL] at h
  subst h
  simp only [resA, resV, AVRep]
  exact ⟨[], rfl, by simp only [AVRepL]⟩
 | a :: b :: cs, v :: w :: vs, h =>
  simp only [resA, resV, AVRep]
  exact ⟨_, rfl, h⟩
 | [a], [], h => simp at hl
 | [a], v :: w :: vs, h => simp at hl
 | a :: b :: cs, [v], h => simp at hl
theorem refs_res {cs : List AV} : refs (resA cs) = refsL cs := by
 match cs with
 | [c] => simp [resA, refsL]
 | [] => simp [resA, refs]
 | a :: b :: cs => simp [resA, refs]
theorem ev_list {X : Cx} {M : Mem} {t used own a} (hi : Inv X M t used own a) : ∀ (l : List Operand), AVRepL M (l.map (evA X.E t)) (l.map a.eval)
 | [] => by simp only [List.map_nil, AVRepL]
 | x :: l => by
  simp only [List.map_cons, AVRepL]
  exact ⟨_, _, rfl, (hi.ev x).1, ev_list hi l⟩
theorem map_zip {α β : Type} : ∀ (l : List α) (m : List β), l.length = m.length → (l.zip m).map (·.2) = m
 | [], [], _ => rfl
 | a :: l, b :: m, h => by simp only [List.zip_cons_cons, List.map_cons]; rw [map_zip l m (by simpa using h)]
 | [], _ :: _, h => by simp at h
 | _ :: _, [], h => by simp at h
theorem meets_not {a b : List Nat} (h : meets a b = false) : ∀ i ∈ a, i ∉ b := by
 intro i hi hb
 unfold meets at h
 rw [List.any_eq_false] at h
 have := h i hi
 simp only [List.any_eq_true, not_exists, not_and] at this
 exact this i hb (by simp)
theorem same_val {M : Mem} {h : Hp} (hh : ∀ id, lkH h id ≠ .dead → M.h id = lkH h id) : ∀ {l m : List AV} {v w : List Value}, same h l m = true → AVRepL M l v → AVRepL M m w → v = w
 | [], [], v, w, _, h1, h2 => by
  simp only [AVRepL] at h1 h2
  rw [h1, h2]
 | .po i o :: l, .po j q :: m, v, w, hs, h1, h2 => by
  simp only [same, Bool.and_eq_true, Nat.beq_eq] at hs
  obtain ⟨⟨⟨rfl, rfl⟩, hd⟩, hs⟩ := hs
  have hd : M.h i ≠ .dead := by
   have : lkH h i ≠ .dead := by intro e; rw [e] at hd; cases hd
   rw [hh i this]; exact this
  simp only [AVRepL, AVRep] at h1 h2
  obtain ⟨x, r, rfl, h3, h4⟩ := h1
  obtain ⟨y, s, rfl, h5, h6⟩ := h2
  obtain ⟨a, ha, rfl⟩ := h3 hd
  obtain ⟨b, hb, rfl⟩ := h5 hd
  rw [ha] at hb
  cases hb
  rw [same_val hh hs h4 h6]
theorem recA_at {h : Hp} {avs : List AV} : ∀ {l : List Arg} {i j f m : Nat}, recA h avs l i = true → l[j]? = some (.me f m) → okX h avs (i + j) f m = true
 | [], i, j, f, m, _, hj => by simp at hj
 | a :: l, i, 0, f, m, hr, hj => by
  simp only [List.getElem?_cons_zero, Option.some.injEq] at hj
  subst hj
  simp only [recA, Bool.and_eq_true] at hr
  exact hr.1
 | a :: l, i, j + 1, f, m, hr, hj => by
  have h2 : recA h avs l (i + 1) = true := by
   cases a <;> first | exact hr | (simp only [recA, Bool.and_eq_true] at hr; exact hr.2)
  have := recA_at h2 (show l[j]? = some (.me f m) by simpa using hj)
  rwa [show i + 1 + j = i + (j + 1) by omega] at this
theorem rec_ok {X : Cx} {M : Mem} {t used own a} {h : Hp} (hi : Inv X M t used own a) (hh : ∀ id, lkH h id ≠ .dead → M.h id = lkH h id) {avs : List AV} {as : List Arg} {vs : List Value} (hr : recA h avs as 0 = true) (hv : AVRepL M avs vs) : RecOK M.w as vs := by
 intro i f m hx
 have hk := recA_at hr hx
 rw [Nat.zero_add] at hk
 unfold okX at hk
 simp only [Bool.and_eq_true, Nat.ble_eq] at hk
 obtain ⟨hmi, hk⟩ := hk
 refine ⟨hmi, ?_⟩
 split at hk
 case h_3 => cases hk
 case h_1 f' cs k hav =>
  simp only [Bool.and_eq_true, Nat.beq_eq] at hk
  obtain ⟨⟨rfl, rfl⟩, hs⟩ := hk
  obtain ⟨v, h1, h2⟩ := hv.nth hav
  simp only [AVRep, insK] at h2
  obtain ⟨b, ty, ws, rfl, h3, h4, h5⟩ := h2
  have e := same_val hh hs ((hv.dp m).er (i - m)) h5
  have e2 : (vs.drop m)[i - m]? = some (.pointer (some ⟨b, 0, none⟩)) := by rw [List.getElem?_drop, show m + (i - m) = i by omega]; exact h1
  refine ⟨b, ty, h1, ?_⟩
  rw [hi.zf b h4, h3, ← e, er_back e2]
 case h_2 id hav =>
  split at hk
  case h_2 => cases hk
  case h_1 f' cs hl =>
   simp only [Bool.and_eq_true, Nat.beq_eq] at hk
   obtain ⟨rfl, hs⟩ := hk
   obtain ⟨v, h1, h2⟩ := hv.nth hav
   have hM : M.h id = .obj [.fn f' cs] := by rw [hh id (by rw [hl]; simp), hl]
   have hrt := hi.rt id
   rw [hM] at hrt
   obtain ⟨b, cc, ty, hb, hw, hcs, hob⟩ := hrt
   simp only [AVRep] at h2
   obtain ⟨ad, had, hv2⟩ := h2 (by rw [hM]; simp)
   rw [hb] at had
   cases had
   rw [Addr.add_zero] at hv2
   simp only [AVRepL, AVRep] at hcs
   obtain ⟨x, r, e1, ⟨ws, rfl, h3⟩, rfl⟩ := hcs
   have e := same_val hh hs (hv.dp m) h3
   refine ⟨b, ty, by rw [h1, hv2], ?_⟩
   rw [hw]
   have : cc = #[.func (.func f') #[] ws.toArray] := Array.toList_inj.1 e1
   rw [this, e]
section
variable {X : Cx} {ρ : Type} {base : Nat} {h : Hp} {PK : Nat → Hp → Option ρ} {K : AV → Hp → Option ρ} {y : ρ}
theorem call_main {fo : Operand} {args : Array Operand} {ts : Array TypeId} {f : Nat} {cs vs : List AV} (hlen : ts.size = vs.length) {A : Args} {res : Res} {q : Hp} {fn : Func}
  (hA : argsOf h (fun f => (lkN X.E.md (f + 1000000)).getD []) ((ts.toList.map X.E.code).zip vs ++ cs.map fun c => (.oth, c)) ((lkN X.E.md f).getD []) = some A) (hnd : A.taken.Nodup) (hms : ∀ k ∈ A.taken, k ∉ A.seen) (hrc : recA h (((ts.toList.map X.E.code).zip vs ++ cs.map fun c => ((.oth : U), c)).map (·.2)) A.as 0 = true)
  (hfn : X.P.funcs[f]? = some fn) (hbody : fn.body.isSome) (hname : fn.name ≠ "runtime.NumGoroutine") (hcall : ∀ B : Bor, @CallOK B X.P X.E.gl f A.as res) (hz3 : A.seen.any (Nat.beq bwId) = true → nobsL res.ret = true ∧ nobsL res.outs = true) (hz1 : azL res.ret ≤ 32) (hz2 : azL res.outs ≤ 32) (hq : backA A.lent res.outs (base + 32) = some q)
  {o : Oper} {M : Mem} {t : List (Nat × AV)} {used : Nat → Prop} {own : Nat → Option Nat} {a : Act} {next : Act → World → Prop} {Q : Exit → Act → World → Prop}
  (ho : o.op = .call { callee := .value fo, args, argTypes := ts }) (hd : ∀ d, o.dst = some d → d < X.nt) (hvs : (Op.call { callee := .value fo, args, argTypes := ts }).operands.toList.map (evA X.E t) = .fn f cs :: vs) (hh : ∀ id, lkH h id ≠ .dead → M.h id = lkH h id) (hi : Inv X M t used own a) (hb : ∀ j, j < 64 → ¬ used (base + j))
  (hn : (∀ t, res.pan ≠ some (t, true)) → ∀ M' own' a', M'.w0 = M.w0 → M'.Z = M.Z → M'.h = lkU (q ++ (rootedL res.ret base).2 ++ killed A.taken) M.h → Inv X M' (putT t o.dst (resA (rootedL res.ret base).1)) (fun j => used j ∨ base ≤ j ∧ j < base + 64) own' a' → next a' M'.w)
  (hpn : ∀ pt, res.pan = some (pt, true) → ∀ M' own', M'.w0 = M.w0 → M'.Z = M.Z → M'.h = lkU (q ++ killed A.taken) M.h → Inv X M' t (fun j => used j ∨ base ≤ j ∧ j < base + 64) own' a → Q (.panic (pchain pt)) a M'.w) : o.wp X.P a M.w next Q := by
 -- the values
 have hops : (evA X.E t fo) = .fn f cs ∧ args.toList.map (evA X.E t) = vs := by
  simp only [Op.operands, Call.operands, Array.toList_append, List.map_append, List.map_cons, List.map_nil, List.cons_append, List.nil_append, List.cons.injEq] at hvs
  exact hvs
 have hf := (hi.ev fo).1
 have hfu := (hi.ev fo).2
 rw [hops.1] at hf hfu
 simp only [AVRep] at hf
 obtain ⟨ws, hfv, hws⟩ := hf
 have hav := ev_list hi args.toList
 rw [hops.2] at hav
 have hval : AVRepL M (((ts.toList.map X.E.code).zip vs ++ cs.map fun c => (U.oth, c)).map (·.2)) (args.toList.map a.eval ++ ws) := by
  rw [List.map_append, map_zip _ _ (by simpa using hlen), List.map_map]
  have : ((fun x : U × AV => x.2) ∘ fun c => (U.oth, c)) = id := rfl
  rw [this, List.map_id]
  exact AVRepL.app hav hws
 obtain ⟨S, L, r1, r2, r3, r4, r5, r6, r7, r8⟩ := argsOf_rep hi hh hA hval
 have hrun : (execOp a.eval o).run X.P M.w = .ok (.enter f (args.toList.map a.eval ++ ws).toArray) M.w := by
  have h1 : (callFunc f (args.toList.map a.eval ++ ws).toArray).run X.P M.w = .ok (.enter f (args.toList.map a.eval ++ ws).toArray) M.w := by
   cases hbc : fn.body with
   | none => rw [hbc] at hbody; cases hbody
   | some c => simp [callFunc, hfn, hname, hbc]
  rw [← h1]
  simp [execOp, ho, resolve, hfv, Deferred.ofValue, invoke]
  congr 2
  apply Array.toList_inj.1
  simp
 unfold Oper.wp
 rw [hrun, Oper.upon_enter]
 have hsee : ∀ {b}, Sees M own A.seen b → b < M.w.heap.size ∧ b ∉ L := by
  intro b hs
  rcases hs with hZ | ⟨k, hk, e'⟩
  ·refine ⟨by have := hi.zb b hZ; have := hi.sz; omega, fun hbL => ?_⟩
   obtain ⟨id, hid, e⟩ := r3 b hbL
   exact (hi.ow b id e).2 hZ
  ·refine ⟨(hi.ow b k e').1, fun hbL => ?_⟩
   obtain ⟨id, hid, e⟩ := r3 b hbL
   rw [e] at e'; cases e'
   exact hms _ hid hk
 have hSL : ∀ b ∈ S, b ∉ L := fun b hb => (hsee (r4 b hb)).2
 have hgl : GlobOK X.E.gl M.w L := by
  have hnL : ∀ b, M.Z b → b < M.w.heap.size ∧ b ∉ L := fun b hZ => by
   refine ⟨?_, fun hbL => ?_⟩
   ·have := hi.zb b hZ; have := hi.sz; omega
   ·obtain ⟨id, _, e⟩ := r3 b hbL
    exact (hi.ow b id e).2 hZ
  have him0 : ∀ g u x, lkN X.E.gl g = some ⟨u, x⟩ → ImRow M.w0 M.Z u [x] ⟨g, 0, none⟩ := fun g u x hg => by
   rcases hi.gl g u x hg with h | ⟨n, v, _, _, h⟩
   ·exact h.2
   ·exact h
  refine ⟨fun g u x hg => ?_, hi.bo.frame fun b hb => hi.zf b (hi.bz b hb), fun b hb => hnL b (hi.bz b hb), fun g u x hg => ?gz⟩
  case gz =>
   obtain ⟨cs, t, fz, h1, h2⟩ := hi.gz g u x hg
   obtain ⟨c, t', fz', p, m, q, G, _, _, _, _, _, hZ, _⟩ := him0 g u x hg
   exact ⟨cs, t, fz, by rw [hi.zf g hZ]; exact h1, h2⟩
  have him : ImRow M.w0 M.Z u [x] ⟨g, 0, none⟩ := by
   rcases hi.gl g u x hg with h | ⟨n, v, _, _, h⟩
   ·exact h.2
   ·exact h
  exact ImRow.move hnL (fun b hZ => hi.zf b hZ) him
 have hcall' : Calls X.P f (args.toList.map a.eval ++ ws).toArray M.w fun e w' => ∃ rv F O, e = endR res.pan rv ∧ @RetB β w' res.pan res.ret rv F ∧ @OutsRep β M.w w' A.as (args.toList.map a.eval ++ ws) res.outs O ∧ (F ++ O).Nodup ∧ (∀ b ∈ F ++ O, b < w'.heap.size ∧ (b < M.w.heap.size → b ∈ L)) ∧
   w'.os = M.w.os ∧ w'.tape = M.w.tape ∧ w'.output = M.w.output ∧ M.w.heap.size ≤ w'.heap.size ∧ ∀ b, b < M.w.heap.size → b ∉ L → w'.heap[b]? = M.w.heap[b]? := by
  obtain ⟨S0, s1, s2⟩ := r1
  by_cases hbw : bwId ∈ A.seen
  ·obtain ⟨n1, n2⟩ := hz3 (List.any_eq_true.2 ⟨bwId, hbw, by simp⟩)
   refine Calls.mono (hcall (enl β M.w L) M.w _ S L (s2 (enl β M.w L) enl_mor fun _ u x v F hF hS => .inr ⟨F, hF, fun b hb => hsee (s1 b (hS b hb))⟩) (rec_ok hi hh hrc hval) (r2 hnd) hSL (enl_glob hgl)) ?_
   rintro e w' ⟨rv, F, O, h1, h2, h3, h4⟩
   exact ⟨rv, F, O, h1, RetB.indep n1 h2, OutsRep.indep n2 h3, h4⟩
  ·exact hcall β M.w _ S L (s2 β (fun _ _ _ h => h) fun h => absurd h hbw) (rec_ok hi hh hrc hval) (r2 hnd) hSL hgl
 refine Calls.mono hcall' ?_
 rintro e w' ⟨rv, F, O, rfl, hretB, hout, hFO, hblk, hos, htp, hot, hsz, hfr⟩
 have core : ∀ (rets : List TV) (rvs : List Value), azL rets ≤ 32 → RetRep w' rets rvs F → ∃ M' own', M'.w0 = M.w0 ∧ M'.Z = M.Z ∧ M'.w = w' ∧ M'.h = lkU (q ++ (rootedL rets base).2 ++ killed A.taken) M.h ∧
   Inv X M' t (fun j => used j ∨ base ≤ j ∧ j < base + 64) own' a ∧ AVRepL M' (rootedL rets base).1 rvs ∧ ∀ j ∈ refsL (rootedL rets base).1, used j ∨ base ≤ j ∧ j < base + 64 := ?core
 case core =>
  intro rets rvs hz1 hret
  obtain ⟨hF1, hO10, hFOd0⟩ := List.nodup_append.1 hFO
  obtain ⟨O', hlent, hOO, hO2⟩ := r8 hnd w' _ _ (fun b id e hid hb => ⟨fun hbO => hb ((hblk b (List.mem_append_right _ hbO)).2 (hi.ow b id e).1), hfr b (hi.ow b id e).1 hb⟩) hout
  have hO1 := hO2 hO10
  have hFOd : ∀ p ∈ F, ∀ q ∈ O', p ≠ q := by
   intro p hp q hq e
   subst e
   rcases hOO p hq with h | ⟨h, id, hid, e⟩
   ·exact hFOd0 p hp p h rfl
   ·exact h ((hblk p (List.mem_append_left _ hp)).2 (hi.ow p id e).1)
  obtain ⟨Nq, hNq, hbk⟩ := backA_rep hlent hq
  obtain ⟨Nc, hNc, hcm⟩ := rootedL_rep base hret
  have hlu : ∀ l ∈ A.lent, used (lentId l) := fun l hl => r5 _ (r6 l hl)
  have hfresh : ∀ j, base ≤ j → j < base + 64 → ¬ used j := by
   intro j h1 h2
   have := hb (j - base) (by omega)
   rwa [show base + (j - base) = j by omega] at this
  have hup : q ++ (rootedL rets base).2 ++ killed A.taken = nrH (Nq ++ Nc) ++ killed A.taken := by
   rw [← hNq, ← hNc]; simp [nrH]
  have hid : ((Nq ++ Nc).map NR.id).Nodup := by
   rw [List.map_append, List.nodup_append]
   refine ⟨hbk.nd (fun l hl hr => hfresh _ (by omega) (by omega) (hlu l hl)) (r7 hnd), hcm.nd, fun i hi' j hj e => ?_⟩
   obtain ⟨n, hn', rfl⟩ := List.mem_map.1 hi'
   obtain ⟨m, hm, rfl⟩ := List.mem_map.1 hj
   have h2 := hcm.rg m hm
   rcases hbk.rg n hn' with ⟨⟨l, hl, e'⟩, _⟩ | h1
   ·exact hfresh n.id (by omega) (by omega) (e' ▸ hlu l hl)
   ·omega
  have key := Inv.many hi (N := Nq ++ Nc) (ts := A.taken) (w' := w') (used' := fun j => used j ∨ base ≤ j ∧ j < base + 64) hid ?F (fun j hj => .inl hj) ?hnu ?hold ?hfr ?hFb ?hrt ?hrf hsz hos htp hot
  case F =>
   rw [List.flatMap_append, hbk.fF, hcm.fF, List.nodup_append]
   exact ⟨hO1, hF1, fun p hp q hq e => hFOd q hq p hp e.symm⟩
  case hnu =>
   intro n hn'
   rcases List.mem_append.1 hn' with hn' | hn'
   ·rcases hbk.rg n hn' with ⟨⟨l, hl, e'⟩, _⟩ | h1
    ·exact .inl (e' ▸ hlu l hl)
    ·right; omega
   ·have := hcm.rg n hn'; right; omega
  case hold =>
   intro n hn' hu
   rcases List.mem_append.1 hn' with hn' | hn'
   ·rcases hbk.rg n hn' with ⟨⟨l, hl, e'⟩, h1⟩ | h1
    ·exact ⟨e' ▸ r6 l hl, h1⟩
    ·exact absurd hu (hfresh _ (by omega) (by omega))
   ·have := hcm.rg n hn'
    exact absurd hu (hfresh _ (by omega) (by omega))
  case hfr =>
   intro b hb1 hb2
   refine hfr b hb1 fun hbL => ?_
   obtain ⟨id, hid, e⟩ := r3 b hbL
   exact hb2 id e hid
  case hFb =>
   intro n hn' b hbn
   have hbm : b ∈ F ++ O ∨ ∃ id ∈ A.taken, own b = some id := by
    have : b ∈ (Nq ++ Nc).flatMap NR.F := List.mem_flatMap.2 ⟨n, hn', hbn⟩
    rw [List.flatMap_append, hbk.fF, hcm.fF] at this
    rcases List.mem_append.1 this with h | h
    ·rcases hOO b h with h | ⟨_, h⟩
     ·exact .inl (List.mem_append_right _ h)
     ·exact .inr h
    ·exact .inl (List.mem_append_left _ h)
   rcases hbm with hbm | ⟨id, hid, e⟩
   case inr =>
    refine ⟨Nat.lt_of_lt_of_le (hi.ow b id e).1 hsz, (hi.ow b id e).2, fun k hk => ?_⟩
    rw [e] at hk; cases hk
    exact hid
   obtain ⟨h1, h2⟩ := hblk b hbm
   refine ⟨h1, fun hZ => ?_, fun k hk => ?_⟩
   ·have h3 := hi.zb b hZ
    have h4 := hi.sz
    obtain ⟨id, _, e⟩ := r3 b (h2 (by omega))
    exact (hi.ow b id e).2 hZ
   ·obtain ⟨id, hid, e⟩ := r3 b (h2 (hi.ow b k hk).1)
    rw [hk] at e; cases e
    exact hid
  case hrt =>
   intro M' _ _ hw' _ hM' n hn' own' ho'
   rcases List.mem_append.1 hn' with hn' | hn'
   ·exact hbk.rt hO1 M' hw' (fun m hm => hM' m (by simp [hm])) n hn' own' ho'
   ·exact hcm.rt hF1 hw' (fun m hm => hM' m (by simp [hm])) hn' ho'
  case hrf =>
   intro n hn' cs' hR j hj
   rcases List.mem_append.1 hn' with hn' | hn'
   ·have := hbk.rf n hn' cs' hR j hj
    right; omega
   ·exact ((hcm.ar n hn').no hR).elim
  refine ⟨⟨M.w0, M.Z, lkU (nrH (Nq ++ Nc) ++ killed A.taken) M.h, nrR (Nq ++ Nc) M.r, w'⟩, nrOwn (Nq ++ Nc) A.taken own, rfl, rfl, rfl, by rw [hup], key, ?_, ?_⟩
  ·refine hcm.av ⟨M.w0, M.Z, lkU (nrH (Nq ++ Nc) ++ killed A.taken) M.h, nrR (Nq ++ Nc) M.r, w'⟩ fun n hn' => ⟨?_, ?_⟩
   ·show nrR _ _ _ = _
    unfold nrR
    rw [find_id hid (List.mem_append_right _ hn')]
   ·show lkU _ _ _ = _
    exact lkU_nr hid (List.mem_append_right _ hn')
  ·intro j hj
   have := hcm.rf j hj
   right; omega
 have norm : (∀ t, res.pan ≠ some (t, true)) → endR res.pan rv = .returned (resV rv) ∧ RetRep w' res.ret rv F := by
  intro hnp
  cases hp : res.pan with
  | none => rw [hp] at hretB; exact ⟨rfl, hretB⟩
  | some p =>
   obtain ⟨pt, b⟩ := p
   cases b with
   | true => exact absurd hp (hnp pt)
   | false => rw [hp] at hretB; exact ⟨rfl, hretB⟩
 by_cases hpt : ∃ pt, res.pan = some (pt, true)
 ·obtain ⟨pt, hpt⟩ := hpt
  rw [hpt] at hretB ⊢
  obtain rfl : F = [] := hretB
  obtain ⟨M', own', e1, e2, rfl, e4, e5, _, _⟩ := core [] [] (by simp [azL]) ⟨rfl, rfl⟩
  exact hpn pt hpt M' own' e1 e2 (by rw [e4]; simp [rootedL]) e5
 ·have hnp : ∀ t, res.pan ≠ some (t, true) := fun t h => hpt ⟨t, h⟩
  obtain ⟨he, hret⟩ := norm hnp
  rw [he]
  obtain ⟨M', own', e1, e2, rfl, e4, e5, e6, e7⟩ := core res.ret rv hz1 hret
  refine hn hnp M' own' _ e1 e2 e4 ?_
  refine e5.put hd (res_rep e6) ?_
  intro j hj
  rw [refs_res] at hj
  exact e7 j hj
theorem call_ok (hcal : CalOK X.P X.E.gl X.E) {fo : Operand} {args : Array Operand} {ts : Array TypeId} {f : Nat} {cs vs : List AV} (hlen : ts.size = vs.length)
  (hy : callA X.E base h f ((ts.toList.map X.E.code).zip vs ++ cs.map fun c => (.oth, c)) PK K = some y) :
  GoodP X base (.call { callee := .value fo, args, argTypes := ts }) (.fn f cs :: vs) h PK K y := by
 unfold callA at hy
 split at hy
 case h_2 => cases hy
 case h_1 A hA =>
 obtain ⟨hc, hy⟩ := sw_some hy
 simp only [Bool.and_eq_true, Bool.not_eq_true'] at hc
 obtain ⟨⟨hnd, hms⟩, hrc⟩ := hc
 have hnd := nodup_iff.1 hnd
 have hms := meets_not hms
 obtain ⟨⟨fn, hfn, hbody, hname⟩, res, hK, hcall⟩ := hcal _ _ _ _ _ hy
 simp only at hK
 obtain ⟨hz, hK⟩ := sw_some hK
 simp only [Bool.and_eq_true, Nat.ble_eq, Bool.or_eq_true, Bool.not_eq_true'] at hz
 obtain ⟨⟨hz1, hz2⟩, hz3⟩ := hz
 have hz3 : A.seen.any (Nat.beq bwId) = true → nobsL res.ret = true ∧ nobsL res.outs = true := fun h => hz3.elim (fun h' => by rw [h] at h'; cases h') id
 split at hK
 case h_2 => cases hK
 case h_1 q hq =>
 have main : ∀ (o : Oper) (M : Mem) (t : List (Nat × AV)) (used : Nat → Prop) (own : Nat → Option Nat) (a : Act) (next : Act → World → Prop) (Q : Exit → Act → World → Prop),
   o.op = .call { callee := .value fo, args, argTypes := ts } → (∀ d, o.dst = some d → d < X.nt) → (Op.call { callee := .value fo, args, argTypes := ts }).operands.toList.map (evA X.E t) = .fn f cs :: vs → (∀ id, lkH h id ≠ .dead → M.h id = lkH h id) → Inv X M t used own a → (∀ j, j < 64 → ¬ used (base + j)) →
   ((∀ t, res.pan ≠ some (t, true)) → ∀ M' own' a', M'.w0 = M.w0 → M'.Z = M.Z → M'.h = lkU (q ++ (rootedL res.ret base).2 ++ killed A.taken) M.h → Inv X M' (putT t o.dst (resA (rootedL res.ret base).1)) (fun j => used j ∨ base ≤ j ∧ j < base + 64) own' a' → next a' M'.w) →
   (∀ pt, res.pan = some (pt, true) → ∀ M' own', M'.w0 = M.w0 → M'.Z = M.Z → M'.h = lkU (q ++ killed A.taken) M.h → Inv X M' t (fun j => used j ∨ base ≤ j ∧ j < base + 64) own' a → Q (.panic (pchain pt)) a M'.w) → o.wp X.P a M.w next Q := ?main
 case main =>
  intro o M t used own a next Q ho hd hvs hh hi hb hn hpn
  exact call_main hlen hA hnd hms hrc hfn hbody hname hcall hz3 hz1 hz2 hq ho hd hvs hh hi hb hn hpn
 split at hK
 ·rename_i hp
  exact .inl ⟨_, _, hK, fun o M t used own a next Q ho hd hvs hh hi hb hn => main o M t used own a next Q ho hd hvs hh hi hb (fun _ => hn) (fun pt h => by rw [hp] at h; cases h)⟩
 ·rename_i pt b hp
  rcases cond_some hK with ⟨rfl, hK⟩ | ⟨rfl, hK⟩
  ·exact .inr ⟨_, _, hK, fun o M t used own a next Q ho hd hvs hh hi hb hn => main o M t used own a next Q ho hd hvs hh hi hb (fun h => absurd hp (h _)) (fun pt' h => by rw [hp] at h; cases h; exact hn)⟩
  ·exact .inl ⟨_, _, hK, fun o M t used own a next Q ho hd hvs hh hi hb hn => main o M t used own a next Q ho hd hvs hh hi hb (fun _ => hn) (fun pt h => by rw [hp] at h; cases h)⟩
end
end Go.VM

