/- The machine over typed values, part 4. -/
import Derived.ChangeArms
import Derived.Deep.Slices
import Derived.WideShapes
import Derived.Laws.BitsLemmas
import Derived.Lib.LaidTab
import Derived.Test.YtlmenmaccoljeaaV1
import Derived.Test.YtlmenmaccoljeaaV2
import Derived.Test.YtlmenmaccoljeaaV3
set_option linter.unusedSimpArgs false
set_option linter.unusedVariables false
set_option linter.unusedSectionVars false
namespace Go.VM
variable [Bor]
open Go.RowKit
mutual
theorem get_arg : ∀ {t : Ty} {a : Arg} {x : t.El}, Ty.get t a = some x → a = Ty.arg t x
  | .v u, .v w y, x, h => by
    simp only [Ty.get] at h
    split at h
    · rename_i e; subst e; simp only [Option.some.injEq] at h; subst h; rfl
    · cases h
  | .p u, .p w y, x, h => by
    simp only [Ty.get] at h
    split at h
    · rename_i e; subst e; simp only [Option.some.injEq] at h; subst h; rfl
    · cases h
  | .s e u, .s e' w y, x, h => by
    simp only [Ty.get] at h
    split at h
    · rename_i e; obtain ⟨rfl, rfl⟩ := e; simp only [Option.some.injEq] at h; subst h; rfl
    · cases h
  | .g u, .g w y, x, h => by
    simp only [Ty.get] at h
    split at h
    · rename_i e; subst e; simp only [Option.some.injEq] at h; subst h; rfl
    · cases h
  | .q u, .q w y, x, h => by
    simp only [Ty.get] at h
    split at h
    · rename_i e; subst e; simp only [Option.some.injEq] at h; subst h; rfl
    · cases h
  | .fn f cs, .fn g as, x, h => by
    simp only [Ty.get] at h
    obtain ⟨e, h2⟩ := sw_some h
    have e : f = g := by simpa using e
    have h3 := gets_args h2
    simp only [Ty.arg]
    rw [← h3, e]
  | .me f m, .me g n, x, h => by
    simp only [Ty.get] at h
    obtain ⟨e, _⟩ := sw_some h
    simp only [Bool.and_eq_true, Nat.beq_eq] at e
    simp only [Ty.arg]
    rw [e.1, e.2]
  | .ag cs, .ag as, x, h => by
    simp only [Ty.get] at h
    have h3 := gets_args h
    simp only [Ty.arg]
    rw [← h3]
  | .cf f cs, .cf g as, x, h => by
    simp only [Ty.get] at h
    obtain ⟨e, h2⟩ := sw_some h
    have e : f = g := by simpa using e
    have h3 := gets_args h2
    simp only [Ty.arg]
    rw [← h3, e]
  | .cf .., .v .., _, h => by simp [Ty.get] at h
  | .v .., .cf .., _, h => by simp [Ty.get] at h
  | .cf .., .p .., _, h => by simp [Ty.get] at h
  | .p .., .cf .., _, h => by simp [Ty.get] at h
  | .cf .., .s .., _, h => by simp [Ty.get] at h
  | .s .., .cf .., _, h => by simp [Ty.get] at h
  | .cf .., .g .., _, h => by simp [Ty.get] at h
  | .g .., .cf .., _, h => by simp [Ty.get] at h
  | .cf .., .q .., _, h => by simp [Ty.get] at h
  | .q .., .cf .., _, h => by simp [Ty.get] at h
  | .cf .., .fn .., _, h => by simp [Ty.get] at h
  | .fn .., .cf .., _, h => by simp [Ty.get] at h
  | .cf .., .me .., _, h => by simp [Ty.get] at h
  | .me .., .cf .., _, h => by simp [Ty.get] at h
  | .cf .., .ag .., _, h => by simp [Ty.get] at h
  | .ag .., .cf .., _, h => by simp [Ty.get] at h
  | .ag .., .v .., _, h => by simp [Ty.get] at h
  | .v .., .ag .., _, h => by simp [Ty.get] at h
  | .ag .., .p .., _, h => by simp [Ty.get] at h
  | .p .., .ag .., _, h => by simp [Ty.get] at h
  | .ag .., .s .., _, h => by simp [Ty.get] at h
  | .s .., .ag .., _, h => by simp [Ty.get] at h
  | .ag .., .g .., _, h => by simp [Ty.get] at h
  | .g .., .ag .., _, h => by simp [Ty.get] at h
  | .ag .., .q .., _, h => by simp [Ty.get] at h
  | .q .., .ag .., _, h => by simp [Ty.get] at h
  | .ag .., .fn .., _, h => by simp [Ty.get] at h
  | .fn .., .ag .., _, h => by simp [Ty.get] at h
  | .ag .., .me .., _, h => by simp [Ty.get] at h
  | .me .., .ag .., _, h => by simp [Ty.get] at h
  | .me .., .v .., _, h => by simp [Ty.get] at h
  | .v .., .me .., _, h => by simp [Ty.get] at h
  | .me .., .p .., _, h => by simp [Ty.get] at h
  | .p .., .me .., _, h => by simp [Ty.get] at h
  | .me .., .q .., _, h => by simp [Ty.get] at h
  | .q .., .me .., _, h => by simp [Ty.get] at h
  | .me .., .s .., _, h => by simp [Ty.get] at h
  | .s .., .me .., _, h => by simp [Ty.get] at h
  | .me .., .g .., _, h => by simp [Ty.get] at h
  | .g .., .me .., _, h => by simp [Ty.get] at h
  | .me .., .fn .., _, h => by simp [Ty.get] at h
  | .fn .., .me .., _, h => by simp [Ty.get] at h
  | .v .., .p .., _, h => by simp [Ty.get] at h
  | .v .., .s .., _, h => by simp [Ty.get] at h
  | .v .., .g .., _, h => by simp [Ty.get] at h
  | .v .., .fn .., _, h => by simp [Ty.get] at h
  | .p .., .v .., _, h => by simp [Ty.get] at h
  | .p .., .s .., _, h => by simp [Ty.get] at h
  | .p .., .g .., _, h => by simp [Ty.get] at h
  | .p .., .fn .., _, h => by simp [Ty.get] at h
  | .s .., .v .., _, h => by simp [Ty.get] at h
  | .s .., .p .., _, h => by simp [Ty.get] at h
  | .s .., .g .., _, h => by simp [Ty.get] at h
  | .s .., .fn .., _, h => by simp [Ty.get] at h
  | .g .., .v .., _, h => by simp [Ty.get] at h
  | .g .., .p .., _, h => by simp [Ty.get] at h
  | .g .., .s .., _, h => by simp [Ty.get] at h
  | .g .., .fn .., _, h => by simp [Ty.get] at h
  | .fn .., .v .., _, h => by simp [Ty.get] at h
  | .fn .., .p .., _, h => by simp [Ty.get] at h
  | .fn .., .s .., _, h => by simp [Ty.get] at h
  | .fn .., .g .., _, h => by simp [Ty.get] at h
  | .q .., .v .., _, h => by simp [Ty.get] at h
  | .v .., .q .., _, h => by simp [Ty.get] at h
  | .q .., .p .., _, h => by simp [Ty.get] at h
  | .p .., .q .., _, h => by simp [Ty.get] at h
  | .q .., .s .., _, h => by simp [Ty.get] at h
  | .s .., .q .., _, h => by simp [Ty.get] at h
  | .q .., .g .., _, h => by simp [Ty.get] at h
  | .g .., .q .., _, h => by simp [Ty.get] at h
  | .q .., .fn .., _, h => by simp [Ty.get] at h
  | .fn .., .q .., _, h => by simp [Ty.get] at h
theorem gets_args : ∀ {l : List Ty} {as : List Arg} {x : Ty.Els l}, Ty.gets l as = some x → as = Ty.args l x
  | [], [], x, _ => rfl
  | t :: l, a :: as, x, h => by
    simp only [Ty.gets] at h
    split at h
    · rename_i y hy
      split at h
      · rename_i z hz
        simp only [Option.some.injEq] at h
        subst h
        simp only [Ty.args]
        rw [get_arg hy, gets_args hz]
      · cases h
    · cases h
  | [], _ :: _, _, h => by simp [Ty.gets] at h
  | _ :: _, [], _, h => by simp [Ty.gets] at h
end
def FnHere (P : Program) (f : Nat) : Prop := ∃ fn, P.funcs[f]? = some fn ∧ fn.body.isSome ∧ fn.name ≠ "runtime.NumGoroutine"
def CtrAt (P : Program) (gl : List (Nat × TV)) (e : Ctr) (n : Nat) : Prop := FnHere P e.f ∧ ∀ (B : Bor) x y, e.fn n x = some y → @CallOK B P gl e.f (Ty.args e.ins x) (e.res y)
def CtrOK (P : Program) (gl : List (Nat × TV)) (e : Ctr) : Prop := ∀ n, CtrAt P gl e n
theorem calOf_ok {P : Program} {gl : List (Nat × TV)} {ρ : Type} {n f : Nat} {as : List Arg} {K : Res → Option ρ} {y : ρ} : ∀ {T : List Ctr}, (∀ e ∈ T, CtrAt P gl e n) → calOf T n ρ f as K = some y → FnHere P f ∧ ∃ res, K res = some y ∧ ∀ B : Bor, @CallOK B P gl f as res
  | [], _, h => by cases h
  | e :: T, hT, h => by
    simp only [calOf] at h
    cases hb : Nat.beq e.f f with
    | true =>
      rw [hb, sw_true rfl] at h
      obtain rfl : e.f = f := by simpa using hb
      split at h
      · rename_i x hx
        cases hf : e.fn n x with
        | none => rw [hf] at h; cases h
        | some z =>
          rw [hf] at h
          obtain ⟨h1, h2⟩ := hT e (by simp)
          exact ⟨h1, _, h, by rw [gets_args hx]; exact fun B => h2 B x z hf⟩
      · exact calOf_ok (fun e he => hT e (by simp [he])) h
    | false =>
      rw [hb, sw_false rfl] at h
      exact calOf_ok (fun e he => hT e (by simp [he])) h
theorem args_len {w : World} : ∀ {as : List Arg} {vs : List Value} {S L : List Nat}, ArgsRep w as vs S L → vs.length = as.length
  | [], vs, S, L, h => by unfold ArgsRep at h; rw [h.1]; rfl
  | a :: as, vs, S, L, h => by
    unfold ArgsRep at h
    obtain ⟨v, vr, S1, S2, L1, L2, rfl, _, _, _, h⟩ := h
    simp [args_len h]
theorem tyArgs_len : ∀ {l : List Ty} {x : Ty.Els l}, (Ty.args l x).length = l.length
  | [], _ => rfl
  | t :: l, x => by simp only [Ty.args, List.length_cons, tyArgs_len]
/-- what is asked of a function's text -/
structure Text (P : Program) (F : Fun) (e : Ctr) : Prop where
  fn : ∃ fn, P.funcs[e.f]? = some fn ∧ fn.body = some F.c ∧ fn.name ≠ "runtime.NumGoroutine" ∧ fn.results.toList = F.rv.map (·.1) ∧ dstB fn.ntmps F.c = true ∧ e.ins.length ≤ fn.ntmps ∧ fn.ntmps ≤ panT
  np : ∀ x, F.np = jA (Ty.args e.ins x) 0
  outs : ∀ x, F.outs = outsL (Ty.args e.ins x)
  rv : F.rv.length + (match e.pan with | none => 0 | some _ => 1) = e.ret.length
/-- what is asked of the tables -/
structure Tabs (P : Program) (ty : List (Nat × U)) (gl : List (Nat × TV)) : Prop where
  ty : ∀ t u, lkN ty t = some u → TyOK P t u
  gl : ∀ g u x, lkN gl g = some ⟨u, x⟩ → u.good = true
  mx : P.follows .mixedOrders = true
theorem run_goRec {α ρ : Type} {E : Nat → En} {np : Nat} {ks : List (Nat × Keep)} {fin : St → Option ρ} {c : Code} {lb : α → Nat} {st : α → St} {step : Nat → (α → Option ρ) → α → Option ρ}
    (h : ∀ n (goto : Nat → St → Option ρ) y, seg (E n) np ks goto fin c (lb y) (st y) = step n (fun z => goto (lb z) (st z)) y) : ∀ n y, run E np ks fin c n (lb y) (st y) = goRec step n y
  | 0, y => rfl
  | n + 1, y => by
    simp only [run, goRec]
    rw [h]
    congr 1
    funext z
    exact run_goRec h n z
/-- the builders' methods that a table of modes names -/
def BlsOK (P : Program) (md : List (Nat × List Md)) : Prop := ∀ g k T t, lkN md g = some [.bl k T t] → BldOK P T t g k
theorem blsNo {P : Program} {md : List (Nat × List Md)} (h : md.all (fun x => match x.2 with | [.bl ..] => false | _ => true) = true) : BlsOK P md := by
  intro g k T t hl
  have : ∀ {l : List (Nat × List Md)}, l.all (fun x => match x.2 with | [.bl ..] => false | _ => true) = true → lkN l g = some [.bl k T t] → False := by
    intro l
    induction l with
    | nil => intro _ h; simp [lkN] at h
    | cons x l ih =>
      intro h1 h2
      obtain ⟨i, v⟩ := x
      simp only [List.all_cons, Bool.and_eq_true] at h1
      simp only [lkN] at h2
      cases hb : Nat.beq i g with
      | true => rw [hb] at h2; simp only [sw, Option.some.injEq] at h2; subst h2; simp at h1
      | false => rw [hb] at h2; exact ih h1.2 h2
  exact (this h hl).elim
theorem blsAll {P : Program} {md : List (Nat × List Md)} (W : List (Nat × Nat × Nat × Nat)) (hW : ∀ w ∈ W, BldOK P w.2.2.1 w.2.2.2 w.1 w.2.1) (h : md.all (fun x => match x.2 with | [.bl k T t] => W.any (fun w => decide (w = (x.1, k, T, t))) | _ => true) = true) : BlsOK P md := by
  intro g k T t hl
  have : ∀ {l : List (Nat × List Md)}, l.all (fun x => match x.2 with | [.bl k T t] => W.any (fun w => decide (w = (x.1, k, T, t))) | _ => true) = true → lkN l g = some [.bl k T t] → (g, k, T, t) ∈ W := by
    intro l
    induction l with
    | nil => intro _ h; simp [lkN] at h
    | cons x l ih =>
      intro h1 h2
      obtain ⟨i, v⟩ := x
      simp only [List.all_cons, Bool.and_eq_true] at h1
      simp only [lkN] at h2
      cases hb : Nat.beq i g with
      | true =>
        rw [hb] at h2; simp only [sw, Option.some.injEq] at h2; subst h2
        simp only [Nat.beq_eq] at hb
        subst hb
        obtain ⟨w, hw, e⟩ := List.any_eq_true.1 h1.1
        have e := of_decide_eq_true e
        subst e
        exact hw
      | false => rw [hb] at h2; exact ih h1.2 h2
  exact hW _ (this h hl)
theorem ctr_run {P : Program} {ty : List (Nat × U)} {gl : List (Nat × TV)} {md : List (Nat × List Md)} {T : List Ctr} {F : Fun} {e : Ctr} {α : Type} {lb : α → Nat} {st : α → St} {step : Nat → (α → Option (Tup (e.ret ++ e.outs))) → α → Option (Tup (e.ret ++ e.outs))}
    (ht : Tabs P ty gl) (hx : Text P F e) (hrun : ∀ n y, run (fun n => (⟨ty, gl, md, calOf T n⟩ : En)) F.np F.ks (F.fin ⟨ty, gl, md, calOf T 0⟩ (e.ret ++ e.outs) e.pan) F.c n (lb y) (st y) = goRec step n y)
    (hent : ∀ n x, ∃ p, lb p = 0 ∧ st p = enter (Ty.args e.ins x) F.np ∧ e.fn n x = goRec step n p) {n : Nat} (hT : ∀ m < n, ∀ c ∈ T, CtrAt P gl c m) (hbl : BlsOK P md) : CtrAt P gl e n := by
  obtain ⟨fn, h1, h2, h3, h4, h5, h6, h7⟩ := hx.fn
  refine ⟨⟨fn, h1, by rw [h2]; rfl, h3⟩, fun B x y hy => ?_⟩
  obtain ⟨p, hp1, hp2, hp3⟩ := hent n x
  rw [hp3, ← hrun, hp1, hp2] at hy
  have hrv := hx.rv
  refine fun_ok (E := fun n => ⟨ty, gl, md, calOf T n⟩) (F := F) (K := packR e.pan (F.rv.map (·.2)) (e.ret ++ e.outs)) (m := n) (Mx := n) h1 h2 h4 h5 (fun _ => rfl) ht.gl (fun _ => ht.ty) ?_ ht.mx (fun _ => hbl) (Nat.le_refl _) (hx.np x) (hx.outs x) ?_ h7 ?_ ?_ hy
  · intro m hm ρ f args K z hz
    exact calOf_ok (hT m hm) hz
  · intro w vs S L h
    rw [args_len h, tyArgs_len]; exact h6
  · intro r hr hn hl
    obtain ⟨ret, outs, pan⟩ := r
    simp only at hn hl
    subst hn
    unfold packR at hr
    unfold Ctr.res
    cases hp : e.pan with
    | none =>
      rw [hp] at hr hrv
      simp only at hr
      have hrv : F.rv.length + 0 = e.ret.length := hrv
      have := tup_tvs hr
      simp only [this]
      rw [Nat.add_zero] at hrv
      rw [← hrv, ← hl]
      exact ⟨by simp, by simp, by simp⟩
    | some t =>
      rw [hp] at hr hrv
      simp only at hr
      have hrv : F.rv.length + 1 = e.ret.length := hrv
      have := tup_tvs hr
      simp only [this]
      rw [← hrv, ← hl]
      exact ⟨by simp, by simp, by simp⟩
  · intro t m hr
    unfold packR at hr
    unfold Ctr.res
    cases hp : e.pan with
    | none => rw [hp] at hr; cases hr
    | some t' =>
      rw [hp] at hr hrv
      simp only at hr
      obtain ⟨hb, hr2⟩ := sw_some hr
      clear hr
      obtain rfl : t' = t := by simpa using hb
      have hrv : F.rv.length + 1 = e.ret.length := hrv
      have := tup_tvs hr2
      simp only [this]
      rw [← hrv]
      exact ⟨trivial, by simp⟩
theorem ctr_at {P : Program} {ty : List (Nat × U)} {gl : List (Nat × TV)} {md : List (Nat × List Md)} {T : List Ctr} {F : Fun} {e : Ctr} {α : Type} {lb : α → Nat} {st : α → St} {step : Nat → (α → Option (Tup (e.ret ++ e.outs))) → α → Option (Tup (e.ret ++ e.outs))}
    (ht : Tabs P ty gl) (hx : Text P F e) (hseg : ∀ n goto y, seg (⟨ty, gl, md, calOf T n⟩ : En) F.np F.ks goto (F.fin ⟨ty, gl, md, calOf T 0⟩ (e.ret ++ e.outs) e.pan) F.c (lb y) (st y) = step n (fun z => goto (lb z) (st z)) y)
    (hent : ∀ n x, ∃ p, lb p = 0 ∧ st p = enter (Ty.args e.ins x) F.np ∧ e.fn n x = goRec step n p) {n : Nat} (hT : ∀ m < n, ∀ c ∈ T, CtrAt P gl c m) (hbl : BlsOK P md) : CtrAt P gl e n :=
  ctr_run ht hx (fun n y => run_goRec hseg n y) hent hT hbl
/-- not calling itself -/
theorem ctr_ok {P : Program} {ty : List (Nat × U)} {gl : List (Nat × TV)} {md : List (Nat × List Md)} {T : List Ctr} {F : Fun} {e : Ctr} {α : Type} {lb : α → Nat} {st : α → St} {step : Nat → (α → Option (Tup (e.ret ++ e.outs))) → α → Option (Tup (e.ret ++ e.outs))}
    (ht : Tabs P ty gl) (hx : Text P F e) (hseg : ∀ n goto y, seg (⟨ty, gl, md, calOf T n⟩ : En) F.np F.ks goto (F.fin ⟨ty, gl, md, calOf T 0⟩ (e.ret ++ e.outs) e.pan) F.c (lb y) (st y) = step n (fun z => goto (lb z) (st z)) y)
    (hent : ∀ n x, ∃ p, lb p = 0 ∧ st p = enter (Ty.args e.ins x) F.np ∧ e.fn n x = goRec step n p) (hT : ∀ c ∈ T, CtrOK P gl c) (hbl : BlsOK P md := by exact blsNo (by kernel_rfl)) : CtrOK P gl e :=
  fun n => ctr_at ht hx hseg hent (fun m _ c hc => hT c hc m) hbl
/-- the machine's run from label to label is the printed step -/
def SegEq {α : Type} (ty : List (Nat × U)) (gl : List (Nat × TV)) (F : Fun) (md : List (Nat × List Md)) (T : List Ctr) (e : Ctr) (lb : α → Nat) (st : α → St) (step : Nat → (α → Option (Tup (e.ret ++ e.outs))) → α → Option (Tup (e.ret ++ e.outs))) : Prop :=
  ∀ n goto y, seg (⟨ty, gl, md, calOf T n⟩ : En) F.np F.ks goto (F.fin ⟨ty, gl, md, calOf T 0⟩ (e.ret ++ e.outs) e.pan) F.c (lb y) (st y) = step n (fun z => goto (lb z) (st z)) y
theorem ctr_okS {P : Program} {ty : List (Nat × U)} {gl : List (Nat × TV)} {md : List (Nat × List Md)} {T : List Ctr} {F : Fun} {e : Ctr} {α : Type} {lb : α → Nat} {st : α → St} {step : Nat → (α → Option (Tup (e.ret ++ e.outs))) → α → Option (Tup (e.ret ++ e.outs))}
    (ht : Tabs P ty gl) (hx : Text P F e) (hseg : SegEq ty gl F md T e lb st step) (hent : ∀ n x, ∃ p, lb p = 0 ∧ st p = enter (Ty.args e.ins x) F.np ∧ e.fn n x = goRec step n p) (hT : ∀ c ∈ T, CtrOK P gl c) (hbl : BlsOK P md := by exact blsNo (by kernel_rfl)) : CtrOK P gl e := ctr_ok ht hx hseg hent hT hbl
theorem textOf {P : Program} {F : Fun} {e : Ctr} (fn : Func) (h1 : P.funcs[e.f]? = some fn := by kernel_rfl) (h2 : fn.body = some F.c := by kernel_rfl) (h3 : fn.name ≠ "runtime.NumGoroutine" := by decide +kernel) (h4 : fn.results.toList = F.rv.map (·.1) := by kernel_rfl) (h5 : dstB fn.ntmps F.c = true := by kernel_rfl) (h6 : decide (e.ins.length ≤ fn.ntmps ∧ fn.ntmps ≤ panT) = true := by kernel_rfl)
    (np : ∀ x, F.np = jA (Ty.args e.ins x) 0 := by intro _; rfl) (outs : ∀ x, F.outs = outsL (Ty.args e.ins x) := by intro _; rfl) (rv : F.rv.length + (match e.pan with | none => 0 | some _ => 1) = e.ret.length := by rfl) : Text P F e := ⟨⟨fn, h1, h2, h3, h4, h5, of_decide_eq_true h6⟩, np, outs, rv⟩
theorem calOf_at {e : Ctr} {T : List Ctr} {n : Nat} : calOf (e :: T) n = calOf (e.at (e.fn n) :: T) n := by
  funext ρ f as K
  simp only [calOf, Ctr.at]
  cases Ty.gets e.ins as <;> rfl
theorem retA_ty {E E' : En} (h : E.ty = E'.ty) {s : St} : ∀ (rv : List (ResultVar × U)) (ks : List Nat), retA E s rv ks = retA E' s rv ks
  | [], _ => rfl
  | (x, u) :: rv, ks => by
    unfold retA
    simp only [h, retA_ty h rv]
theorem fin_ty {F : Fun} {E E' : En} (h : E.ty = E'.ty) {us : List U} {pan : Option Nat} : F.fin E us pan = F.fin E' us pan := by
  funext s
  unfold Fun.fin finA
  rw [retA_ty h]
/-- calling itself -/
theorem ctr_rec {P : Program} {ty : List (Nat × U)} {gl : List (Nat × TV)} {md : List (Nat × List Md)} {T : List Ctr} {F : Fun} {e : Ctr} {α : Type} {lb : α → Nat} {st : α → St} {ent : Ty.Els e.ins → α} {stp : Nat → (Ty.Els e.ins → Option (Tup (e.ret ++ e.outs))) → (α → Option (Tup (e.ret ++ e.outs))) → α → Option (Tup (e.ret ++ e.outs))}
    (ht : Tabs P ty gl) (hx : Text P F e) (hseg : ∀ n φ goto y, seg (⟨ty, gl, md, calOf (e.at φ :: T) n⟩ : En) F.np F.ks goto (F.fin ⟨ty, gl, md, calOf T 0⟩ (e.ret ++ e.outs) e.pan) F.c (lb y) (st y) = stp n φ (fun z => goto (lb z) (st z)) y)
    (hent : ∀ x, lb (ent x) = 0 ∧ st (ent x) = enter (Ty.args e.ins x) F.np) (hfn : ∀ n x, e.fn n x = goRec (fun n K => stp n (fun x => K (ent x)) K) n (ent x)) (hT : ∀ c ∈ T, CtrOK P gl c) (hbl : BlsOK P md := by exact blsNo (by kernel_rfl)) : CtrOK P gl e := by
  have hf : F.fin ⟨ty, gl, md, calOf T 0⟩ (e.ret ++ e.outs) e.pan = F.fin ⟨ty, gl, md, calOf (e :: T) 0⟩ (e.ret ++ e.outs) e.pan := fin_ty (E := ⟨ty, gl, md, calOf T 0⟩) (E' := ⟨ty, gl, md, calOf (e :: T) 0⟩) rfl
  rw [hf] at hseg
  have hrun : ∀ n y, run (fun n => (⟨ty, gl, md, calOf (e :: T) n⟩ : En)) F.np F.ks (F.fin ⟨ty, gl, md, calOf (e :: T) 0⟩ (e.ret ++ e.outs) e.pan) F.c n (lb y) (st y) = goRec (fun n K => stp n (fun x => K (ent x)) K) n y := by
    intro n
    induction n with
    | zero => intro y; rfl
    | succ n ih =>
      intro y
      have h1 := hseg n (e.fn n) (run (fun n => (⟨ty, gl, md, calOf (e :: T) n⟩ : En)) F.np F.ks (F.fin ⟨ty, gl, md, calOf (e :: T) 0⟩ (e.ret ++ e.outs) e.pan) F.c n) y
      rw [← calOf_at] at h1
      simp only [run, goRec]
      refine Eq.trans h1 ?_
      have h2 : (fun z => run (fun n => (⟨ty, gl, md, calOf (e :: T) n⟩ : En)) F.np F.ks (F.fin ⟨ty, gl, md, calOf (e :: T) 0⟩ (e.ret ++ e.outs) e.pan) F.c n (lb z) (st z)) = goRec (fun n K => stp n (fun x => K (ent x)) K) n := funext ih
      have h3 : e.fn n = fun x => goRec (fun n K => stp n (fun x => K (ent x)) K) n (ent x) := funext (hfn n)
      rw [h2, h3]
  intro n
  induction n using Nat.strongRecOn with
  | ind n ih =>
    refine ctr_run (T := e :: T) ht hx hrun (fun n x => ⟨ent x, (hent x).1, (hent x).2, hfn n x⟩) (fun m hm c hc => ?_) hbl
    rcases List.mem_cons.1 hc with rfl | hc
    · exact ih m hm
    · exact hT c hc m
theorem nilC {P : Program} {gl : List (Nat × TV)} : ∀ c ∈ ([] : List Ctr), CtrOK P gl c := by simp
theorem consC {P : Program} {gl : List (Nat × TV)} {e : Ctr} {T : List Ctr} (h : CtrOK P gl e) (hs : ∀ c ∈ T, CtrOK P gl c) : ∀ c ∈ e :: T, CtrOK P gl c := by
  intro c hc
  rcases List.mem_cons.1 hc with rfl | hc
  · exact h
  · exact hs c hc
theorem lkN_mem {α : Type} {l : List (Nat × α)} {t : Nat} {u : α} (h : lkN l t = some u) : (t, u) ∈ l := by
  induction l with
  | nil => cases h
  | cons x l ih =>
    obtain ⟨i, v⟩ := x
    simp only [lkN] at h
    cases hb : Nat.beq i t with
    | true => rw [hb] at h; simp only [sw, Option.some.injEq] at h; subst h; simp [Nat.eq_of_beq_eq_true hb]
    | false => rw [hb] at h; exact List.mem_cons_of_mem _ (ih h)
theorem tabs_ofG {P : Program} {ty : List (Nat × U)} {gl : List (Nat × TV)} (h : ty.all (fun x => tyB P x.1 x.2) = true) (hg : gl.all (fun x => x.2.u.good) = true) (hm : P.follows .mixedOrders = true) : Tabs P ty gl :=
  ⟨fun t u hl => tyB_ok (List.all_eq_true.1 h _ (lkN_mem hl)), fun g u x h => List.all_eq_true.1 hg _ (lkN_mem h), hm⟩
theorem tabs_of {P : Program} {ty : List (Nat × U)} (h : ty.all (fun x => tyB P x.1 x.2) = true) (hm : P.follows .mixedOrders = true) : Tabs P ty [] :=
  ⟨fun t u hl => tyB_ok (List.all_eq_true.1 h _ (lkN_mem hl)), fun g u x h => by simp [lkN] at h, hm⟩
end Go.VM

namespace Go.VM
variable [Bor]
open Go.RowKit
section
variable {P : Program} {ops : Array Oper} {o : Oper} {a : Act} {Q : Exit → Act → World → Prop} {Kc : Act → World → Prop}
theorem event_step {W w1 : World} {v : Value} (hw : Region.wanted o (yielded ops a.tmps) = true) (hrun : (execOp a.eval o).run P W = .ok (.value v) w1) (h : Kc (a.put o.dst v) w1) : if Region.wanted o (yielded ops a.tmps) = true then Oper.wp P o a W Kc Q else Kc (a.put o.dst undef) W := by
  rw [if_pos hw]
  unfold Oper.wp
  rw [hrun]
  exact h
theorem append_op {W w1 : World} {v : Value} {t : TypeId} {x y : Operand} (ho : o.op = .call { callee := .builtin .append, args := #[x, y], argTypes := #[t, t] }) (hr : (Builtin.append_ #[t, t] o.type #[a.eval x, a.eval y]).run P W = .ok v w1) : (execOp a.eval o).run P W = .ok (.value v) w1 := by
  simp only [execOp, ho, resolve, invoke, builtin, List.map_toArray, List.map_cons, List.map_nil, Sem.run_bind, Sem.run_pure, Result.andThen_ok, hr]
theorem skip_step {W w1 : World} (hw : Region.wanted o (yielded ops a.tmps) = true) (hN : o.dst = none) (hrun : (execOp a.eval o).run P W = .ok .skip w1) (h : Kc a w1) : if Region.wanted o (yielded ops a.tmps) = true then Oper.wp P o a W Kc Q else Kc (a.put none undef) W := by
  rw [if_pos hw]
  unfold Oper.wp
  rw [hrun]
  show Kc (a.put o.dst undef) w1
  rw [hN]
  exact h
end
theorem cell_row {w : World} {g i : Nat} {cs : Array Value} {t : TypeId} {fz : Nat × Nat} (h : w.heap[g]? = some (.cells cs t fz)) : w.cell? ⟨g, i, none⟩ = cs[i]? := by
  simp [World.cell?, h]
theorem frozen_row {w : World} {g i : Nat} {cs : Array Value} {t : TypeId} {fz : Nat × Nat} (h : w.heap[g]? = some (.cells cs t fz)) (hf : ¬ (fz.1 ≤ i ∧ i < fz.2)) : w.frozen? ⟨g, i, none⟩ = false := by
  simp [World.frozen?, h]; omega
end Go.VM

namespace Go.VM
variable [Bor]
open Go.RowKit Go.ChangeShapes Go.WideShapes Go.Deep
/-- what is borrowed of a law's arguments -/
class LawBor (w : World) : Prop where
  bor : ∀ (u : U) (x : List u.El) (v : Value) (F : List Nat), u.nobs = true → Rep w false (.sl false u) x [v] F → Bor.ok u x v
def Wf : (u : U) → u.El → Prop
  | .int k, x => (Lit.int k x).wf = true | .str, s => s.size ≤ maxLen | .sl _ u, l => l.length ≤ maxLen ∧ ∀ x ∈ l, Wf u x | .pair a b, x => Wf a x.1 ∧ Wf b x.2 | .bs u, l => l.length ≤ maxLen ∧ ∀ x ∈ l, Wf u x | _, _ => True
mutual
def opB (P : Program) : U → TypeId → Bool
  | .bool, t => (match P.underlying t with | some .bool => true | _ => false)
  | .int k, t => (match P.underlying t with | some (.int k') => decide (k' = k) | _ => false)
  | .str, t => (match P.underlying t with | some .string => true | _ => false)
  | .sl e u, t => !e && (match P.underlying t with | some (.slice el) => Nat.beq (P.cellsOf el) u.sz && Nat.blt 0 u.sz && opB P u el | _ => false)
  | .bs u, t => u.nobs && (match P.underlying t with | some (.slice el) => Nat.beq (P.cellsOf el) u.sz && Nat.blt 0 u.sz && opB P u el | _ => false)
  | .unit, t => (match P.underlying t with | some (.struct fs) => Nat.beq (P.cellsOf t) 0 && fs.toList.isEmpty | _ => false)
  | .pair a b, t => (match P.underlying t with
    | some (.struct fs) => Nat.beq (P.cellsOf t) (a.sz + b.sz) && (match fs.toList with | f :: r => Nat.beq f.offset 0 && Nat.beq (P.cellsOf f.type) a.sz && opB P a f.type && opF P b r a.sz | [] => false)
    | _ => false)
  | _, _ => false
def opF (P : Program) : U → List Field → Nat → Bool
  | .unit, fs, _ => fs.isEmpty
  | .pair a b, fs, o => (match fs with | f :: r => Nat.beq f.offset o && Nat.beq (P.cellsOf f.type) a.sz && opB P a f.type && opF P b r (o + a.sz) | [] => false)
  | _, _, _ => false
end
variable {H : Type} {enc : TypeId × Value → H} {P : Program} {w : World} {base : Nat} {spare : Nat → Bool} {held : Bool}
theorem cells_got {a : Addr} {n : Nat} {cs : List Value} (h : w.cells? base a n = some cs) : cs.length = n ∧ ∀ j u, cs[j]? = some u → w.cell? (a.add j) = some u := by
  obtain ⟨_, hl, hc⟩ := World.cells?_some h
  refine ⟨hl, fun j u hj => ?_⟩
  have hlt : j < n := by
    rcases List.getElem?_eq_some_iff.mp hj with ⟨hj', _⟩
    omega
  rw [hc j hlt]; exact hj
theorem cell_is {a : Addr} {v : Value} (h : w.cell? a = some v) : a.spot = none ∧ ∃ c t fz, w.heap[a.block]? = some (.cells c t fz) ∧ c[a.off]? = some v := by
  unfold World.cell? at h
  split at h
  · rename_i c t fz hh
    split at h
    · cases h
    · rename_i hs
      exact ⟨by simpa using hs, c, t, fz, hh, h⟩
  · cases h
theorem rows {α : Type} {R : α → List Value → List Nat → Prop} {G : α → Prop} {sz : Nat} {a : Addr} (hR : ∀ x c F, R x c F → c.length = sz) (n : Nat) (h : ∀ i, i < n → ∃ x c F, R x c F ∧ G x ∧ ∀ j v, c[j]? = some v → w.cell? (a.add (i * sz + j)) = some v) :
    ∃ l m F, l.length = n ∧ RepL R l m F ∧ m.length = n * sz ∧ (∀ x ∈ l, G x) ∧ ∀ j v, m[j]? = some v → w.cell? (a.add j) = some v := by
  induction n with
  | zero => exact ⟨[], [], [], rfl, ⟨rfl, rfl⟩, by simp, by simp, by simp⟩
  | succ n ih =>
    obtain ⟨l, m, F, h1, h2, h3, h4, h5⟩ := ih fun i hi => h i (by omega)
    obtain ⟨x, c, F', h6, h7, h8⟩ := h n (by omega)
    have hc := hR _ _ _ h6
    refine ⟨l ++ [x], m ++ (c ++ []), F ++ (F' ++ []), by simp [h1], RepL.append h2 ⟨c, [], F', [], rfl, rfl, h6, rfl, rfl⟩, ?_, ?_, ?_⟩
    · simp [h3, hc, Nat.add_mul]
    · intro y hy
      rcases List.mem_append.1 hy with hy | hy
      · exact h4 y hy
      · simp at hy; subst hy; exact h7
    · intro j v hj
      rw [List.append_nil] at hj
      by_cases hjm : j < m.length
      · rw [List.getElem?_append_left hjm] at hj; exact h5 j v hj
      · rw [List.getElem?_append_right (by omega)] at hj
        have := h8 (j - m.length) v hj
        rwa [show n * sz + (j - m.length) = j by omega] at this
theorem open_sl {u : U} {t el : TypeId} {fuel : Nat} {cs : List Value} {x : DataW H × List MemPlace} (hu : P.underlying t = some (.slice el)) (hz : P.cellsOf el = u.sz) (hpos : 0 < u.sz)
    (hrec : ∀ {fuel : Nat} {cs : List Value} {x : DataW H × List MemPlace}, DataW.trod enc P w base spare held fuel el cs = some x → ∃ y F, Rep w false u y cs F ∧ Wf u y) (h : DataW.trod enc P w base spare held fuel t cs = some x) :
    ∃ (l : List u.El) (v : Value) (F : List Nat), cs = [v] ∧ Rep w false (.sl false u) l [v] F ∧ Wf (.sl false u) l := by
  rcases open_slice hu h with ⟨rfl, _⟩ | ⟨a, len, cap, m, n, D, Pl, rfl, _, hl, hm, hmm, _, hi⟩
  · exact ⟨[], _, [], rfl, ⟨_, rfl, .inl (.inl ⟨rfl, rfl, rfl⟩)⟩, by simp [Wf]⟩
  · have hlm : len ≤ m := by rw [hmm]; split <;> omega
    obtain ⟨l, mc, F, h1, h2, h3, h4, h5⟩ := rows (w := w) (a := a) (R := Rep w false u) (G := Wf u) (sz := u.sz) (fun _ _ _ => Rep.length) len (fun i hi0 => by
      obtain ⟨cs', hc, ht'⟩ := hi i (by omega)
      obtain ⟨y, F, hy, hyw⟩ := hrec ht'
      obtain ⟨g1, g2⟩ := cells_got hc
      refine ⟨y, cs', F, hy, hyw, fun j v hj => ?_⟩
      have := g2 j v hj
      rw [hz, Go.Deep.add_add] at this
      exact this)
    have hwf : Wf (.sl false u) l := ⟨by rw [h1]; omega, h4⟩
    cases l with
    | nil =>
      have h0 : len = 0 := h1.symm
      subst h0
      exact ⟨[], _, [], rfl, ⟨_, rfl, .inr ⟨rfl, rfl, rfl, rfl, a, cap, rfl⟩⟩, hwf⟩
    | cons y0 l0 =>
      have hlen : 0 < len := by rw [← h1]; simp
      have hmpos : 0 < mc.length := by rw [h3]; exact Nat.mul_pos hlen hpos
      obtain ⟨hs0, c, ct, fz, hh, _⟩ := cell_is (h5 0 mc[0] (by simp [hmpos]))
      rw [Addr.add_block] at hh
      have hs : a.spot = none := by
        rw [Addr.add_zero] at hs0
        exact hs0
      have hcell : ∀ j v, mc[j]? = some v → c[a.off + j]? = some v := by
        intro j v hj
        obtain ⟨_, c', ct', fz', hh', hv⟩ := cell_is (h5 j v hj)
        rw [Addr.add_block, hh] at hh'
        cases hh'
        rwa [Addr.add_off] at hv
      have hmid : (c.toList.drop a.off).take mc.length = mc := by
        refine List.ext_getElem? fun j => ?_
        by_cases hj : j < mc.length
        · have := hcell j mc[j] (by simp [hj])
          rw [List.getElem?_take, if_pos hj, List.getElem?_drop, Array.getElem?_toList, this]
          simp [hj]
        · rw [List.getElem?_eq_none (by rw [List.length_take]; omega), List.getElem?_eq_none (by omega)]
      have hoff : a.off ≤ c.toList.length := by
        have := hcell 0 mc[0] (by simp [hmpos])
        have := (Array.getElem?_eq_some_iff.1 this).1
        rw [Array.length_toList]; omega
      refine ⟨y0 :: l0, _, a.block :: F, rfl, ⟨_, rfl, .inl (.inr ⟨a, cap, c, ct, fz, c.toList.take a.off, mc, c.toList.drop (a.off + mc.length), F, by rw [h1], hs, (fun h => by cases h), by rw [h1]; exact hl, hh, ?_, ?_, h2, rfl, (fun h => by cases h)⟩)⟩, hwf⟩
      · have e1 := List.take_append_drop a.off c.toList
        have e2 := List.take_append_drop mc.length (c.toList.drop a.off)
        rw [hmid, List.drop_drop] at e2
        rw [List.append_assoc, e2, e1]
      · rw [List.length_take]; omega
mutual
theorem open_rep [LawBor w] : ∀ {u : U} {t : TypeId} {fuel : Nat} {cs : List Value} {x : DataW H × List MemPlace}, opB P u t = true → DataW.trod enc P w base spare held fuel t cs = some x → ∃ y F, Rep w false u y cs F ∧ Wf u y
  | .bool, t, fuel, cs, x, hb, h => by
    simp only [opB] at hb
    split at hb
    · rename_i hu
      obtain ⟨b, rfl, _⟩ := DataW.trod_bool hu h
      exact ⟨b, [], ⟨rfl, rfl⟩, trivial⟩
    · cases hb
  | .int k, t, fuel, cs, x, hb, h => by
    simp only [opB] at hb
    split at hb
    · rename_i k' hu
      obtain rfl : k' = k := by simpa using hb
      obtain ⟨n, rfl, _, hw⟩ := DataW.trod_int hu h
      exact ⟨n, [], ⟨rfl, rfl⟩, hw⟩
    · cases hb
  | .str, t, fuel, cs, x, hb, h => by
    simp only [opB] at hb
    split at hb
    · rename_i hu
      obtain ⟨s, rfl, _, hs⟩ := DataW.trod_string hu h
      exact ⟨s, [], ⟨rfl, rfl⟩, hs⟩
    · cases hb
  | .oth, t, fuel, cs, x, hb, h => by simp [opB] at hb
  | .ar _ _, t, fuel, cs, x, hb, h => by simp [opB] at hb
  | .unit, t, fuel, cs, x, hb, h => by
    simp only [opB] at hb
    split at hb
    · rename_i fs hu
      simp only [Bool.and_eq_true, Nat.beq_eq] at hb
      obtain ⟨xs, n, _, _, hlen, _⟩ := DataW.trod_struct hu h
      rw [hb.1] at hlen
      exact ⟨(), [], ⟨List.eq_nil_of_length_eq_zero hlen, rfl⟩, trivial⟩
    · cases hb
  | .pair a b, t, fuel, cs, x, hb, h => by
    simp only [opB] at hb
    split at hb
    · rename_i fs hu
      simp only [Bool.and_eq_true, Nat.beq_eq] at hb
      obtain ⟨hsz, hb⟩ := hb
      obtain ⟨xs, n, _, _, hlen, hxl, hf⟩ := DataW.trod_struct hu h
      have hall : ∀ (i : Nat) (f : Field), fs.toList[i]? = some f → ∃ n y, DataW.trod enc P w base spare held n f.type ((cs.drop f.offset).take (P.cellsOf f.type)) = some y := by
        intro i f hi
        have hi' : fs[i]? = some f := by simpa using hi
        have h1 := hf i f hi'
        have hlt : i < xs.length := by rw [hxl]; exact (Array.getElem?_eq_some_iff.1 hi').1
        rw [List.getElem?_eq_getElem hlt] at h1
        exact ⟨n, _, h1⟩
      split at hb
      · rename_i f r hfs
        simp only [Bool.and_eq_true, Nat.beq_eq] at hb
        obtain ⟨⟨⟨h1, h2⟩, h3⟩, h4⟩ := hb
        obtain ⟨m, y, hy⟩ := hall 0 f (by rw [hfs]; rfl)
        rw [h1, h2, List.drop_zero] at hy
        obtain ⟨z, F, hz, hzw⟩ := open_rep h3 hy
        obtain ⟨z2, F2, hz2, hzw2⟩ := open_fields h4 (fun i f hi => hall (i + 1) f (by rw [hfs]; simpa using hi)) (by rw [hlen, hsz])
        exact ⟨(z, z2), F ++ F2, ⟨_, _, F, F2, (List.take_append_drop a.sz cs).symm, rfl, hz, hz2⟩, hzw, hzw2⟩
      · cases hb
    · cases hb
  | .sl e u, t, fuel, cs, x, hb, h => by
    simp only [opB, Bool.and_eq_true, Bool.not_eq_true'] at hb
    obtain ⟨rfl, hb⟩ := hb
    split at hb
    · rename_i el hu
      simp only [Bool.and_eq_true, Nat.beq_eq, Nat.blt_eq] at hb
      obtain ⟨⟨hz, hpos⟩, hel⟩ := hb
      obtain ⟨l, v, F, rfl, h1, h2⟩ := open_sl hu hz hpos (fun h => open_rep hel h) h
      exact ⟨l, F, h1, h2⟩
    · cases hb
  | .bs u, t, fuel, cs, x, hb, h => by
    simp only [opB, Bool.and_eq_true] at hb
    obtain ⟨hn, hb⟩ := hb
    split at hb
    · rename_i el hu
      simp only [Bool.and_eq_true, Nat.beq_eq, Nat.blt_eq] at hb
      obtain ⟨⟨hz, hpos⟩, hel⟩ := hb
      obtain ⟨l, v, F, rfl, h1, h2⟩ := open_sl hu hz hpos (fun h => open_rep hel h) h
      exact ⟨l, [], ⟨rfl, v, rfl, LawBor.bor u l v F hn h1⟩, h2⟩
    · cases hb
theorem open_fields [LawBor w] : ∀ {u : U} {fs : List Field} {o : Nat} {cs : List Value}, opF P u fs o = true → (∀ (i : Nat) (f : Field), fs[i]? = some f → ∃ n y, DataW.trod enc P w base spare held n f.type ((cs.drop f.offset).take (P.cellsOf f.type)) = some y) → cs.length = o + u.sz →
    ∃ y F, Rep w false u y (cs.drop o) F ∧ Wf u y
  | .unit, fs, o, cs, hb, h, hl => by
    refine ⟨(), [], ⟨?_, rfl⟩, trivial⟩
    exact List.drop_eq_nil_of_le (by rw [hl]; simp [U.sz])
  | .pair a b, fs, o, cs, hb, h, hl => by
    simp only [opF] at hb
    split at hb
    · rename_i f r
      simp only [Bool.and_eq_true, Nat.beq_eq] at hb
      obtain ⟨⟨⟨h1, h2⟩, h3⟩, h4⟩ := hb
      obtain ⟨m, y, hy⟩ := h 0 f rfl
      rw [h1, h2] at hy
      obtain ⟨z, F, hz, hzw⟩ := open_rep h3 hy
      obtain ⟨z2, F2, hz2, hzw2⟩ := open_fields h4 (fun i f hi => h (i + 1) f (by simpa using hi)) (by rw [hl]; simp only [U.sz]; omega)
      rw [← List.drop_drop] at hz2
      exact ⟨(z, z2), F ++ F2, ⟨_, _, F, F2, (List.take_append_drop a.sz _).symm, rfl, hz, hz2⟩, hzw, hzw2⟩
    · cases hb
  | .bool, _, _, _, hb, _, _ => by simp [opF] at hb
  | .int _, _, _, _, hb, _, _ => by simp [opF] at hb
  | .str, _, _, _, hb, _, _ => by simp [opF] at hb
  | .oth, _, _, _, hb, _, _ => by simp [opF] at hb
  | .ar _ _, _, _, _, hb, _, _ => by simp [opF] at hb
  | .sl _ _, _, _, _, hb, _, _ => by simp [opF] at hb
  | .bs _, _, _, _, hb, _, _ => by simp [opF] at hb
end
end Go.VM

namespace Go.VM
variable [Bor]
open Go.RowKit Go.ChangeShapes Go.WideShapes Go.Deep
variable {H : Type} {enc : TypeId × Value → H} {P : Program} {w : World} {base : Nat} {spare : Nat → Bool} {held : Bool}
theorem val_ok {u : U} {t : TypeId} {v : Value} {r : Reach} {b : Nat} (hb : opB P u t = true) (h : Value.okWide P w r b t v) : v = valOf u v.cells.toList := by
  unfold Value.okWide at h
  cases u with
  | bool =>
    simp only [opB] at hb
    split at hb
    · rename_i hu
      rw [hu] at h
      simp only [Cell.okWide, hu, Cell.ok] at h
      cases v <;> simp_all [valOf, U.isAgg, Value.cells]
    · cases hb
  | int k =>
    simp only [opB] at hb
    split at hb
    · rename_i hu
      rw [hu] at h
      simp only [Cell.okWide, hu, Cell.ok] at h
      cases v <;> simp_all [valOf, U.isAgg, Value.cells]
    · cases hb
  | str =>
    simp only [opB] at hb
    split at hb
    · rename_i hu
      rw [hu] at h
      simp only [Cell.okWide, hu, Cell.ok] at h
      cases v <;> simp_all [valOf, U.isAgg, Value.cells]
    · cases hb
  | sl e u =>
    simp only [opB, Bool.and_eq_true] at hb
    obtain ⟨_, hb⟩ := hb
    split at hb
    · rename_i hu
      rw [hu] at h
      simp only [Cell.okWide, hu, Cell.ok] at h
      cases v <;> simp_all [valOf, U.isAgg, Value.cells]
    · cases hb
  | bs u =>
    simp only [opB, Bool.and_eq_true] at hb
    obtain ⟨_, hb⟩ := hb
    split at hb
    · rename_i hu
      rw [hu] at h
      simp only [Cell.okWide, hu, Cell.ok] at h
      cases v <;> simp_all [valOf, U.isAgg, Value.cells]
    · cases hb
  | unit =>
    simp only [opB] at hb
    split at hb
    · rename_i hu
      rw [hu] at h
      simp only at h
      obtain ⟨cs, rfl, _⟩ := h
      simp [valOf, U.isAgg, Value.cells]
    · cases hb
  | pair a c =>
    simp only [opB] at hb
    split at hb
    · rename_i hu
      rw [hu] at h
      simp only at h
      obtain ⟨cs, rfl, _⟩ := h
      simp [valOf, U.isAgg, Value.cells]
    · cases hb
  | oth => simp [opB] at hb
  | pt _ => simp [opB] at hb
  | tr _ => simp [opB] at hb
  | ar n u => simp [opB] at hb
mutual
theorem opB_plain : ∀ {u : U} {t : TypeId}, opB P u t = true → u.plain = true
  | .bool, _, _ => rfl | .int _, _, _ => rfl | .str, _, _ => rfl | .unit, _, _ => rfl
  | .oth, _, h => by simp [opB] at h
  | .ar _ _, _, h => by simp [opB] at h
  | .pt _, _, h => by simp [opB] at h
  | .tr _, _, h => by simp [opB] at h
  | .sl e u, t, h => by
    simp only [opB, Bool.and_eq_true] at h
    obtain ⟨_, h⟩ := h
    split at h
    · simp only [Bool.and_eq_true] at h; exact opB_plain (u := u) h.2
    · cases h
  | .bs u, t, h => by
    simp only [opB, Bool.and_eq_true] at h
    obtain ⟨_, h⟩ := h
    split at h
    · simp only [Bool.and_eq_true] at h; exact opB_plain (u := u) h.2
    · cases h
  | .pair a b, t, h => by
    simp only [opB] at h
    split at h
    · simp only [Bool.and_eq_true] at h
      obtain ⟨_, h⟩ := h
      split at h
      · simp only [Bool.and_eq_true] at h
        simp only [U.plain, Bool.and_eq_true]
        exact ⟨opB_plain h.1.2, opF_plain h.2⟩
      · cases h
    · cases h
theorem opF_plain : ∀ {u : U} {fs : List Field} {o : Nat}, opF P u fs o = true → u.plain = true
  | .bool, _, _, _ => rfl | .int _, _, _, _ => rfl | .str, _, _, _ => rfl | .unit, _, _, _ => rfl
  | .oth, _, _, h => by simp [opF] at h
  | .ar _ _, _, _, h => by simp [opF] at h
  | .pt _, _, _, h => by simp [opF] at h
  | .tr _, _, _, h => by simp [opF] at h
  | .sl _ _, _, _, h => by simp [opF] at h
  | .bs _, _, _, h => by simp [opF] at h
  | .pair a b, fs, o, h => by
    simp only [opF] at h
    split at h
    · simp only [Bool.and_eq_true] at h
      simp only [U.plain, Bool.and_eq_true]
      exact ⟨opB_plain h.1.2, opF_plain h.2⟩
    · cases h
end
def WfAll : (us : List U) → Ty.Els (us.map .v) → Prop
  | [], _ => True | u :: us, x => Wf u x.1 ∧ WfAll us x.2
def opAll (P : Program) : List U → List TypeId → Bool
  | [], [] => true | u :: us, t :: ts => opB P u t && opAll P us ts | _, _ => false
theorem open_args [LawBor w] {r : Reach} {b : Nat} : ∀ {us : List U} {ts : List TypeId} {vs : List Value} {ds : List (DataW H)} {p : List MemPlace}, opAll P us ts = true → DataW.TrodAll enc P w base spare held ts vs ds p → (∀ (j : Nat) t v, ts[j]? = some t → vs[j]? = some v → Value.okWide P w r b t v) →
    ∃ x S, ArgsRep w (Ty.args (us.map .v) x) vs S [] ∧ WfAll us x
  | [], [], vs, ds, p, _, h, _ => by
    obtain ⟨rfl, _, _⟩ := trodAll_nil h
    exact ⟨(), [], by show ArgsRep w [] _ _ _; unfold ArgsRep; exact ⟨rfl, rfl, rfl⟩, trivial⟩
  | u :: us, t :: ts, vs, ds, p, ho, h, hv => by
    simp only [opAll, Bool.and_eq_true] at ho
    obtain ⟨v, vs', d, ds', p1, q, rfl, rfl, rfl, h1, h2⟩ := trodAll_cons h
    obtain ⟨fuel, hf⟩ := h1
    obtain ⟨y, F, hy, hw⟩ := open_rep ho.1 hf
    obtain ⟨x, S, hx, hxw⟩ := open_args ho.2 h2 fun j t v h3 h4 => hv (j + 1) t v (by simpa using h3) (by simpa using h4)
    refine ⟨(y, x), F ++ S, ?_, hw, hxw⟩
    show ArgsRep w (Arg.v u y :: Ty.args (us.map .v) x) _ _ _
    unfold ArgsRep
    exact ⟨v, vs', F, S, [], [], rfl, rfl, rfl, by unfold ArgRep; exact ⟨opB_plain ho.1, ⟨_, val_ok ho.1 (hv 0 t v rfl rfl), hy⟩, rfl⟩, hx⟩
  | [], _ :: _, _, _, _, h, _, _ => by simp [opAll] at h
  | _ :: _, [], _, _, _, h, _, _ => by simp [opAll] at h
theorem no_x1 : ∀ {us : List U} (x : Ty.Els (us.map .v)) (i f m : Nat), (Ty.args (us.map .v) x)[i]? ≠ some (.me f m)
  | [], x, i, f, m, h => by
    have h : ([] : List Arg)[i]? = some (.me f m) := h
    simp at h
  | u :: us, x, 0, f, m, h => by
    have h : (Arg.v u x.1 :: Ty.args (us.map .v) x.2)[0]? = some (.me f m) := h
    simp at h
  | u :: us, x, i + 1, f, m, h => by
    have h : (Arg.v u x.1 :: Ty.args (us.map .v) x.2)[i + 1]? = some (.me f m) := h
    rw [List.getElem?_cons_succ] at h
    exact no_x1 x.2 i f m h
theorem no_x {w : World} {vs : List Value} {us : List U} {l : List Ty} {x : Ty.Els l} (h : l = us.map .v) : RecOK w (Ty.args l x) vs := by
  subst h
  intro i f m hx
  exact absurd hx (no_x1 x i f m)
/-- the call of a law -/
theorem law_call {gl : List (Nat × TV)} {e : Ctr} {us : List U} (hins : e.ins = us.map .v) (hret : e.ret = [.bool]) (houts : e.outs = []) (hpan : e.pan = none := by rfl) (hc : CtrOK P gl e) {vs : List Value} {S : List Nat} {x : Ty.Els e.ins} (ha : ArgsRep w (Ty.args e.ins x) vs S []) (hg : GlobOK gl w [])
    {n : Nat} {y : Tup (e.ret ++ e.outs)} (hy : e.fn n x = some y) (ht : tvs (e.ret ++ e.outs) y = [⟨.bool, true⟩]) : Calls P e.f vs.toArray w fun en w' => en = .returned (.bool true) ∧ Below w.heap.size w w' := by
  refine Calls.mono (((hc n).2 _ x y hy) w vs S [] ha (no_x (us := us) hins) List.nodup_nil (by simp) hg) ?_
  rintro en w' ⟨rv, F, O, rfl, h1, h2, h3, h4, h5, h6, h7, h8, h9⟩
  have hres : (e.res y).ret = [⟨.bool, true⟩] := by
    simp only [Ctr.res, ht, hret, hpan]
    rfl
  have hpn : (e.res y).pan = none := by simp only [Ctr.res, hpan]
  rw [hres, hpn] at h1
  rw [hpn]
  obtain ⟨cs, vr, F1, F2, rfl, _, _, hr, hn⟩ := h1
  obtain ⟨rfl, _⟩ := hn
  have hr : cs = [.bool true] ∧ F1 = [] := hr
  refine ⟨by rw [hr.1]; rfl, ⟨h5, h6, h7, h8, fun k hk => h9 k hk (by simp)⟩⟩
end Go.VM
namespace Go.VM
open Go.RowKit
/-- nothing borrowed -/
@[reducible] def noBor : Bor := { Z := fun _ => False, ok := fun _ x v => x = [] ∧ v = .slice none 0 0, one := by rintro u x v ⟨_, rfl⟩; rfl, nil := fun _ => ⟨rfl, rfl⟩ }
/-- what a law's call borrows: slices in the memory that is there ahead of it -/
@[reducible] def lawBor (w : World) : Bor :=
  { Z := fun b => b < w.heap.size
    ok := fun u x v => (x = [] ∧ v = .slice none 0 0) ∨ u.nobs = true ∧ ∃ F, @Rep noBor w false (.sl false u) x [v] F
    one := fun {u x v} h => h.elim (fun h => by rw [h.2]; rfl) (fun ⟨_, F, h⟩ => @Rep.sl_one noBor w false false u x v F h)
    nil := fun _ => .inl ⟨rfl, rfl⟩ }
theorem lawBor_law (w : World) : @LawBor (lawBor w) w := @LawBor.mk (lawBor w) w fun u x v F hn h => .inr ⟨hn, F, Rep.indep (u := .sl false u) hn h⟩
theorem lawBor_ok (w : World) : @BorOK (lawBor w) w := by
  rintro u x v (⟨rfl, rfl⟩ | ⟨hn, F, h⟩)
  · exact ⟨[], ⟨_, rfl, .inl (.inl ⟨rfl, rfl, rfl⟩)⟩, by simp⟩
  · exact ⟨F, Rep.indep (u := .sl false u) hn h, @Rep.block_lt noBor w false _ _ _ _ h⟩
theorem glob_law {gl : List (Nat × TV)} {w : World} (h : ∀ g u x, lkN gl g = some ⟨u, x⟩ → @ImRow (lawBor w) w (fun b => b < w.heap.size ∧ b ∉ []) u [x] ⟨g, 0, none⟩) (hz : GlSz gl w) : @GlobOK (lawBor w) gl w [] :=
  ⟨h, lawBor_ok w, fun b hb => ⟨hb, by simp⟩, hz⟩
end Go.VM

namespace Go.VM
def Ev {α : Type} (f : Nat → Option α) (v : α) : Prop := ∃ N, ∀ n, N ≤ n → f n = some v
namespace Ev
variable {α β : Type}
theorem pure {v : α} : Ev (fun _ => some v) v := ⟨0, fun _ _ => rfl⟩
theorem of_eq {v w : α} {f : Nat → Option α} (h : Ev f v) (e : v = w) : Ev f w := e ▸ h
theorem bind {f : Nat → Option α} {g : Nat → α → Option β} {a : α} {b : β} (h : Ev f a) (h' : Ev (fun n => g n a) b) : Ev (fun n => (f n).bind (g n)) b := by
  obtain ⟨N, h⟩ := h
  obtain ⟨N', h'⟩ := h'
  exact ⟨max N N', fun n hn => by show (f n).bind (g n) = _; rw [h n (by omega)]; exact h' n (by omega)⟩
theorem cnd {c : Bool} {f g : Nat → Option α} {v : α} (ht : c = true → Ev f v) (hf : c = false → Ev g v) : Ev (fun n => cond c (f n) (g n)) v := by
  cases c with
  | true => exact ht rfl
  | false => exact hf rfl
theorem yes {c : Bool} {f g : Nat → Option α} {v : α} (hc : c = true) (h : Ev f v) : Ev (fun n => cond c (f n) (g n)) v := by subst hc; exact h
theorem no {c : Bool} {f g : Nat → Option α} {v : α} (hc : c = false) (h : Ev g v) : Ev (fun n => cond c (f n) (g n)) v := by subst hc; exact h
theorem step {P : Type} {s : Nat → (P → Option α) → P → Option α} {p : P} {v : α} (h : Ev (fun n => s n (goRec s n) p) v) : Ev (fun n => goRec s n p) v := by
  obtain ⟨N, h⟩ := h
  refine ⟨N + 1, fun n hn => ?_⟩
  match n, hn with
  | n + 1, hn => exact h n (by omega)
theorem get {f : Nat → Option α} {v : α} (h : Ev f v) : ∃ n, f n = some v := by
  obtain ⟨N, h⟩ := h
  exact ⟨N, h N (Nat.le_refl _)⟩
end Ev
theorem wrap_id {x : Int} (h : -9223372036854775808 ≤ x ∧ x ≤ 9223372036854775807) : IntKind.wrap .i64 x = x := by
  rw [IntKind.wrap_i64]; omega
end Go.VM

namespace Go.VM
namespace Ev
variable {α β P σ τ : Type}
theorem pure' {a v : α} (h : a = v) : Ev (fun _ => some a) v := of_eq pure h
theorem held {v : α} {x : Option α} (h : x = some v) : Ev (fun n => hold n x) v := ⟨1, fun n hn => by match n, hn with | n + 1, _ => exact h⟩
/-- a loop that goes on while p holds -/
theorem allN {step : Nat → (P → Option Bool) → P → Option Bool} {n : Nat} {p : Nat → Bool} {pt : Nat → P}
    (hs : ∀ i, i < n → (p i = true → ∀ v, Ev (fun m => goRec step m (pt (i + 1))) v → Ev (fun m => goRec step m (pt i)) v) ∧ (p i = false → Ev (fun m => goRec step m (pt i)) false))
    (he : Ev (fun m => goRec step m (pt n)) true) : Ev (fun m => goRec step m (pt 0)) ((List.range n).all p) := by
  have key : ∀ d i, i + d = n → Ev (fun m => goRec step m (pt i)) ((List.range' i d).all p) := by
    intro d
    induction d with
    | zero => intro i h; rw [Nat.add_zero] at h; subst h; exact he
    | succ d ih =>
      intro i h
      obtain ⟨h1, h2⟩ := hs i (by omega)
      rw [List.range'_succ, List.all_cons]
      cases hp : p i with
      | false => rw [Bool.false_and]; exact h2 hp
      | true => rw [Bool.true_and]; exact h1 hp _ (ih (i + 1) (by omega))
  have := key n 0 (by omega)
  rwa [List.range_eq_range']
/-- the same, where more is known behind each turn -/
theorem loop {step : Nat → (P → Option β) → P → Option β} {n : Nat} {pt : Nat → σ → P} (I : Nat → σ → Prop) (f : Nat → σ → β)
    (hs : ∀ i s, i < n → I i s → (∃ s', I (i + 1) s' ∧ f i s = f (i + 1) s' ∧ ∀ v, Ev (fun m => goRec step m (pt (i + 1) s')) v → Ev (fun m => goRec step m (pt i s)) v) ∨ Ev (fun m => goRec step m (pt i s)) (f i s))
    (he : ∀ s, I n s → Ev (fun m => goRec step m (pt n s)) (f n s)) : ∀ d i s, i + d = n → I i s → Ev (fun m => goRec step m (pt i s)) (f i s) := by
  intro d
  induction d with
  | zero => intro i s h hi; rw [Nat.add_zero] at h; subst h; exact he s hi
  | succ d ih =>
    intro i s h hi
    rcases hs i s (by omega) hi with ⟨s', h1, h2, h3⟩ | h1
    · rw [h2]; exact h3 _ (ih (i + 1) s' (by omega) h1)
    · exact h1
end Ev
theorem i64_ok {x : Int} (h1 : -9223372036854775808 ≤ x) (h2 : x ≤ 9223372036854775807) : IntKind.wrap .i64 x = x := wrap_id ⟨h1, h2⟩
theorem i64_nat {n : Nat} (h : n ≤ 4611686018427387904) : IntKind.wrap .i64 ((n : Int) + 1) = ((n + 1 : Nat) : Int) := by rw [i64_ok] <;> omega
theorem inB_nat {i n : Nat} (h : i < n) : inB (i : Int) n = true := by simp only [inB, decide_eq_true_eq]; omega
theorem inB_zero {n : Nat} (h : 0 < n) : inB 0 n = true := by simp only [inB, decide_eq_true_eq]; omega
theorem inC_nat {i j n : Nat} (h : i ≤ j) (h' : j ≤ n) : inC (i : Int) (j : Int) n = true := by simp only [inC, decide_eq_true_eq]; omega
theorem lt_yes {i n : Nat} (h : i < n) : decide ((i : Int) < (n : Int)) = true := by simp only [decide_eq_true_eq]; omega
theorem lt_no {n : Nat} : decide ((n : Int) < (n : Int)) = false := by simp
theorem room_ok {n : Nat} (h : n ≤ 1000000000) : room n = true := by simpa [room] using h
/-- slices and texts no longer than k -/
def Sm (k : Nat) : (u : U) → u.El → Prop
  | .str, s => ByteArray.size s ≤ k | .sl _ u, l => List.length l ≤ k ∧ ∀ x ∈ l, Sm k u x | .pair a b, x => Sm k a x.1 ∧ Sm k b x.2 | _, _ => True
theorem Sm.mono {k k' : Nat} (h : k ≤ k') : ∀ {u : U} {x : u.El}, Sm k u x → Sm k' u x
  | .str, s, hs => Nat.le_trans hs h
  | .sl _ u, l, hs => ⟨Nat.le_trans hs.1 h, fun x hx => Sm.mono h (hs.2 x hx)⟩
  | .pair a b, x, hs => ⟨Sm.mono h hs.1, Sm.mono h hs.2⟩
  | .bs _, _, _ => trivial | .pt _, _, _ => trivial | .tr _, _, _ => trivial | .bool, _, _ => trivial | .int _, _, _ => trivial | .unit, _, _ => trivial | .ar _ _, _, _ => trivial | .oth, _, _ => trivial
theorem getD_mem {α : Type} {l : List α} {i : Nat} {d : α} (h : i < l.length) : l.getD i d ∈ l := by
  rw [List.getD_eq_getElem?_getD, List.getElem?_eq_getElem h]; exact List.getElem_mem h
theorem toNat_cast (i : Nat) : Int.toNat (i : Int) = i := Int.toNat_natCast i
theorem seq_iff {a b : ByteArray} : seq a b = decide (a = b) := rfl
theorem octs_len {s : ByteArray} : (octs s).length = s.size := by simp [octs]
theorem octs_drop {s : ByteArray} {i : Nat} (h : i < s.size) : (octs s).drop i = bt s i :: (octs s).drop (i + 1) := by
  have h' : i < (octs s).length := by rw [octs_len]; exact h
  rw [List.drop_eq_getElem_cons h']
  congr 1
  have h2 : i < s.data.size := h
  simp only [octs, bt, Array.getD_eq_getD_getElem?, toNat_cast, List.getElem_map, Array.getElem_toList, Array.getElem?_eq_getElem h2, Option.getD_some]
theorem bt_range {s : ByteArray} {i : Int} : 0 ≤ bt s i ∧ bt s i ≤ 255 := by
  unfold bt
  have := (s.data.getD i.toNat 0).toNat_lt
  omega
end Go.VM
namespace Go.VM
/-- what a size function gives: no more than it was given; from 0 on only if all is short -/
def Sz (f : Nat → Option Int) (left : Int) (Q : Prop) : Prop := ∃ r, Ev f r ∧ r ≤ left ∧ (0 ≤ r → Q)
namespace Sz
variable {P : Type} {left l2 : Int} {Q Q' : Prop} {f g : Nat → Option Int}
theorem step {s : Nat → (P → Option Int) → P → Option Int} {p : P} (h : Sz (fun n => s n (goRec s n) p) left Q) : Sz (fun n => goRec s n p) left Q := by
  obtain ⟨r, h1, h2⟩ := h; exact ⟨r, Ev.step h1, h2⟩
theorem yes {c : Bool} (hc : c = true) (h : Sz f left Q) : Sz (fun n => cond c (f n) (g n)) left Q := by subst hc; exact h
theorem no {c : Bool} (hc : c = false) (h : Sz g left Q) : Sz (fun n => cond c (f n) (g n)) left Q := by subst hc; exact h
theorem bind {α : Type} {f : Nat → Option α} {g : Nat → α → Option Int} {a : α} (h : Ev f a) (h' : Sz (fun n => g n a) left Q) : Sz (fun n => (f n).bind (g n)) left Q := by
  obtain ⟨r, h1, h2⟩ := h'; exact ⟨r, Ev.bind h h1, h2⟩
theorem neg (h : 0 ≤ left) : Sz (fun _ => some (-(1 : Int))) left Q := ⟨-1, Ev.pure, by omega, by omega⟩
theorem imp (h : Sz f left Q) (hq : Q → Q') : Sz f left Q' := by obtain ⟨r, h1, h2, h3⟩ := h; exact ⟨r, h1, h2, fun h => hq (h3 h)⟩
theorem le (h : Sz f left Q) (hl : left ≤ l2) : Sz f l2 Q := by obtain ⟨r, h1, h2, h3⟩ := h; exact ⟨r, h1, by omega, h3⟩
end Sz
theorem ext_getD {α : Type} {d : α} {l m : List α} (h1 : m.length = l.length) (h2 : ∀ j, j < l.length → m.getD j d = l.getD j d) : m = l := by
  refine List.ext_getElem? fun j => ?_
  rcases Nat.lt_or_ge j l.length with h | h
  · have := h2 j h
    rw [List.getD_eq_getElem?_getD, List.getD_eq_getElem?_getD, List.getElem?_eq_getElem h, List.getElem?_eq_getElem (by omega)] at this
    rw [List.getElem?_eq_getElem h, List.getElem?_eq_getElem (by omega)]
    simpa using this
  · rw [List.getElem?_eq_none h, List.getElem?_eq_none (by omega)]
theorem getD_set_same {α : Type} {l : List α} {i : Nat} {d x : α} (h : i < l.length) : (l.set i x).getD i d = x := by
  rw [List.getD_eq_getElem?_getD]; simp [h]
theorem getD_set_other {α : Type} {l : List α} {i j : Nat} {d x : α} (h : j ≠ i) : (l.set i x).getD j d = l.getD j d := by
  rw [List.getD_eq_getElem?_getD, List.getD_eq_getElem?_getD, List.getElem?_set_ne (Ne.symm h)]
/-- equality, as a Bool -/
noncomputable def eqB {α : Type} (x y : α) : Bool := @decide (x = y) (Classical.propDecidable _)
theorem eqB_yes {α : Type} {x y : α} (h : x = y) : eqB x y = true := @decide_eq_true _ (Classical.propDecidable _) h
theorem eqB_no {α : Type} {x y : α} (h : x ≠ y) : eqB x y = false := @decide_eq_false _ (Classical.propDecidable _) h
theorem Ev.find {P : Type} {step : Nat → (P → Option Int) → P → Option Int} {n : Nat} {p : Nat → Bool} {pt : Nat → P}
    (hs : ∀ i, i < n → (p i = false → ∀ v, Ev (fun m => goRec step m (pt (i + 1))) v → Ev (fun m => goRec step m (pt i)) v) ∧ (p i = true → Ev (fun m => goRec step m (pt i)) (i : Int)))
    (he : Ev (fun m => goRec step m (pt n)) (-1)) : Ev (fun m => goRec step m (pt 0)) (match (List.range n).find? p with | some i => (i : Int) | none => -1) := by
  have key : ∀ d i, i + d = n → Ev (fun m => goRec step m (pt i)) (match (List.range' i d).find? p with | some i => (i : Int) | none => -1) := by
    intro d
    induction d with
    | zero => intro i h; rw [Nat.add_zero] at h; subst h; exact he
    | succ d ih =>
      intro i h
      obtain ⟨h1, h2⟩ := hs i (by omega)
      rw [List.range'_succ, List.find?_cons]
      cases hp : p i with
      | true => exact h2 hp
      | false => exact h1 hp _ (ih (i + 1) (by omega))
  have := key n 0 (by omega)
  rwa [List.range_eq_range']
theorem find_any {n : Nat} {p : Nat → Bool} : decide ((0 : Int) ≤ (match (List.range n).find? p with | some i => (i : Int) | none => -1)) = (List.range n).any p := by
  cases h : (List.range n).find? p with
  | none =>
    rw [List.find?_eq_none] at h
    have : (List.range n).any p = false := by rw [List.any_eq_false]; exact h
    rw [this]; decide
  | some i =>
    have h1 := List.find?_some h
    have h2 := List.mem_of_find?_eq_some h
    have : (List.range n).any p = true := List.any_eq_true.2 ⟨i, h2, h1⟩
    rw [this]; simp
end Go.VM

namespace Go.VM
def digitB (b : Int) : Bool := decide (48 ≤ b) && decide (b ≤ 57)
def letterB (b : Int) : Bool := decide (97 ≤ b) && decide (b ≤ 122) || decide (65 ≤ b) && decide (b ≤ 90)
def wordB (b : Int) : Bool := letterB b || digitB b || decide (b = 95)
/-- all bytes -/
def allB (p : Int → Bool) (s : ByteArray) : Bool := (List.range s.size).all fun i => p (bt s i)
def nameB (s : ByteArray) : Bool := decide (1 ≤ s.size) && decide (s.size ≤ 40) && !digitB (bt s 0) && allB wordB s
def printB (s : ByteArray) : Bool := allB (fun b => decide (32 ≤ b) && decide (b ≤ 126)) s
def timeB (n : Int) : Bool := decide (0 ≤ n) && decide (n ≤ 1000000000000)
theorem size_empty : ByteArray.size (⟨#[]⟩ : ByteArray) = 0 := rfl
theorem seq_empty {s : ByteArray} : seq s ⟨#[]⟩ = decide (s.size = 0) := by
  obtain ⟨⟨l⟩⟩ := s
  cases l <;> simp [seq, ByteArray.size]
end Go.VM
namespace Go.VM
def cmpN (a b : Int) : Int := if a < b then -1 else if b < a then 1 else 0
def cmpL : List Int → List Int → Int
  | [], [] => 0 | [], _ :: _ => -1 | _ :: _, [] => 1
  | x :: a, y :: b => if x < y then -1 else if y < x then 1 else cmpL a b
/-- which of two texts is ahead -/
def cmpT (a b : ByteArray) : Int := cmpL (octs a) (octs b)
theorem bytes_cmp : ∀ (a b : List UInt8), Op.bytesLess a b = decide (cmpL (a.map fun x => (x.toNat : Int)) (b.map fun x => (x.toNat : Int)) < 0)
  | [], [] => by simp [Op.bytesLess, cmpL]
  | [], _ :: _ => by simp [Op.bytesLess, cmpL]
  | _ :: _, [] => by simp [Op.bytesLess, cmpL]
  | x :: a, y :: b => by
    have ih := bytes_cmp a b
    simp only [Op.bytesLess, List.map_cons, cmpL, ih]
    have h1 : x < y ↔ (x.toNat : Int) < (y.toNat : Int) := by rw [UInt8.lt_iff_toNat_lt]; omega
    have h2 : x = y ↔ (x.toNat : Int) = (y.toNat : Int) := by rw [← UInt8.toNat_inj]; omega
    by_cases c1 : (x.toNat : Int) < (y.toNat : Int)
    · simp [h1, c1]
    · by_cases c2 : (y.toNat : Int) < (x.toNat : Int)
      · have : ¬ x = y := by rw [h2]; omega
        simp [h1, c1, c2, this]
      · have : x = y := by rw [h2]; omega
        simp [h1, c1, c2, this]
theorem slt_cmp {a b : ByteArray} : slt a b = decide (cmpT a b < 0) := bytes_cmp _ _
/-- what a pattern's alternatives are: bytes, -1 for any bytes, -2 for one -/
def pat : List Int → List (List Int) → List Int → Option (List (List Int))
  | [], out, now => some (out ++ [now])
  | c :: r, out, now =>
    if c = 124 then pat r (out ++ [now]) [] else if c = 42 then pat r out (now ++ [-1]) else if c = 63 then pat r out (now ++ [-2])
    else if c = 92 then (match r with | [] => none | e :: r' => if e = 42 ∨ e = 63 ∨ e = 124 ∨ e = 92 then pat r' out (now ++ [e]) else none)
    else pat r out (now ++ [c])
  termination_by l => l.length
def alts (s : ByteArray) : Option (List (List Int)) := if s.size ≤ 100 ∧ printB s = true then pat (octs s) [] [] else none
def altR (x : Option (List (List Int))) : List (List Int) × Bool := match x with | some l => (l, true) | none => ([], false)
def toP (c : Int) : Int × Bool × Bool × Unit := if c = -1 then (0, false, true, ()) else if c = -2 then (0, true, false, ()) else (c, false, false, ())
def altP (x : Option (List (List Int))) : List (List (Int × Bool × Bool × Unit)) × Bool := match x with | some l => (l.map (List.map toP), true) | none => ([], false)
theorem pat_nil {out now} : pat [] out now = some (out ++ [now]) := by rw [pat.eq_def]
theorem pat_cons {c r out now} : pat (c :: r) out now = if c = 124 then pat r (out ++ [now]) [] else if c = 42 then pat r out (now ++ [-1]) else if c = 63 then pat r out (now ++ [-2])
    else if c = 92 then (match r with | [] => none | e :: r' => if e = 42 ∨ e = 63 ∨ e = 124 ∨ e = 92 then pat r' out (now ++ [e]) else none)
    else pat r out (now ++ [c]) := by conv => lhs; rw [pat.eq_def]
theorem i64_pred {k : Nat} (h : k ≤ 4611686018427387904) : IntKind.wrap .i64 (((k + 1 : Nat) : Int) - 1) = (k : Int) := by rw [i64_ok] <;> omega
theorem octs_nil {s : ByteArray} : (octs s).drop s.size = [] := by rw [List.drop_eq_nil_of_le]; rw [octs_len]; exact Nat.le_refl _
theorem i64_bt {s : ByteArray} {i : Int} : IntKind.wrap .i64 (bt s i) = bt s i := by have := bt_range (s := s) (i := i); rw [i64_ok] <;> omega
end Go.VM

namespace Go.VM
/-- a table's place holds what is listed -/
def GlIs (w : World) (e : Nat × TV) : Prop := ∃ cs t fz, w.heap[e.1]? = some (.cells cs t fz) ∧ cs.size = e.2.u.sz ∧ @Rep (lawBor w) w false e.2.u e.2.x cs.toList []
theorem lkN_memG {α : Type} : ∀ {gl : List (Nat × α)} {g : Nat} {v : α}, lkN gl g = some v → (g, v) ∈ gl
  | [], _, _, h => by cases h
  | (i, x) :: gl, g, v, h => by
    simp only [lkN] at h
    cases hb : Nat.beq i g with
    | true =>
      rw [hb] at h
      obtain rfl : i = g := by simpa using hb
      obtain rfl := Option.some.inj h
      exact List.mem_cons_self ..
    | false => rw [hb] at h; exact List.mem_cons_of_mem _ (lkN_memG h)
theorem glob_all {gl : List (Nat × TV)} {w : World} (h : ∀ e ∈ gl, GlIs w e) : @GlobOK (lawBor w) gl w [] := by
  letI : Bor := lawBor w
  refine glob_law (fun g u x hl => ?_) fun g u x hl => ?_
  · obtain ⟨cs, t, fz, hh, _, hr⟩ := h _ (lkN_memG hl)
    exact ⟨cs, t, fz, [], cs.toList, [], [], rfl, hh, by simp, rfl, ⟨_, [], [], [], by simp, rfl, hr, rfl, rfl⟩, ⟨(Array.getElem?_eq_some_iff.1 hh).1, by simp⟩, by simp⟩
  · obtain ⟨cs, t, fz, hh, hz, _⟩ := h _ (lkN_memG hl)
    exact ⟨cs, t, fz, hh, hz⟩
theorem rep_tabG [Bor] {w : World} {o : Bool} {k : IntKind} : ∀ (l : List Int), RepL (Rep w o (.int k)) l (l.map (Value.int k)) []
  | [] => ⟨rfl, rfl⟩
  | x :: l => ⟨[_], _, [], [], rfl, rfl, ⟨rfl, rfl⟩, rep_tabG l⟩
theorem rep_strG [Bor] {w : World} {o : Bool} : ∀ (l : List ByteArray), RepL (Rep w o .str) l (l.map Value.string) []
  | [] => ⟨rfl, rfl⟩
  | x :: l => ⟨[_], _, [], [], rfl, rfl, ⟨rfl, rfl⟩, rep_strG l⟩
def StrIs (P : Program) (w : World) (name : String) (ss : List ByteArray) : Prop := w.var? P name = some (ss.map Value.string).toArray
theorem glIs_int {P : Program} {w : World} {name : String} {k : IntKind} {zs : List Int} {g n : Nat} (hg : P.globalNamed name = some g) (h : Lib.TabIs P w name k zs) (hn : zs.length = n) : GlIs w (g, ⟨.ar n (.int k), zs⟩) := by
  letI : Bor := lawBor w
  unfold Lib.TabIs World.var? at h
  rw [hg, Option.bind_some] at h
  split at h
  · rename_i cs t fz hh
    have h := Option.some.inj h
    exact ⟨cs, t, fz, hh, by rw [h]; simp [U.sz, hn], by rw [h]; exact ⟨hn, rep_tabG zs⟩⟩
  · cases h
theorem glIs_str {P : Program} {w : World} {name : String} {ss : List ByteArray} {g n : Nat} (hg : P.globalNamed name = some g) (h : StrIs P w name ss) (hn : ss.length = n) : GlIs w (g, ⟨.ar n .str, ss⟩) := by
  letI : Bor := lawBor w
  unfold StrIs World.var? at h
  rw [hg, Option.bind_some] at h
  split at h
  · rename_i cs t fz hh
    have h := Option.some.inj h
    exact ⟨cs, t, fz, hh, by rw [h]; simp [U.sz, hn], by rw [h]; exact ⟨hn, rep_strG ss⟩⟩
  · cases h
def strData {H : Type} (ss : List ByteArray) : DataW H := .agg (ss.map fun s => .lit (.string s.data.toList))
theorem cells_of_strs {H : Type} {enc : TypeId × Value → H} {P : Program} {w : World} {base : Nat} {sp : Nat → Bool} {held : Bool} {fuel : Nat} {t e : TypeId} {n : Nat} {cs : List Value} {ss : List ByteArray} {p : List MemPlace}
    (ht : P.underlying t = some (.array n e)) (he : P.underlying e = some .string) (hce : P.cellsOf e = 1) (hct : P.cellsOf t = n)
    (h : DataW.trod enc P w base sp held fuel t cs = some (strData ss, p)) : cs = ss.map Value.string := by
  cases fuel with
  | zero => simp [DataW.trod] at h
  | succ fuel =>
    simp only [DataW.trod, ht, hce, hct, Nat.mul_one] at h
    split at h
    · rename_i hl
      obtain ⟨xs, hm, hx⟩ := Option.map_eq_some_iff.1 h
      have hxs : xs.map (·.1) = ss.map fun s => (DataW.lit (.string s.data.toList) : DataW H) := by
        have := congrArg Prod.fst hx
        simpa [strData] using this
      have hxl : xs.length = n := by simpa using Lib.mapM_length hm
      have hzl : ss.length = n := by
        have := congrArg List.length hxs
        simp at this
        omega
      apply List.ext_getElem?
      intro i
      by_cases hi : i < n
      · obtain ⟨b, hb, hf⟩ := Lib.mapM_at hm i i (by simp [hi])
        obtain ⟨z, hc, rfl, _⟩ := DataW.trod_string he hf
        have h1 : cs[i]? = some (.string z) := by
          have := congrArg (·[0]?) hc
          simpa [List.getElem?_take, List.getElem?_drop] using this
        have h2 : (xs.map (·.1))[i]? = some (DataW.lit (.string z.data.toList) : DataW H) := by simp [hb]
        rw [hxs] at h2
        simp only [List.getElem?_map, Option.map_eq_some_iff, DataW.lit.injEq, Lit.string.injEq] at h2
        obtain ⟨z', hz', h3⟩ := h2
        have : z' = z := by
          apply ByteArray.ext
          exact Array.toList_inj.1 h3
        subst this
        simp [h1, hz']
      · rw [List.getElem?_eq_none (by omega), List.getElem?_eq_none (by simp; omega)]
    · cases h
theorem strIs_of_head {P : Program} {W : World} {name : String} {ss : List ByteArray} {rest : List (String × DataW Unit)} {g : Nat} {t e : TypeId} {n : Nat}
    (hg : P.globalNamed name = some g) (hty : (P.globals[g]?).map (·.type) = some t) (ht : P.underlying t = some (.array n e)) (he : P.underlying e = some .string) (hce : P.cellsOf e = 1) (hct : P.cellsOf t = n)
    (h : laidMet P ((name, strData ss) :: rest) W) : StrIs P W name ss := by
  obtain ⟨ps, ⟨g', t', cs, fuel, p, q, hg', ht', hvar, hd, _, _⟩, _⟩ := h
  obtain rfl := Option.some.inj (hg.symm.trans hg')
  obtain rfl := Option.some.inj (hty.symm.trans ht')
  unfold StrIs
  rw [hvar, ← cells_of_strs ht he hce hct hd]
theorem laid_tailG {P : Program} {W : World} {x : String × DataW Unit} {rest : List (String × DataW Unit)} (h : laidMet P (x :: rest) W) : laidMet P rest W := by
  obtain ⟨name, d⟩ := x
  obtain ⟨ps, ⟨g', t', cs, fuel, p, q, _, _, _, _, hq, rfl⟩, hn, hc⟩ := h
  exact ⟨q, hq, (List.nodup_append.1 hn).2.1, fun b off hm => hc b off (List.mem_append_right _ hm)⟩
end Go.VM

