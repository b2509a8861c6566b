/- The machine over typed values, part 4. -/
import Derived.WideShapes
import Derived.Laws.BitsLemmas
import Derived.Lib.LaidTab
import Derived.Test.YtlmenmaccoljeaaGreatV1
import Derived.Test.YtlmenmaccoljeaaGreatV2
import Derived.Test.YtlmenmaccoljeaaGreatV3
set_option linter.unusedSimpArgs false
set_option linter.unusedVariables false
set_option linter.unusedSectionVars false
namespace Go.VM
variable [Bor]
open Go.RowKit Go.ChangeShapes Go.WideShapes Go.Deep
variable {H : Type} {enc : TypeId × Value → H} {P : Program} {w : World} {base : Nat} {spare : Nat → Bool} {held : Bool}
theorem val_ok {u : U} {t : TypeId} {v : Value} {r : Reach} {b : Nat} (hb : opB P u t = true) (h : Value.okWide P w r b t v) : v = valOf u v.cells.toList := by
 unfold Value.okWide at h
 cases u with
 | bool =>
  simp only [opB] at hb
  split at hb
  ·rename_i hu
   rw [hu] at h
   simp only [Cell.okWide, hu, Cell.ok] at h
   cases v <;> simp_all [valOf, U.isAgg, Value.cells]
  ·cases hb
 | int k =>
  simp only [opB] at hb
  split at hb
  ·rename_i hu
   rw [hu] at h
   simp only [Cell.okWide, hu, Cell.ok] at h
   cases v <;> simp_all [valOf, U.isAgg, Value.cells]
  ·cases hb
 | str =>
  simp only [opB] at hb
  split at hb
  ·rename_i hu
   rw [hu] at h
   simp only [Cell.okWide, hu, Cell.ok] at h
   cases v <;> simp_all [valOf, U.isAgg, Value.cells]
  ·cases hb
 | sl e u =>
  simp only [opB, Bool.and_eq_true] at hb
  obtain ⟨_, hb⟩ := hb
  split at hb
  ·rename_i hu
   rw [hu] at h
   simp only [Cell.okWide, hu, Cell.ok] at h
   cases v <;> simp_all [valOf, U.isAgg, Value.cells]
  ·cases hb
 | bs u =>
  simp only [opB, Bool.and_eq_true] at hb
  obtain ⟨_, hb⟩ := hb
  split at hb
  ·rename_i hu
   rw [hu] at h
   simp only [Cell.okWide, hu, Cell.ok] at h
   cases v <;> simp_all [valOf, U.isAgg, Value.cells]
  ·cases hb
 | unit =>
  simp only [opB] at hb
  split at hb
  ·rename_i hu
   rw [hu] at h
   simp only at h
   obtain ⟨cs, rfl, _⟩ := h
   simp [valOf, U.isAgg, Value.cells]
  ·cases hb
 | pair a c =>
  simp only [opB] at hb
  split at hb
  ·rename_i hu
   rw [hu] at h
   simp only at h
   obtain ⟨cs, rfl, _⟩ := h
   simp [valOf, U.isAgg, Value.cells]
  ·cases hb
 | oth => simp [opB] at hb
 | pt _ => simp [opB] at hb
 | tr _ => simp [opB] at hb
 | ar n u => simp [opB] at hb
mutual
theorem opB_plain : ∀ {u : U} {t : TypeId}, opB P u t = true → u.plain = true
 | .bool, _, _ => rfl | .int _, _, _ => rfl | .str, _, _ => rfl | .unit, _, _ => rfl
 | .oth, _, h => by simp [opB] at h
 | .ar _ _, _, h => by simp [opB] at h
 | .pt _, _, h => by simp [opB] at h
 | .tr _, _, h => by simp [opB] at h
 | .sl e u, t, h => by
  simp only [opB, Bool.and_eq_true] at h
  obtain ⟨_, h⟩ := h
  split at h
  ·simp only [Bool.and_eq_true] at h; exact opB_plain (u := u) h.2
  ·cases h
 | .bs u, t, h => by
  simp only [opB, Bool.and_eq_true] at h
  obtain ⟨_, h⟩ := h
  split at h
  ·simp only [Bool.and_eq_true] at h; exact opB_plain (u := u) h.2
  ·cases h
 | .pair a b, t, h => by
  simp only [opB] at h
  split at h
  ·simp only [Bool.and_eq_true] at h
   obtain ⟨_, h⟩ := h
   split at h
   ·simp only [Bool.and_eq_true] at h
    simp only [U.plain, Bool.and_eq_true]
    exact ⟨opB_plain h.1.2, opF_plain h.2⟩
   ·cases h
  ·cases h
theorem opF_plain : ∀ {u : U} {fs : List Field} {o : Nat}, opF P u fs o = true → u.plain = true
 | .bool, _, _, _ => rfl | .int _, _, _, _ => rfl | .str, _, _, _ => rfl | .unit, _, _, _ => rfl
 | .oth, _, _, h => by simp [opF] at h
 | .ar _ _, _, _, h => by simp [opF] at h
 | .pt _, _, _, h => by simp [opF] at h
 | .tr _, _, _, h => by simp [opF] at h
 | .sl _ _, _, _, h => by simp [opF] at h
 | .bs _, _, _, h => by simp [opF] at h
 | .pair a b, fs, o, h => by
  simp only [opF] at h
  split at h
  ·simp only [Bool.and_eq_true] at h
   simp only [U.plain, Bool.and_eq_true]
   exact ⟨opB_plain h.1.2, opF_plain h.2⟩
  ·cases h
end
def WfAll : (us : List U) → Ty.Els (us.map .v) → Prop
 | [], _ => True | u :: us, x => Wf u x.1 ∧ WfAll us x.2
def opAll (P : Program) : List U → List TypeId → Bool
 | [], [] => true | u :: us, t :: ts => opB P u t && opAll P us ts | _, _ => false
theorem open_args [LawBor w] {r : Reach} {b : Nat} : ∀ {us : List U} {ts : List TypeId} {vs : List Value} {ds : List (DataW H)} {p : List MemPlace}, opAll P us ts = true → DataW.TrodAll enc P w base spare held ts vs ds p → (∀ (j : Nat) t v, ts[j]? = some t → vs[j]? = some v → Value.okWide P w r b t v) →
  ∃ x S, ArgsRep w (Ty.args (us.map .v) x) vs S [] ∧ WfAll us x
 | [], [], vs, ds, p, _, h, _ => by
  obtain ⟨rfl, _, _⟩ := trodAll_nil h
  exact ⟨(), [], by show ArgsRep w [] _ _ _; unfold ArgsRep; exact ⟨rfl, rfl, rfl⟩, trivial⟩
 | u :: us, t :: ts, vs, ds, p, ho, h, hv => by
  simp only [opAll, Bool.and_eq_true] at ho
  obtain ⟨v, vs', d, ds', p1, q, rfl, rfl, rfl, h1, h2⟩ := trodAll_cons h
  obtain ⟨fuel, hf⟩ := h1
  obtain ⟨y, F, hy, hw⟩ := open_rep ho.1 hf
  obtain ⟨x, S, hx, hxw⟩ := open_args ho.2 h2 fun j t v h3 h4 => hv (j + 1) t v (by simpa using h3) (by simpa using h4)
  refine ⟨(y, x), F ++ S, ?_, hw, hxw⟩
  show ArgsRep w (Arg.v u y :: Ty.args (us.map .v) x) _ _ _
  unfold ArgsRep
  exact ⟨v, vs', F, S, [], [], rfl, rfl, rfl, by unfold ArgRep; exact ⟨opB_plain ho.1, ⟨_, val_ok ho.1 (hv 0 t v rfl rfl), hy⟩, rfl⟩, hx⟩
 | [], _ :: _, _, _, _, h, _, _ => by simp [opAll] at h
 | _ :: _, [], _, _, _, h, _, _ => by simp [opAll] at h
theorem no_x1 : ∀ {us : List U} (x : Ty.Els (us.map .v)) (i f m : Nat), (Ty.args (us.map .v) x)[i]? ≠ some (.me f m)
 | [], x, i, f, m, h => by
  have h : ([] : List Arg)[i]? = some (.me f m) := h
  simp at h
 | u :: us, x, 0, f, m, h => by
  have h : (Arg.v u x.1 :: Ty.args (us.map .v) x.2)[0]? = some (.me f m) := h
  simp at h
 | u :: us, x, i + 1, f, m, h => by
  have h : (Arg.v u x.1 :: Ty.args (us.map .v) x.2)[i + 1]? = some (.me f m) := h
  rw [List.getElem?_cons_succ] at h
  exact no_x1 x.2 i f m h
theorem no_x {w : World} {vs : List Value} {us : List U} {l : List Ty} {x : Ty.Els l} (h : l = us.map .v) : RecOK w (Ty.args l x) vs := by
 subst h
 intro i f m hx
 exact absurd hx (no_x1 x i f m)
theorem law_call {gl : List (Nat × TV)} {e : Ctr} {us : List U} (hins : e.ins = us.map .v) (hret : e.ret = [.bool]) (houts : e.outs = []) (hpan : e.pan = none := by rfl) (hc : CtrOK P gl e) {vs : List Value} {S : List Nat} {x : Ty.Els e.ins} (ha : ArgsRep w (Ty.args e.ins x) vs S []) (hg : GlobOK gl w [])
  {n : Nat} {y : Tup (e.ret ++ e.outs)} (hy : e.fn n x = some y) (ht : tvs (e.ret ++ e.outs) y = [⟨.bool, true⟩]) : Calls P e.f vs.toArray w fun en w' => en = .returned (.bool true) ∧ Below w.heap.size w w' := by
 refine Calls.mono (((hc n).2 _ x y hy) w vs S [] ha (no_x (us := us) hins) List.nodup_nil (by simp) hg) ?_
 rintro en w' ⟨rv, F, O, rfl, h1, h2, h3, h4, h5, h6, h7, h8, h9⟩
 have hres : (e.res y).ret = [⟨.bool, true⟩] := by
  simp only [Ctr.res, ht, hret, hpan]
  rfl
 have hpn : (e.res y).pan = none := by simp only [Ctr.res, hpan]
 rw [hres, hpn] at h1
 rw [hpn]
 obtain ⟨cs, vr, F1, F2, rfl, _, _, hr, hn⟩ := h1
 obtain ⟨rfl, _⟩ := hn
 have hr : cs = [.bool true] ∧ F1 = [] := hr
 refine ⟨by rw [hr.1]; rfl, ⟨h5, h6, h7, h8, fun k hk => h9 k hk (by simp)⟩⟩
end Go.VM
namespace Go.VM
open Go.RowKit
@[reducible] def noBor : Bor := { Z := fun _ => False, ok := fun _ x v => x = [] ∧ v = .slice none 0 0, one := by rintro u x v ⟨_, rfl⟩; rfl, nil := fun _ => ⟨rfl, rfl⟩ }
@[reducible] def lawBor (w : World) : Bor :=
 { Z := fun b => b < w.heap.size
   ok := fun u x v => (x = [] ∧ v = .slice none 0 0) ∨ u.nobs = true ∧ ∃ F, @Rep noBor w false (.sl false u) x [v] F
   one := fun {u x v} h => h.elim (fun h => by rw [h.2]; rfl) (fun ⟨_, F, h⟩ => @Rep.sl_one noBor w false false u x v F h)
   nil := fun _ => .inl ⟨rfl, rfl⟩ }
theorem lawBor_law (w : World) : @LawBor (lawBor w) w := @LawBor.mk (lawBor w) w fun u x v F hn h => .inr ⟨hn, F, Rep.indep (u := .sl false u) hn h⟩
theorem lawBor_ok (w : World) : @BorOK (lawBor w) w := by
 rintro u x v (⟨rfl, rfl⟩ | ⟨hn, F, h⟩)
 ·exact ⟨[], ⟨_, rfl, .inl (.inl ⟨rfl, rfl, rfl⟩)⟩, by simp⟩
 ·exact ⟨F, Rep.indep (u := .sl false u) hn h, @Rep.block_lt noBor w false _ _ _ _ h⟩
theorem glob_law {gl : List (Nat × TV)} {w : World} (h : ∀ g u x, lkN gl g = some ⟨u, x⟩ → @ImRow (lawBor w) w (fun b => b < w.heap.size ∧ b ∉ []) u [x] ⟨g, 0, none⟩) (hz : GlSz gl w) : @GlobOK (lawBor w) gl w [] :=
 ⟨h, lawBor_ok w, fun b hb => ⟨hb, by simp⟩, hz⟩
end Go.VM

namespace Go.VM
def Ev {α : Type} (f : Nat → Option α) (v : α) : Prop := ∃ N, ∀ n, N ≤ n → f n = some v
namespace Ev
variable {α β : Type}
theorem pure {v : α} : Ev (fun _ => some v) v := ⟨0, fun _ _ => rfl⟩
theorem of_eq {v w : α} {f : Nat → Option α} (h : Ev f v) (e : v = w) : Ev f w := e ▸ h
theorem bind {f : Nat → Option α} {g : Nat → α → Option β} {a : α} {b : β} (h : Ev f a) (h' : Ev (fun n => g n a) b) : Ev (fun n => (f n).bind (g n)) b := by
 obtain ⟨N, h⟩ := h
 obtain ⟨N', h'⟩ := h'
 exact ⟨max N N', fun n hn => by show (f n).bind (g n) = _; rw [h n (by omega)]; exact h' n (by omega)⟩
theorem cnd {c : Bool} {f g : Nat → Option α} {v : α} (ht : c = true → Ev f v) (hf : c = false → Ev g v) : Ev (fun n => cond c (f n) (g n)) v := by
 cases c with
 | true => exact ht rfl
 | false => exact hf rfl
theorem yes {c : Bool} {f g : Nat → Option α} {v : α} (hc : c = true) (h : Ev f v) : Ev (fun n => cond c (f n) (g n)) v := by subst hc; exact h
theorem no {c : Bool} {f g : Nat → Option α} {v : α} (hc : c = false) (h : Ev g v) : Ev (fun n => cond c (f n) (g n)) v := by subst hc; exact h
theorem step {P : Type} {s : Nat → (P → Option α) → P → Option α} {p : P} {v : α} (h : Ev (fun n => s n (goRec s n) p) v) : Ev (fun n => goRec s n p) v := by
 obtain ⟨N, h⟩ := h
 refine ⟨N + 1, fun n hn => ?_⟩
 match n, hn with
 | n + 1, hn => exact h n (by omega)
theorem get {f : Nat → Option α} {v : α} (h : Ev f v) : ∃ n, f n = some v := by
 obtain ⟨N, h⟩ := h
 exact ⟨N, h N (Nat.le_refl _)⟩
end Ev
theorem wrap_id {x : Int} (h : -9223372036854775808 ≤ x ∧ x ≤ 9223372036854775807) : IntKind.wrap .i64 x = x := by
 rw [IntKind.wrap_i64]; omega
end Go.VM

namespace Go.VM
namespace Ev
variable {α β P σ τ : Type}
theorem pure' {a v : α} (h : a = v) : Ev (fun _ => some a) v := of_eq pure h
theorem held {v : α} {x : Option α} (h : x = some v) : Ev (fun n => hold n x) v := ⟨1, fun n hn => by match n, hn with | n + 1, _ => exact h⟩
theorem allN {step : Nat → (P → Option Bool) → P → Option Bool} {n : Nat} {p : Nat → Bool} {pt : Nat → P}
  (hs : ∀ i, i < n → (p i = true → ∀ v, Ev (fun m => goRec step m (pt (i + 1))) v → Ev (fun m => goRec step m (pt i)) v) ∧ (p i = false → Ev (fun m => goRec step m (pt i)) false))
  (he : Ev (fun m => goRec step m (pt n)) true) : Ev (fun m => goRec step m (pt 0)) ((List.range n).all p) := by
 have key : ∀ d i, i + d = n → Ev (fun m => goRec step m (pt i)) ((List.range' i d).all p) := by
  intro d
  induction d with
  | zero => intro i h; rw [Nat.add_zero] at h; subst h; exact he
  | succ d ih =>
   intro i h
   obtain ⟨h1, h2⟩ := hs i (by omega)
   rw [List.range'_succ, List.all_cons]
   cases hp : p i with
   | false => rw [Bool.false_and]; exact h2 hp
   | true => rw [Bool.true_and]; exact h1 hp _ (ih (i + 1) (by omega))
 have := key n 0 (by omega)
 rwa [List.range_eq_range']
theorem loop {step : Nat → (P → Option β) → P → Option β} {n : Nat} {pt : Nat → σ → P} (I : Nat → σ → Prop) (f : Nat → σ → β)
  (hs : ∀ i s, i < n → I i s → (∃ s', I (i + 1) s' ∧ f i s = f (i + 1) s' ∧ ∀ v, Ev (fun m => goRec step m (pt (i + 1) s')) v → Ev (fun m => goRec step m (pt i s)) v) ∨ Ev (fun m => goRec step m (pt i s)) (f i s))
  (he : ∀ s, I n s → Ev (fun m => goRec step m (pt n s)) (f n s)) : ∀ d i s, i + d = n → I i s → Ev (fun m => goRec step m (pt i s)) (f i s) := by
 intro d
 induction d with
 | zero => intro i s h hi; rw [Nat.add_zero] at h; subst h; exact he s hi
 | succ d ih =>
  intro i s h hi
  rcases hs i s (by omega) hi with ⟨s', h1, h2, h3⟩ | h1
  ·rw [h2]; exact h3 _ (ih (i + 1) s' (by omega) h1)
  ·exact h1
end Ev
theorem i64_ok {x : Int} (h1 : -9223372036854775808 ≤ x) (h2 : x ≤ 9223372036854775807) : IntKind.wrap .i64 x = x := wrap_id ⟨h1, h2⟩
theorem i64_nat {n : Nat} (h : n ≤ 4611686018427387904) : IntKind.wrap .i64 ((n : Int) + 1) = ((n + 1 : Nat) : Int) := by rw [i64_ok] <;> omega
theorem inB_nat {i n : Nat} (h : i < n) : inB (i : Int) n = true := by simp only [inB, decide_eq_true_eq]; omega
theorem inB_zero {n : Nat} (h : 0 < n) : inB 0 n = true := by simp only [inB, decide_eq_true_eq]; omega
theorem inC_nat {i j n : Nat} (h : i ≤ j) (h' : j ≤ n) : inC (i : Int) (j : Int) n = true := by simp only [inC, decide_eq_true_eq]; omega
theorem lt_yes {i n : Nat} (h : i < n) : decide ((i : Int) < (n : Int)) = true := by simp only [decide_eq_true_eq]; omega
theorem lt_no {n : Nat} : decide ((n : Int) < (n : Int)) = false := by simp
theorem room_ok {n : Nat} (h : n ≤ 1000000000) : room n = true := by simpa [room] using h
def Sm (k : Nat) : (u : U) → u.El → Prop
 | .str, s => ByteArray.size s ≤ k | .sl _ u, l => List.length l ≤ k ∧ ∀ x ∈ l, Sm k u x | .pair a b, x => Sm k a x.1 ∧ Sm k b x.2 | _, _ => True
theorem Sm.mono {k k' : Nat} (h : k ≤ k') : ∀ {u : U} {x : u.El}, Sm k u x → Sm k' u x
 | .str, s, hs => Nat.le_trans hs h
 | .sl _ u, l, hs => ⟨Nat.le_trans hs.1 h, fun x hx => Sm.mono h (hs.2 x hx)⟩
 | .pair a b, x, hs => ⟨Sm.mono h hs.1, Sm.mono h hs.2⟩
 | .bs _, _, _ => trivial | .pt _, _, _ => trivial | .tr _, _, _ => trivial | .bool, _, _ => trivial | .int _, _, _ => trivial | .unit, _, _ => trivial | .ar _ _, _, _ => trivial | .oth, _, _ => trivial
theorem getD_mem {α : Type} {l : List α} {i : Nat} {d : α} (h : i < l.length) : l.getD i d ∈ l := by
 rw [List.getD_eq_getElem?_getD, List.getElem?_eq_getElem h]; exact List.getElem_mem h
theorem toNat_cast (i : Nat) : Int.toNat (i : Int) = i := Int.toNat_natCast i
theorem seq_iff {a b : ByteArray} : seq a b = decide (a = b) := rfl
theorem octs_len {s : ByteArray} : (octs s).length = s.size := by simp [octs]
theorem octs_drop {s : ByteArray} {i : Nat} (h : i < s.size) : (octs s).drop i = bt s i :: (octs s).drop (i + 1) := by
 have h' : i < (octs s).length := by rw [octs_len]; exact h
 rw [List.drop_eq_getElem_cons h']
 congr 1
 have h2 : i < s.data.size := h
 simp only [octs, bt, Array.getD_eq_getD_getElem?, toNat_cast, List.getElem_map, Array.getElem_toList, Array.getElem?_eq_getElem h2, Option.getD_some]
theorem bt_range {s : ByteArray} {i : Int} : 0 ≤ bt s i ∧ bt s i ≤ 255 := by
 unfold bt
 have := (s.data.getD i.toNat 0).toNat_lt
 omega
end Go.VM
namespace Go.VM
def Sz (f : Nat → Option Int) (left : Int) (Q : Prop) : Prop := ∃ r, Ev f r ∧ r ≤ left ∧ (0 ≤ r → Q)
namespace Sz
variable {P : Type} {left l2 : Int} {Q Q' : Prop} {f g : Nat → Option Int}
theorem step {s : Nat → (P → Option Int) → P → Option Int} {p : P} (h : Sz (fun n => s n (goRec s n) p) left Q) : Sz (fun n => goRec s n p) left Q := by
 obtain ⟨r, h1, h2⟩ := h; exact ⟨r, Ev.step h1, h2⟩
theorem yes {c : Bool} (hc : c = true) (h : Sz f left Q) : Sz (fun n => cond c (f n) (g n)) left Q := by subst hc; exact h
theorem no {c : Bool} (hc : c = false) (h : Sz g left Q) : Sz (fun n => cond c (f n) (g n)) left Q := by subst hc; exact h
theorem bind {α : Type} {f : Nat → Option α} {g : Nat → α → Option Int} {a : α} (h : Ev f a) (h' : Sz (fun n => g n a) left Q) : Sz (fun n => (f n).bind (g n)) left Q := by
 obtain ⟨r, h1, h2⟩ := h'; exact ⟨r, Ev.bind h h1, h2⟩
theorem neg (h : 0 ≤ left) : Sz (fun _ => some (-(1 : Int))) left Q := ⟨-1, Ev.pure, by omega, by omega⟩
theorem imp (h : Sz f left Q) (hq : Q → Q') : Sz f left Q' := by obtain ⟨r, h1, h2, h3⟩ := h; exact ⟨r, h1, h2, fun h => hq (h3 h)⟩
theorem le (h : Sz f left Q) (hl : left ≤ l2) : Sz f l2 Q := by obtain ⟨r, h1, h2, h3⟩ := h; exact ⟨r, h1, by omega, h3⟩
end Sz
theorem ext_getD {α : Type} {d : α} {l m : List α} (h1 : m.length = l.length) (h2 : ∀ j, j < l.length → m.getD j d = l.getD j d) : m = l := by
 refine List.ext_getElem? fun j => ?_
 rcases Nat.lt_or_ge j l.length with h | h
 ·have := h2 j h
  rw [List.getD_eq_getElem?_getD, List.getD_eq_getElem?_getD, List.getElem?_eq_getElem h, List.getElem?_eq_getElem (by omega)] at this
  rw [List.getElem?_eq_getElem h, List.getElem?_eq_getElem (by omega)]
  simpa using this
 ·rw [List.getElem?_eq_none h, List.getElem?_eq_none (by omega)]
theorem getD_set_same {α : Type} {l : List α} {i : Nat} {d x : α} (h : i < l.length) : (l.set i x).getD i d = x := by
 rw [List.getD_eq_getElem?_getD]; simp [h]
theorem getD_set_other {α : Type} {l : List α} {i j : Nat} {d x : α} (h : j ≠ i) : (l.set i x).getD j d = l.getD j d := by
 rw [List.getD_eq_getElem?_getD, List.getD_eq_getElem?_getD, List.getElem?_set_ne (Ne.symm h)]
noncomputable def eqB {α : Type} (x y : α) : Bool := @decide (x = y) (Classical.propDecidable _)
theorem eqB_yes {α : Type} {x y : α} (h : x = y) : eqB x y = true := @decide_eq_true _ (Classical.propDecidable _) h
theorem eqB_no {α : Type} {x y : α} (h : x ≠ y) : eqB x y = false := @decide_eq_false _ (Classical.propDecidable _) h
theorem Ev.find {P : Type} {step : Nat → (P → Option Int) → P → Option Int} {n : Nat} {p : Nat → Bool} {pt : Nat → P}
  (hs : ∀ i, i < n → (p i = false → ∀ v, Ev (fun m => goRec step m (pt (i + 1))) v → Ev (fun m => goRec step m (pt i)) v) ∧ (p i = true → Ev (fun m => goRec step m (pt i)) (i : Int)))
  (he : Ev (fun m => goRec step m (pt n)) (-1)) : Ev (fun m => goRec step m (pt 0)) (match (List.range n).find? p with | some i => (i : Int) | none => -1) := by
 have key : ∀ d i, i + d = n → Ev (fun m => goRec step m (pt i)) (match (List.range' i d).find? p with | some i => (i : Int) | none => -1) := by
  intro d
  induction d with
  | zero => intro i h; rw [Nat.add_zero] at h; subst h; exact he
  | succ d ih =>
   intro i h
   obtain ⟨h1, h2⟩ := hs i (by omega)
   rw [List.range'_succ, List.find?_cons]
   cases hp : p i with
   | true => exact h2 hp
   | false => exact h1 hp _ (ih (i + 1) (by omega))
 have := key n 0 (by omega)
 rwa [List.range_eq_range']
theorem find_any {n : Nat} {p : Nat → Bool} : decide ((0 : Int) ≤ (match (List.range n).find? p with | some i => (i : Int) | none => -1)) = (List.range n).any p := by
 cases h : (List.range n).find? p with
 | none =>
  rw [List.find?_eq_none] at h
  have : (List.range n).any p = false := by rw [List.any_eq_false]; exact h
  rw [this]; decide
 | some i =>
  have h1 := List.find?_some h
  have h2 := List.mem_of_find?_eq_some h
  have : (List.range n).any p = true := List.any_eq_true.2 ⟨i, h2, h1⟩
  rw [this]; simp
end Go.VM

namespace Go.VM
def digitB (b : Int) : Bool := decide (48 ≤ b) && decide (b ≤ 57)
def letterB (b : Int) : Bool := decide (97 ≤ b) && decide (b ≤ 122) || decide (65 ≤ b) && decide (b ≤ 90)
def wordB (b : Int) : Bool := letterB b || digitB b || decide (b = 95)
def allB (p : Int → Bool) (s : ByteArray) : Bool := (List.range s.size).all fun i => p (bt s i)
def nameB (s : ByteArray) : Bool := decide (1 ≤ s.size) && decide (s.size ≤ 40) && !digitB (bt s 0) && allB wordB s
def printB (s : ByteArray) : Bool := allB (fun b => decide (32 ≤ b) && decide (b ≤ 126)) s
def timeB (n : Int) : Bool := decide (0 ≤ n) && decide (n ≤ 1000000000000)
theorem seq_empty {s : ByteArray} : seq s ⟨#[]⟩ = decide (s.size = 0) := by
 obtain ⟨⟨l⟩⟩ := s
 cases l <;> simp [seq, ByteArray.size]
end Go.VM
namespace Go.VM
def cmpN (a b : Int) : Int := if a < b then -1 else if b < a then 1 else 0
def cmpL : List Int → List Int → Int
 | [], [] => 0 | [], _ :: _ => -1 | _ :: _, [] => 1
 | x :: a, y :: b => if x < y then -1 else if y < x then 1 else cmpL a b
def cmpT (a b : ByteArray) : Int := cmpL (octs a) (octs b)
theorem bytes_cmp : ∀ (a b : List UInt8), Op.bytesLess a b = decide (cmpL (a.map fun x => (x.toNat : Int)) (b.map fun x => (x.toNat : Int)) < 0)
 | [], [] => by simp [Op.bytesLess, cmpL]
 | [], _ :: _ => by simp [Op.bytesLess, cmpL]
 | _ :: _, [] => by simp [Op.bytesLess, cmpL]
 | x :: a, y :: b => by
  have ih := bytes_cmp a b
  simp only [Op.bytesLess, List.map_cons, cmpL, ih]
  have h1 : x < y ↔ (x.toNat : Int) < (y.toNat : Int) := by rw [UInt8.lt_iff_toNat_lt]; omega
  have h2 : x = y ↔ (x.toNat : Int) = (y.toNat : Int) := by rw [← UInt8.toNat_inj]; omega
  by_cases c1 : (x.toNat : Int) < (y.toNat : Int)
  ·simp [h1, c1]
  ·by_cases c2 : (y.toNat : Int) < (x.toNat : Int)
   ·have : ¬ x = y := by rw [h2]; omega
    simp [h1, c1, c2, this]
   ·have : x = y := by rw [h2]; omega
    simp [h1, c1, c2, this]
theorem slt_cmp {a b : ByteArray} : slt a b = decide (cmpT a b < 0) := bytes_cmp _ _
def pat : List Int → List (List Int) → List Int → Option (List (List Int))
 | [], out, now => some (out ++ [now])
 | c :: r, out, now =>
  if c = 124 then pat r (out ++ [now]) [] else if c = 42 then pat r out (now ++ [-1]) else if c = 63 then pat r out (now ++ [-2])
  else if c = 92 then (match r with | [] => none | e :: r' => if e = 42 ∨ e = 63 ∨ e = 124 ∨ e = 92 then pat r' out (now ++ [e]) else none)
  else pat r out (now ++ [c])
 termination_by l => l.length
def alts (s : ByteArray) : Option (List (List Int)) := if s.size ≤ 100 ∧ printB s = true then pat (octs s) [] [] else none
def altR (x : Option (List (List Int))) : List (List Int) × Bool := match x with | some l => (l, true) | none => ([], false)
def toP (c : Int) : Int × Bool × Bool × Unit := if c = -1 then (0, false, true, ()) else if c = -2 then (0, true, false, ()) else (c, false, false, ())
def altP (x : Option (List (List Int))) : List (List (Int × Bool × Bool × Unit)) × Bool := match x with | some l => (l.map (List.map toP), true) | none => ([], false)
theorem pat_nil {out now} : pat [] out now = some (out ++ [now]) := by rw [pat.eq_def]
theorem pat_cons {c r out now} : pat (c :: r) out now = if c = 124 then pat r (out ++ [now]) [] else if c = 42 then pat r out (now ++ [-1]) else if c = 63 then pat r out (now ++ [-2])
  else if c = 92 then (match r with | [] => none | e :: r' => if e = 42 ∨ e = 63 ∨ e = 124 ∨ e = 92 then pat r' out (now ++ [e]) else none)
  else pat r out (now ++ [c]) := by conv => lhs; rw [pat.eq_def]
theorem i64_pred {k : Nat} (h : k ≤ 4611686018427387904) : IntKind.wrap .i64 (((k + 1 : Nat) : Int) - 1) = (k : Int) := by rw [i64_ok] <;> omega
theorem octs_nil {s : ByteArray} : (octs s).drop s.size = [] := by rw [List.drop_eq_nil_of_le]; rw [octs_len]; exact Nat.le_refl _
theorem i64_bt {s : ByteArray} {i : Int} : IntKind.wrap .i64 (bt s i) = bt s i := by have := bt_range (s := s) (i := i); rw [i64_ok] <;> omega
end Go.VM

namespace Go.VM
def GlIs (w : World) (e : Nat × TV) : Prop := ∃ cs t fz, w.heap[e.1]? = some (.cells cs t fz) ∧ cs.size = e.2.u.sz ∧ @Rep (lawBor w) w false e.2.u e.2.x cs.toList []
theorem lkN_memG {α : Type} : ∀ {gl : List (Nat × α)} {g : Nat} {v : α}, lkN gl g = some v → (g, v) ∈ gl
 | [], _, _, h => by cases h
 | (i, x) :: gl, g, v, h => by
  simp only [lkN] at h
  cases hb : Nat.beq i g with
  | true =>
   rw [hb] at h
   obtain rfl : i = g := by simpa using hb
   obtain rfl := Option.some.inj h
   exact List.mem_cons_self ..
  | false => rw [hb] at h; exact List.mem_cons_of_mem _ (lkN_memG h)
theorem glob_all {gl : List (Nat × TV)} {w : World} (h : ∀ e ∈ gl, GlIs w e) : @GlobOK (lawBor w) gl w [] := by
 letI : Bor := lawBor w
 refine glob_law (fun g u x hl => ?_) fun g u x hl => ?_
 ·obtain ⟨cs, t, fz, hh, _, hr⟩ := h _ (lkN_memG hl)
  exact ⟨cs, t, fz, [], cs.toList, [], [], rfl, hh, by simp, rfl, ⟨_, [], [], [], by simp, rfl, hr, rfl, rfl⟩, ⟨(Array.getElem?_eq_some_iff.1 hh).1, by simp⟩, by simp⟩
 ·obtain ⟨cs, t, fz, hh, hz, _⟩ := h _ (lkN_memG hl)
  exact ⟨cs, t, fz, hh, hz⟩
theorem rep_tabG [Bor] {w : World} {o : Bool} {k : IntKind} : ∀ (l : List Int), RepL (Rep w o (.int k)) l (l.map (Value.int k)) []
 | [] => ⟨rfl, rfl⟩
 | x :: l => ⟨[_], _, [], [], rfl, rfl, ⟨rfl, rfl⟩, rep_tabG l⟩
theorem rep_strG [Bor] {w : World} {o : Bool} : ∀ (l : List ByteArray), RepL (Rep w o .str) l (l.map Value.string) []
 | [] => ⟨rfl, rfl⟩
 | x :: l => ⟨[_], _, [], [], rfl, rfl, ⟨rfl, rfl⟩, rep_strG l⟩
def StrIs (P : Program) (w : World) (name : String) (ss : List ByteArray) : Prop := w.var? P name = some (ss.map Value.string).toArray
theorem glIs_int {P : Program} {w : World} {name : String} {k : IntKind} {zs : List Int} {g n : Nat} (hg : P.globalNamed name = some g) (h : Lib.TabIs P w name k zs) (hn : zs.length = n) : GlIs w (g, ⟨.ar n (.int k), zs⟩) := by
 letI : Bor := lawBor w
 unfold Lib.TabIs World.var? at h
 rw [hg, Option.bind_some] at h
 split at h
 ·rename_i cs t fz hh
  have h := Option.some.inj h
  exact ⟨cs, t, fz, hh, by rw [h]; simp [U.sz, hn], by rw [h]; exact ⟨hn, rep_tabG zs⟩⟩
 ·cases h
theorem glIs_str {P : Program} {w : World} {name : String} {ss : List ByteArray} {g n : Nat} (hg : P.globalNamed name = some g) (h : StrIs P w name ss) (hn : ss.length = n) : GlIs w (g, ⟨.ar n .str, ss⟩) := by
 letI : Bor := lawBor w
 unfold StrIs World.var? at h
 rw [hg, Option.bind_some] at h
 split at h
 ·rename_i cs t fz hh
  have h := Option.some.inj h
  exact ⟨cs, t, fz, hh, by rw [h]; simp [U.sz, hn], by rw [h]; exact ⟨hn, rep_strG ss⟩⟩
 ·cases h
def strData {H : Type} (ss : List ByteArray) : DataW H := .agg (ss.map fun s => .lit (.string s.data.toList))
theorem cells_of_strs {H : Type} {enc : TypeId × Value → H} {P : Program} {w : World} {base : Nat} {sp : Nat → Bool} {held : Bool} {fuel : Nat} {t e : TypeId} {n : Nat} {cs : List Value} {ss : List ByteArray} {p : List MemPlace}
  (ht : P.underlying t = some (.array n e)) (he : P.underlying e = some .string) (hce : P.cellsOf e = 1) (hct : P.cellsOf t = n)
  (h : DataW.trod enc P w base sp held fuel t cs = some (strData ss, p)) : cs = ss.map Value.string := by
 cases fuel with
 | zero => simp [DataW.trod] at h
 | succ fuel =>
  simp only [DataW.trod, ht, hce, hct, Nat.mul_one] at h
  split at h
  ·rename_i hl
   obtain ⟨xs, hm, hx⟩ := Option.map_eq_some_iff.1 h
   have hxs : xs.map (·.1) = ss.map fun s => (DataW.lit (.string s.data.toList) : DataW H) := by
    have := congrArg Prod.fst hx
    simpa [strData] using this
   have hxl : xs.length = n := by simpa using Lib.mapM_length hm
   have hzl : ss.length = n := by
    have := congrArg List.length hxs
    simp at this
    omega
   apply List.ext_getElem?
   intro i
   by_cases hi : i < n
   ·obtain ⟨b, hb, hf⟩ := Lib.mapM_at hm i i (by simp [hi])
    obtain ⟨z, hc, rfl, _⟩ := DataW.trod_string he hf
    have h1 : cs[i]? = some (.string z) := by
     have := congrArg (·[0]?) hc
     simpa [List.getElem?_take, List.getElem?_drop] using this
    have h2 : (xs.map (·.1))[i]? = some (DataW.lit (.string z.data.toList) : DataW H) := by simp [hb]
    rw [hxs] at h2
    simp only [List.getElem?_map, Option.map_eq_some_iff, DataW.lit.injEq, Lit.string.injEq] at h2
    obtain ⟨z', hz', h3⟩ := h2
    have : z' = z := by
     apply ByteArray.ext
     exact Array.toList_inj.1 h3
    subst this
    simp [h1, hz']
   ·rw [List.getElem?_eq_none (by omega), List.getElem?_eq_none (by simp; omega)]
  ·cases h
theorem strIs_of_head {P : Program} {W : World} {name : String} {ss : List ByteArray} {rest : List (String × DataW Unit)} {g : Nat} {t e : TypeId} {n : Nat}
  (hg : P.globalNamed name = some g) (hty : (P.globals[g]?).map (·.type) = some t) (ht : P.underlying t = some (.array n e)) (he : P.underlying e = some .string) (hce : P.cellsOf e = 1) (hct : P.cellsOf t = n)
  (h : laidMet P ((name, strData ss) :: rest) W) : StrIs P W name ss := by
 obtain ⟨ps, ⟨g', t', cs, fuel, p, q, hg', ht', hvar, hd, _, _⟩, _⟩ := h
 obtain rfl := Option.some.inj (hg.symm.trans hg')
 obtain rfl := Option.some.inj (hty.symm.trans ht')
 unfold StrIs
 rw [hvar, ← cells_of_strs ht he hce hct hd]
theorem laid_tailG {P : Program} {W : World} {x : String × DataW Unit} {rest : List (String × DataW Unit)} (h : laidMet P (x :: rest) W) : laidMet P rest W := by
 obtain ⟨name, d⟩ := x
 obtain ⟨ps, ⟨g', t', cs, fuel, p, q, _, _, _, _, hq, rfl⟩, hn, hc⟩ := h
 exact ⟨q, hq, (List.nodup_append.1 hn).2.1, fun b off hm => hc b off (List.mem_append_right _ hm)⟩
end Go.VM

