/- The machine over typed values, part 3. -/
import Derived.Orders
import Derived.ChangeArms
import Derived.Deep.Slices
import Derived.Test.YtlmenmaccoljeaaGreatV1
import Derived.Test.YtlmenmaccoljeaaGreatV2
set_option linter.unusedSimpArgs false
set_option linter.unusedVariables false
set_option linter.unusedSectionVars false
namespace Go.VM
open Go.RowKit
variable [β : Bor]
def BldFr (W W' : World) (L : List Nat) : Prop := W'.os = W.os ∧ W'.tape = W.tape ∧ W'.output = W.output ∧ W.heap.size ≤ W'.heap.size ∧ ∀ b, b < W.heap.size → b ∉ L → W'.heap[b]? = W.heap[b]?
def BldU (P : Program) (T t g : Nat) (xs : List Value) (f : Bool) (l l' : List Int) (R : Value → Prop) : Prop :=
 ∀ (W : World) (b : Nat) (F : List Nat), BldAt W T t f b l F → Calls P g (.pointer (some ⟨b, 0, none⟩) :: xs).toArray W fun en W' =>
  ∃ r F', en = .returned r ∧ R r ∧ BldAt W' T t false b l' F' ∧ BldFr W W' (b :: F) ∧ ∀ x ∈ F', x < W'.heap.size ∧ (x < W.heap.size → x ∈ F)
def BldOK (P : Program) (T t g k : Nat) : Prop := (∃ fn, P.funcs[g]? = some fn ∧ fn.body.isSome ∧ fn.name ≠ "runtime.NumGoroutine") ∧ match k with
 | 0 => ∀ (f : Bool) (l : List Int) (c : Int), l.length + 1 ≤ 1000000000 → BldU P T t g [.int .u8 c] f l (l ++ [c]) fun _ => True
 | 1 => ∀ (f : Bool) (l : List Int) (s : ByteArray), l.length + s.size ≤ 1000000000 → BldU P T t g [.string s] f l (l ++ octs s) fun _ => True
 | 2 => ∀ (W : World) (b : Nat) (f : Bool) (l : List Int) (F : List Nat), BldAt W T t f b l F → l.length ≤ 1000000000 → Calls P g #[.pointer (some ⟨b, 0, none⟩)] W fun en W' => en = .returned (.string (ofOcts l)) ∧ BldFr W W' (b :: F)
 | 3 => ∀ (f : Bool) (l : List Int), l.length ≤ 1000000000 → BldU P T t g [] f l l fun r => r = .int .i64 l.length
 | 4 => ∀ (l : List Int) (n : Int), 0 ≤ n → n ≤ 1000000000 → BldU P T t g [.int .i64 n] true l [] fun _ => True
 | _ => False
variable [β : Bor]
section
variable {X : Cx} {ρ : Type} {base : Nat} {h : Hp} {K : AV → Hp → Option ρ} {y : ρ}
theorem alloc_bld_ok {t t' : TypeId} {u : U} (ht : TyOK X.P t u) (hu : isBld u = true) (hy : K (.po base 0) [(base, .bld t t' true [])] = some y) : Good X base (.alloc t) [] h K y := by
 refine ⟨_, _, hy, ?_⟩
 intro o M tt used own a next Q ho hd hvs hh hi hb hn
 obtain ⟨i, z, h1, h2, h3⟩ := ht.bz hu
 have hz : (zeroValue t).run X.P M.w = .ok z M.w := by
  simp only [zeroValue, Sem.run_bind, run_info h1, Result.andThen_ok, h2]; rfl
 have hrun : (execOp a.eval o).run X.P M.w = .ok (.value (.pointer (some ⟨M.w.heap.size, 0, none⟩))) (M.w.alloc (.cells z.cells t)) := by
  simp only [execOp, ho, Instr.alloc, Sem.run_bind, hz, Result.andThen_ok]
  rfl
 rw [h3] at hrun
 refine wp_value hrun ?_
 have hbase : ¬ used base := by have := hb 0 (by omega); simpa using this
 have key := Inv.many hi (N := [⟨base, .bld t t' true [], (some ⟨M.w.heap.size, 0, none⟩, 0), [M.w.heap.size]⟩]) (ts := []) (w' := M.w.alloc (.cells #[.pointer none, .slice none 0 0] t)) (used' := fun j => used j ∨ base ≤ j ∧ j < base + 64) (by simp) (by simp) (fun j hj => .inl hj) ?hnu ?hold ?hfr ?hFb ?hrt ?hrf (by rw [alloc_sz]; omega) rfl rfl rfl
 case hnu =>
  intro n hn'
  obtain rfl := List.mem_singleton.1 hn'
  exact .inr ⟨Nat.le_refl _, by show base < base + 64; omega⟩
 case hold =>
  intro n hn' hu'
  obtain rfl := List.mem_singleton.1 hn'
  exact absurd hu' hbase
 case hfr => exact fun x hx _ => alloc_old _ _ hx
 case hFb =>
  intro n hn' x hx
  obtain rfl := List.mem_singleton.1 hn'
  obtain rfl := List.mem_singleton.1 hx
  refine ⟨by rw [alloc_sz]; omega, fun hZ => ?_, fun k hk => absurd (hi.ow _ k hk).1 (Nat.lt_irrefl _)⟩
  have := hi.zb _ hZ; have := hi.sz; omega
 case hrt =>
  intro M' h0 hZ hw' hk' hM' n hn' own' ho'
  have hm := hM' n hn'
  obtain rfl := List.mem_singleton.1 hn'
  exact ⟨M.w.heap.size, [], by rw [hm.1], ⟨.pointer none, .slice none 0 0, by rw [hw']; exact alloc_new _ _, .inl rfl, World.ownsRow_nil _ _ _ _, rfl, by simp, fun _ => rfl⟩, ho' _ (by simp), by simp⟩
 case hrf =>
  intro n hn' cs' hR j hj
  obtain rfl := List.mem_singleton.1 hn'
  cases hR
 refine hn ⟨M.w0, M.Z, lkU (nrH [⟨base, .bld t t' true [], (some ⟨M.w.heap.size, 0, none⟩, 0), [M.w.heap.size]⟩] ++ killed []) M.h, nrR [⟨base, .bld t t' true [], (some ⟨M.w.heap.size, 0, none⟩, 0), [M.w.heap.size]⟩] M.r, _⟩ _ _ rfl rfl rfl (key.put hd (c := .po base 0) ?_ ?_)
 ·simp only [AVRep]
  intro _
  exact ⟨⟨M.w.heap.size, 0, none⟩, by show (nrR _ _ base).1 = _; simp [nrR], by simp [Addr.add]⟩
 ·intro j hj
  simp only [refs, List.mem_singleton] at hj
  subst hj; exact .inr ⟨Nat.le_refl _, by omega⟩
theorem bldSrc_rep {M : Mem} {t used own a} (hi : Inv X M t used own a) (hh : ∀ id, lkH h id ≠ .dead → M.h id = lkH h id) {c : AV} {T tb id : Nat} {f : Bool} {l : List Int} {v : Value} (hs : bldSrc h T tb c = some (id, f, l)) (hv : AVRep M c v) :
  c = .po id 0 ∧ M.h id = .bld T tb f l ∧ ∃ b F, (M.r id).1 = some ⟨b, 0, none⟩ ∧ v = .pointer (some ⟨b, 0, none⟩) ∧ own b = some id ∧ BldAt M.w T tb f b l F ∧ ∀ x ∈ F, own x = some id := by
 unfold bldSrc at hs
 split at hs
 case h_2 => cases hs
 case h_1 id0 =>
  split at hs
  case h_2 => cases hs
  case h_1 T' t' f' l' hl =>
   obtain ⟨hid, hs1⟩ := sw_some hs
   simp only [Bool.and_eq_true, Nat.beq_eq] at hid
   obtain ⟨rfl, rfl⟩ := hid
   cases hs1
   have hM : M.h id = .bld T' t' f l := by rw [hh id (by rw [hl]; simp), hl]
   have hrt := hi.rt id
   rw [hM] at hrt
   obtain ⟨b, F, hr, hbld, hown, hF⟩ := hrt
   simp only [AVRep] at hv
   obtain ⟨ad, had, rfl⟩ := hv (by rw [hM]; simp)
   rw [hr] at had
   cases had
   exact ⟨rfl, hM, b, F, hr, by simp [Addr.add], hown, hbld, hF⟩
theorem bldU_ok {fo : Operand} {args : Array Operand} {ts : Array TypeId} {T tb g : Nat} {c : AV} {cs : List AV} {id : Nat} {f : Bool} {l l' : List Int} {res : AV} {R : Value → Prop} (hfn : ∃ fn, X.P.funcs[g]? = some fn ∧ fn.body.isSome ∧ fn.name ≠ "runtime.NumGoroutine")
  (hs : bldSrc h T tb c = some (id, f, l)) (hw : ∀ (M : Mem) (vs : List Value), AVRepL M cs vs → BldU X.P T tb g vs f l l' R) (hres : ∀ (M : Mem) (r : Value), R r → AVRep M res r) (href : refs res = [])
  (hy : K res [(id, .bld T tb false l')] = some y) : Good X base (.call { callee := .value fo, args, argTypes := ts }) (.fn g [] :: c :: cs) h K y := by
 refine ⟨_, _, hy, ?_⟩
 intro o M t used own a next Q ho hd hvs hh hi hb hn
 have hops : (evA X.E t fo) = .fn g [] ∧ args.toList.map (evA X.E t) = c :: cs := by
  simp only [Op.operands, Call.operands, Array.toList_append, List.map_append, List.map_cons, List.map_nil, List.cons_append, List.nil_append, List.cons.injEq] at hvs
  exact hvs
 obtain ⟨p, qs, rfl, hp, hq⟩ : ∃ p qs, args = (p :: qs).toArray ∧ evA X.E t p = c ∧ qs.map (evA X.E t) = cs := by
  obtain ⟨al⟩ := args
  match al, hops.2 with
  | [], h => simp at h
  | p :: qs, h =>
   simp only [List.map_cons, List.cons.injEq] at h
   exact ⟨p, qs, rfl, h.1, h.2⟩
 have hf := (hi.ev fo).1
 rw [hops.1] at hf
 simp only [AVRep, AVRepL] at hf
 obtain ⟨ws, hfv, rfl⟩ := hf
 have hpv := (hi.ev p).1
 have hpu := (hi.ev p).2
 rw [hp] at hpv hpu
 have hqv : AVRepL M cs (qs.map a.eval) := by
  rw [← hq]
  have hev := fun q => (hi.ev q).1
  clear hq hops ho hvs
  induction qs with
  | nil => simp [AVRepL]
  | cons q qs ih => simp only [List.map_cons, AVRepL]; exact ⟨_, _, rfl, hev q, ih⟩
 obtain ⟨rfl, hM, b, F, hr, hval, hown, hbld, hF⟩ := bldSrc_rep hi hh hs hpv
 have huid : used id := hpu id (by simp [refs])
 obtain ⟨fn, hfn, hbody, hname⟩ := hfn
 have hrun : (execOp a.eval o).run X.P M.w = .ok (.enter g (.pointer (some ⟨b, 0, none⟩) :: qs.map a.eval).toArray) M.w := by
  have h1 : (callFunc g (.pointer (some ⟨b, 0, none⟩) :: qs.map a.eval).toArray).run X.P M.w = .ok (.enter g (.pointer (some ⟨b, 0, none⟩) :: qs.map a.eval).toArray) M.w := by
   cases hbc : fn.body with
   | none => rw [hbc] at hbody; cases hbody
   | some c => simp [callFunc, hfn, hname, hbc]
  rw [← h1]
  simp [execOp, ho, resolve, hfv, Deferred.ofValue, invoke, hval]
 unfold Oper.wp
 rw [hrun, Oper.upon_enter]
 refine Calls.mono (hw M _ hqv M.w b F hbld) ?_
 rintro en W' ⟨r, F', rfl, hRr, hbld', ⟨f1, f2, f3, f4, f5⟩, hF'⟩
 have hlt : b < M.w.heap.size := (hi.ow b id hown).1
 have hother : ∀ x k, own x = some k → k ≠ id → W'.heap[x]? = M.w.heap[x]? ∧ x ≠ b ∧ x ∉ F' := by
  intro x k hk hne
  have hx := (hi.ow x k hk).1
  have hxb : x ≠ b := fun e => hne (by rw [e, hown] at hk; cases hk; rfl)
  have hxF : x ∉ F := fun hm => hne (by rw [hF x hm] at hk; cases hk; rfl)
  exact ⟨f5 x hx (by simp [hxb, hxF]), hxb, fun hm => hxF ((hF' x hm).2 hx)⟩
 have hZ' : ∀ x, M.Z x → W'.heap[x]? = M.w.heap[x]? ∧ x ≠ b ∧ x ∉ F' := by
  intro x hZ
  have hx : x < M.w.heap.size := by have := hi.zb x hZ; have := hi.sz; omega
  have hxb : x ≠ b := fun e => (hi.ow b id hown).2 (e ▸ hZ)
  have hxF : x ∉ F := fun hm => (hi.ow x id (hF x hm)).2 hZ
  exact ⟨f5 x hx (by simp [hxb, hxF]), hxb, fun hm => hxF ((hF' x hm).2 hx)⟩
 have key := hi.step (tgt := id) (R := .bld T tb false l') (ks := []) (w' := W') (r' := M.r) (own' := fun x => if x = b ∨ x ∈ F' then some id else if own x = some id then none else own x) (used' := fun j => used j ∨ base ≤ j ∧ j < base + 64)
  (fun j hj => .inl hj) (.inl huid) (fun _ _ => rfl) (fun _ => rfl) ?hK ?hR (fun cs h => by cases h) ?hown ?hown' (fun x hZ => (hZ' x hZ).1) f4 f1 f2 f3
 case hK =>
  intro _
  refine .inr ⟨rfl, .inl ⟨by rw [hM]; simp, fun e u l g b hx => ?_⟩⟩
  have hx : RowIs (lkU _ _ id) _ _ _ _ _ := hx
  rw [lkU_cons, if_pos rfl] at hx
  cases hx
 case hR => exact fun _ => ⟨b, F', hr, hbld', if_pos (.inl rfl), fun x hx => if_pos (.inr hx)⟩
 case hown =>
  intro x k hk hne _
  obtain ⟨g1, g2, g3⟩ := hother x k hk hne
  exact ⟨by rw [if_neg (by simp [g2, g3]), if_neg (by rw [hk]; simpa using hne), hk], g1⟩
 case hown' =>
  intro x k hk
  split at hk
  ·rename_i hx
   rcases hx with rfl | hx
   ·exact ⟨by omega, (hi.ow x id hown).2⟩
   ·exact ⟨(hF' x hx).1, fun hZ => (hZ' x hZ).2.2 hx⟩
  ·split at hk
   ·cases hk
   ·exact ⟨Nat.lt_of_lt_of_le (hi.ow x k hk).1 f4, (hi.ow x k hk).2⟩
 refine hn ⟨M.w0, M.Z, lkU ([(id, .bld T tb false l')] ++ killed []) M.h, M.r, W'⟩ _ _ rfl rfl rfl (key.put hd (c := res) (hres _ _ hRr) ?_)
 intro j hj
 rw [href] at hj; cases hj
theorem bldS_ok {fo : Operand} {args : Array Operand} {ts : Array TypeId} {T tb g : Nat} {c : AV} {id : Nat} {f : Bool} {l : List Int} (hok : BldOK X.P T tb g 2) (hroom : l.length ≤ 1000000000)
  (hs : bldSrc h T tb c = some (id, f, l)) (hy : K (.im .str (ofOcts l)) [(id, .dead)] = some y) : Good X base (.call { callee := .value fo, args, argTypes := ts }) [.fn g [], c] h K y := by
 obtain ⟨⟨fn, hfn, hbody, hname⟩, hw⟩ := hok
 refine ⟨_, _, hy, ?_⟩
 intro o M t used own a next Q ho hd hvs hh hi hb hn
 have hops : (evA X.E t fo) = .fn g [] ∧ args.toList.map (evA X.E t) = [c] := by
  simp only [Op.operands, Call.operands, Array.toList_append, List.map_append, List.map_cons, List.map_nil, List.cons_append, List.nil_append, List.cons.injEq] at hvs
  exact hvs
 obtain ⟨p, rfl⟩ : ∃ p, args = #[p] := by
  obtain ⟨al⟩ := args
  match al, hops.2 with
  | [p], _ => exact ⟨p, rfl⟩
  | [], h => simp at h
  | _ :: _ :: _, h => simp at h
 have hp := map1 hops.2
 have hf := (hi.ev fo).1
 rw [hops.1] at hf
 simp only [AVRep, AVRepL] at hf
 obtain ⟨ws, hfv, rfl⟩ := hf
 have hpv := (hi.ev p).1
 have hpu := (hi.ev p).2
 rw [hp] at hpv hpu
 obtain ⟨rfl, hM, b, F, hr, hval, hown, hbld, hF⟩ := bldSrc_rep hi hh hs hpv
 have hrun : (execOp a.eval o).run X.P M.w = .ok (.enter g #[.pointer (some ⟨b, 0, none⟩)]) M.w := by
  have h1 : (callFunc g #[.pointer (some ⟨b, 0, none⟩)]).run X.P M.w = .ok (.enter g #[.pointer (some ⟨b, 0, none⟩)]) M.w := by
   cases hbc : fn.body with
   | none => rw [hbc] at hbody; cases hbody
   | some c => simp [callFunc, hfn, hname, hbc]
  rw [← h1]
  simp [execOp, ho, resolve, hfv, Deferred.ofValue, invoke, hval]
 unfold Oper.wp
 rw [hrun, Oper.upon_enter]
 refine Calls.mono (hw M.w b f l F hbld hroom) ?_
 rintro en W' ⟨rfl, f1, f2, f3, f4, f5⟩
 have key := Inv.many hi (N := []) (ts := [id]) (w' := W') (used' := fun j => used j ∨ base ≤ j ∧ j < base + 64) (by simp) (by simp) (fun j hj => .inl hj) (by simp) (by simp) ?hfr (by simp) (fun _ _ _ _ _ _ n hn' => by cases hn') (by simp) f4 f1 f2 f3
 case hfr =>
  intro x hx hno
  refine f5 x hx fun hm => ?_
  rcases List.mem_cons.1 hm with rfl | hm
  ·exact hno id hown (by simp)
  ·exact hno id (hF x hm) (by simp)
 refine hn ⟨M.w0, M.Z, lkU (nrH [] ++ killed [id]) M.h, nrR [] M.r, W'⟩ _ _ rfl rfl rfl (key.put hd (c := .im .str (ofOcts l)) mk_str ?_)
 intro j hj
 simp [refs] at hj
theorem bldA_ok {fo : Operand} {args : Array Operand} {ts : Array TypeId} {T tb g k : Nat} {vs : List AV} (hlen : ts.size = vs.length) (hok : BldOK X.P T tb g k) (hy : bldA h k T tb vs K = some y) : Good X base (.call { callee := .value fo, args, argTypes := ts }) (.fn g [] :: vs) h K y := by
 have one : ∀ {M : Mem} {c : AV} {vs : List Value}, AVRepL M [c] vs → ∃ v, vs = [v] ∧ AVRep M c v := by
  intro M c vs hv
  simp only [AVRepL] at hv
  obtain ⟨v, r, rfl, hv, rfl⟩ := hv
  exact ⟨v, rfl, hv⟩
 unfold bldA at hy
 split at hy
 ·split at hy
  ·rename_i hs
   obtain ⟨hr, hy⟩ := cond_none hy
   exact bldS_ok hok (by simpa [room] using hr) hs hy
  ·rename_i id f l hs
   obtain ⟨hr, hy⟩ := cond_none hy
   refine bldU_ok (R := fun r => r = .int .i64 l.length) hok.1 hs (fun M vs hv => ?_) (fun M r hr => ?_) rfl hy
   ·simp only [AVRepL] at hv
    subst hv
    exact hok.2 f l (by simpa [room] using hr)
   ·subst hr; exact mk_int
  ·cases hy
 ·split at hy
  ·rename_i hs
   obtain ⟨hr, hy⟩ := cond_none hy
   refine bldU_ok (R := fun _ => True) hok.1 hs (fun M vs hv => ?_) (fun M r _ => by simp only [AVRep]) rfl hy
   obtain ⟨v, rfl, hv1⟩ := one hv
   rw [im_int hv1]; exact hok.2 _ _ _ (by simpa [room] using hr)
  ·rename_i id f l s hs
   obtain ⟨hr, hy⟩ := cond_none hy
   refine bldU_ok (R := fun _ => True) hok.1 hs (fun M vs hv => ?_) (fun M r _ => by simp only [AVRep]) rfl hy
   obtain ⟨v, rfl, hv1⟩ := one hv
   rw [im_str hv1]; exact hok.2 _ _ _ (by simpa [room] using hr)
  ·rename_i id l n hs
   obtain ⟨hr, hy⟩ := cond_none hy
   simp only [inC, decide_eq_true_eq] at hr
   refine bldU_ok (R := fun _ => True) hok.1 hs (fun M vs hv => ?_) (fun M r _ => by simp only [AVRep]) rfl hy
   obtain ⟨v, rfl, hv1⟩ := one hv
   rw [im_int hv1]; exact hok.2 _ _ (by omega) (by omega)
  ·cases hy
 ·cases hy
end
end Go.VM

namespace Go.VM
variable [Bor]
open Go.RowKit
theorem hol_keeps {M M' : Mem} {id : Nat} {e w} {l m : List w.El} {g' g2 i o : Nat} {wc : U} (hM : M.h id = .hol e w l g' i o wc) (hM' : M'.h id = .arr e w m g2) (hg : g' < g2) (hr : M'.r id = M.r id) (hlen : m.length = l.length) : Keeps M M' id := by
 refine .inr ⟨hr, .inr ⟨e, w, l, m, g', g2, true, false, rowH hM, rowA hM', hlen, by omega, fun _ => .inr hg, ?_⟩⟩
 intro p gg e' u' k v _ _ hp _ hat hhd
 obtain rfl := hp rfl
 simp only [atP, Option.some.injEq] at hat
 cases hat
 exact ⟨m, hlen, rfl, by simpa [hdrAt] using hhd⟩
theorem arr_hol_keeps {M M' : Mem} {id : Nat} {e w} {l m : List w.El} {g' i o : Nat} {wc : U} (hM : M.h id = .arr e w l g') (hM' : M'.h id = .hol e w m g' i o wc) (hr : M'.r id = M.r id) (hlen : m.length = l.length) : Keeps M M' id := by
 refine .inr ⟨hr, .inr ⟨e, w, l, m, g', g', false, true, rowA hM, rowH hM', hlen, Nat.le_refl _, fun h => (by cases h), ?_⟩⟩
 intro p gg e' u' k v _ _ _ hp hat hhd
 obtain rfl := hp rfl
 simp only [atP, Option.some.injEq] at hat
 cases hat
 exact ⟨m, hlen, rfl, by simpa [hdrAt] using hhd⟩
theorem run_copy_gap {P : Program} {W : World} {t e ty : TypeId} {i : TypeInfo} (ht : P.underlying t = some (.slice e)) (hi : P.info? e = some i) {g : Nat} {cc : Array Value} {ct : TypeId} {fz : Nat × Nat} {o dLen dCap : Nat} {a : Addr} {sLen sCap k : Nat} {cs : List Value}
  (hk : Nat.min sLen dLen = k) (hl : cs.length = k * i.size) (hh : W.heap[g]? = some (.cells cc ct fz)) (hsrc : ∀ j v, cs[j]? = some v → W.cell? (a.add j) = some v) (h1 : ∀ v ∈ cs, v.oneCell' = true) (hf : ∀ j, j < cc.size → ¬ (fz.1 ≤ j ∧ j < fz.2)) (hfit : o + cs.length ≤ cc.size) :
  (Builtin.copy_ #[t, t] ty #[.slice (some ⟨g, o, none⟩) dLen dCap, .slice (some a) sLen sCap]).run P W = .ok (goInt k) (putB W g (.cells (splice cc.toList o cs).toArray ct fz)) := by
 have hfc := run_firstCells_some (P := P) W i.size k a sLen sCap cs hl hsrc
 have hst := run_storeCells (P := P) (b := g) (t := ct) (fz := fz) (off := o) cs 0 cc W hh (by omega) h1 hf
 rw [Nat.add_zero] at hst
 simp [Builtin.copy_, run_underlying ht, run_sizeOf hi, Builtin.lenOf, hk, hfc, hst]
theorem run_copy_no {P : Program} {W : World} {t e ty : TypeId} {i : TypeInfo} (ht : P.underlying t = some (.slice e)) (hi : P.info? e = some i) {dCap : Nat} {d a : Addr} {sLen sCap : Nat} :
  (Builtin.copy_ #[t, t] ty #[.slice (some d) 0 dCap, .slice (some a) sLen sCap]).run P W = .ok (goInt 0) W := by
 have hfc := run_firstCells_some (P := P) W i.size 0 a sLen sCap [] (by simp) (by simp)
 have hm : Nat.min sLen 0 = 0 := Nat.min_eq_right (Nat.zero_le _)
 simp [Builtin.copy_, run_underlying ht, run_sizeOf hi, Builtin.lenOf, hm, hfc, storeCells]
theorem setAt_self : ∀ {u : U} {x y : u.El}, setAt u y u x 0 = some y
 | .pair a b, x, y => by simp [setAt]
 | .bool, _, _ => by simp [setAt] | .int _, _, _ => by simp [setAt] | .str, _, _ => by simp [setAt] | .sl _ _, _, _ => by simp [setAt] | .unit, _, _ => by simp [setAt]
 | .ar _ _, _, _ => by simp [setAt] | .oth, _, _ => by simp [setAt] | .bs _, _, _ => by simp [setAt] | .pt _, _, _ => by simp [setAt] | .tr _, _, _ => by simp [setAt]
section
variable {X : Cx} {ρ : Type} {base : Nat} {h : Hp} {K : AV → Hp → Option ρ} {y : ρ}
theorem nilPe_ok {x : Operand} {id : Nat} {p : List (Nat × Nat)} {g i o : Nat} (hc : (∃ e u l g', lkH h id = .arr e u l g' ∧ okG p g g' = true) ∨ (p = [] ∧ ∃ e u l g' i o w, lkH h id = .hol e u l g' i o w)) (hy : K (.pe id p g i o) [] = some y) : Good X base (.nilCheck x) [.pe id p g i o] h K y := by
 refine ⟨_, [], hy, OpOK.pure (fun j hj => ⟨_, by simp, hj⟩) ?_⟩
 intro op M t used own ac ho hvs hh hi
 have hx := (hi.ev x).1
 rw [map1 hvs] at hx
 refine ⟨_, hx, ?_⟩
 simp only [AVRep] at hx
 have : ∃ a, ac.eval x = .pointer (some a) := by
  rcases hc with ⟨e, u, l, g', hl, hok⟩ | ⟨rfl, e, u, l, g', i', o', w, hl⟩
  ·obtain ⟨_, hx⟩ := rowOld hx (by rw [hh id (by rw [hl]; simp), hl])
   obtain ⟨_, _, _, a, _, _, _, _, hv⟩ := hx hok
   exact ⟨_, hv⟩
  ·obtain ⟨_, hx⟩ := hx _ _ _ _ _ (rowH (by rw [hh id (by rw [hl]; simp), hl]))
   obtain ⟨_, _, _, a, _, _, _, _, hv⟩ := hx rfl (fun _ => by trivial)
   exact ⟨_, hv⟩
 obtain ⟨a, ha⟩ := this
 simp [execOp, ho, ha]
theorem fill_ok {t : TypeId} {u : U} {x z : Operand} {id g i o' : Nat} {e : Bool} {w : U} {l : List w.El} {g' : Nat} {v : AV} {yv : u.El} {ks : List Nat} {x' : w.El}
  (ht : TyOK X.P t u) (hl : lkH h id = .hol e w l g' i o' u) (hc : (unpack v).all (cellA h) = true) (has : asmOV h u v = some (yv, ks))
  (hset : setAt u yv w (l.getD i w.dflt) o' = some x') (hks : ks.any (Nat.beq id) = false)
  (hy : K .und ((id, .arr e w (l.set i x') (g' + 1)) :: killed ks) = some y) : Good X base (.store t x z) [.pe id [] g i o', v] h K y := by
 refine ⟨_, _, hy, ?_⟩
 intro o M tt used own a next Q ho hd hvs hh hi hb hn
 obtain ⟨h1, h2⟩ := map2 hvs
 have hx := (hi.ev x).1
 have hz := (hi.ev z).1
 rw [h1] at hx; rw [h2] at hz
 have hM : M.h id = .hol e w l g' i o' u := by rw [hh id (by rw [hl]; simp), hl]
 have hkid : id ∉ ks := fun hk => by rw [any_beq.2 hk] at hks; cases hks
 simp only [AVRep] at hx
 obtain ⟨_, hx⟩ := hx _ _ _ _ _ (rowH hM)
 obtain ⟨e2, w2, l2, ad, cap, hat2, hhd, hil, hv⟩ := hx rfl (fun _ => by trivial)
 simp only [atP, Option.some.injEq] at hat2
 cases hat2
 simp only [hdrAt, Option.some.injEq] at hhd
 have hrt := hi.rt id
 rw [hM] at hrt
 obtain ⟨F, ⟨hpw, hp, _, ad', cap', cc, ty, fz, G, c1, cj, c3, hv', hs, hoff, hlc, hw, hfz, hcsz, hcm, rfl, hcc, hc1, hcj, hfill⟩, hnd, hown⟩ := hrt
 rw [hhd] at hv'
 simp only [Value.slice.injEq, Option.some.injEq, true_and] at hv'
 obtain ⟨rfl, rfl⟩ := hv'
 obtain ⟨hur, hu1⟩ := unpack_rep hi hh hc hz
 obtain ⟨Fy, hyr, hynd, hksnd, ⟨_, hFy, hkd⟩, hkr⟩ := asmOV_rep hi hh hp has hur
 have hbl : ad.block < M.w.heap.size := lt_of_heap hw
 have hob : own ad.block = some id := hown _ (by simp)
 have hFyne : ∀ b ∈ Fy, own b ≠ some id := by
  intro b hb e
  obtain ⟨k, hk, e2⟩ := hFy b hb
  rw [e] at e2
  cases e2
  exact hkid hk
 have hylen := Rep.length hyr
 have hfit : i * w.sz + o' + u.sz ≤ cc.size := by
  have : cc.toList.length = c1.length + cj.length + c3.length := by rw [hcc]; simp; omega
  rw [Array.length_toList] at this
  omega
 have hrun := store_run (P := X.P) (t := t) (W := M.w) (ad := ad.add (i * w.sz + o')) (v := a.eval z) ht (Addr.add_spot hs _) hylen (by rw [Addr.add_block]; exact hw) (by rw [Addr.add_off, hoff]; omega) hu1 (fun j hj => hfz j (by omega))
 rw [Addr.add_block, Addr.add_off, hoff, Nat.zero_add] at hrun
 generalize hvs' : (a.eval z).cells.toList = vs at hrun hyr hylen hur hu1
 have hexec : (execOp a.eval o).run X.P M.w = .ok .skip (putB M.w ad.block (.cells (splice cc.toList (i * w.sz + o') vs).toArray ty fz)) := by
  simp only [execOp, ho, Instr.storeAt, hv, Instr.sureAddr, Sem.run_bind, Sem.run_pure, Result.andThen_ok, hrun]
 refine wp_skipped hexec ?_
 have hsame : ∀ b, b ≠ ad.block → (putB M.w ad.block (.cells (splice cc.toList (i * w.sz + o') vs).toArray ty fz)).heap[b]? = M.w.heap[b]? := fun b hb => putB_other hb
 have hWb : (putB M.w ad.block (.cells (splice cc.toList (i * w.sz + o') vs).toArray ty fz)).heap[ad.block]? = some (.cells (splice cc.toList (i * w.sz + o') vs).toArray ty fz) := putB_same hbl
 have hsz : (putB M.w ad.block (.cells (splice cc.toList (i * w.sz + o') vs).toArray ty fz)).heap.size = M.w.heap.size := putB_sz
 have hos : (putB M.w ad.block (.cells (splice cc.toList (i * w.sz + o') vs).toArray ty fz)).os = M.w.os ∧ (putB M.w ad.block (.cells (splice cc.toList (i * w.sz + o') vs).toArray ty fz)).tape = M.w.tape ∧ (putB M.w ad.block (.cells (splice cc.toList (i * w.sz + o') vs).toArray ty fz)).output = M.w.output := ⟨rfl, rfl, rfl⟩
 generalize putB M.w ad.block (.cells (splice cc.toList (i * w.sz + o') vs).toArray ty fz) = W at hsame hWb hsz hos
 have hnd2 := List.nodup_cons.1 hnd
 have hGb : ∀ b ∈ G, b ≠ ad.block := fun b hb e => hnd2.1 (e ▸ hb)
 have hFb : ∀ b ∈ Fy, b ≠ ad.block := fun b hb e => hFyne b hb (e ▸ hob)
 have hyr' : Rep W true u yv vs Fy := Rep.frame (fun b hb => hsame b (hFb b hb)) hyr
 obtain ⟨m, q, G', hmq, hrep, hG', hGn⟩ := hfill W yv vs Fy x' (fun b hb => hsame b (hGb b hb)) hyr' hset
 have hspl : splice cc.toList (i * w.sz + o') vs = m ++ q := by
  rw [← hmq, hcc, ← hc1, splice_mid (by rw [hcj, hylen])]
 have hI := hi.step (tgt := id) (R := .arr e w (l.set i x') (g' + 1)) (ks := ks) (w' := W) (r' := M.r) (own' := own2 own ks id) (used' := fun j => used j ∨ base ≤ j ∧ j < base + 64)
  (fun j hj => .inl hj) (.inl (hi.ud id (by rw [hM]; simp))) (fun _ _ => rfl) (fun _ => rfl) ?_ ?_ ?_ ?_ ?_ ?_ (by rw [hsz]; exact Nat.le_refl _) hos.1 hos.2.1 hos.2.2
 ·refine hn _ _ _ ?_ ?_ ?_ (hI.put hd (c := .und) (v := undef) (by simp only [AVRep]) (by simp [refs]))
  ·rfl
  ·rfl
  ·rfl
 ·intro _
  exact hol_keeps hM (by show lkU _ _ id = _; rw [lkU_cons, if_pos rfl]) (by omega) rfl (by simp)
 ·intro _
  have hn1 : G'.Nodup := by
   refine hGn ?_
   rw [List.nodup_append]
   refine ⟨hnd2.2, hynd, fun b hb c hc e => ?_⟩
   subst e
   exact hFyne b hc (hown b (List.mem_cons_of_mem _ hb))
  refine ⟨hpw, ad.block :: G', ?_, List.nodup_cons.2 ⟨fun hb => ?_, hn1⟩, ?_⟩
  ·refine .inr ⟨ad, cap, _, ty, fz, [], m, q, G', by show hdr (M.r id) _ = _; rw [List.length_set]; exact hhd, hs, ?_, by simpa using hlc, hWb, by simpa using hspl, hoff.symm, hrep, rfl, fun _ => ⟨hoff, ?_, ?_, hcm⟩⟩
   ·intro _ hnil
    have : (l.set i x').length = 0 := by rw [hnil]; rfl
    rw [List.length_set] at this; omega
   ·intro j hj
    refine hfz j ?_
    rw [List.size_toArray, splice_len (by rw [hylen, Array.length_toList]; omega), Array.length_toList] at hj
    exact hj
   ·rw [List.size_toArray, splice_len (by rw [hylen, Array.length_toList]; omega), Array.length_toList]; exact hcsz
  ·rcases hG' _ hb with hb | hb
   ·exact hGb _ hb rfl
   ·exact hFb _ hb rfl
  ·intro b hb
   have hold : own b = some id → own2 own ks id b = some id := fun h => by simp [own2, h, hkid]
   rcases List.mem_cons.1 hb with rfl | hb
   ·exact hold hob
   ·rcases hG' b hb with hb | hb
    ·exact hold (hown b (List.mem_cons_of_mem _ hb))
    ·obtain ⟨k, hk, e3⟩ := hFy b hb
     simp [own2, e3, hk]
 ·intro cs' hcs'; cases hcs'
 ·intro b' id' hob' hne' hkn
  refine ⟨by simp [own2, hob', hkn], hsame b' ?_⟩
  intro e
  subst e
  rw [hob] at hob'
  cases hob'
  exact hne' rfl
 ·intro b' id' hob'
  rw [hsz]
  unfold own2 at hob'
  cases h9 : own b' with
  | none => rw [h9] at hob'; cases hob'
  | some k => exact hi.ow b' k h9
 ·intro b' hZ
  refine hsame b' ?_
  intro e
  subst e
  exact (hi.ow _ id hob).2 hZ
theorem fillA_ok {t : TypeId} {u : U} {x z : Operand} {c v : AV} {q : Hp} (ht : TyOK X.P t u) (hf : fillA h u c v = some (true, q)) (hy : K .und q = some y) : Good X base (.store t x z) [c, v] h K y := by
 unfold fillA at hf
 split at hf
 case h_2 => cases hf
 case h_1 id g i o =>
  split at hf
  case h_2 => cases hf
  case h_1 e w l g' i' o' wc hl =>
   obtain ⟨hc, hf1⟩ := sw_some hf
   clear hf
   simp only [Bool.and_eq_true, Nat.beq_eq, decide_eq_true_eq] at hc
   obtain ⟨⟨rfl, rfl⟩, hc⟩ := hc
   split at hf1
   case h_2 => cases hf1
   case h_1 yv ks has =>
    split at hf1
    case h_2 => cases hf1
    case h_1 x' hset =>
     obtain ⟨hks, hf⟩ := sw_some' hf1
     clear hf1
     simp only [Option.some.injEq, Prod.mk.injEq, Nat.beq_eq] at hf
     obtain ⟨rfl, rfl⟩ := hf
     exact fill_ok ht hl hc has hset hks hy
theorem splice_gap {α : Type} {A B C q : List α} {z : Nat} (hC : C.length = z) : splice (A ++ (B ++ C) ++ q) (A.length + z) B = A ++ (B ++ C).take z ++ (B ++ q) := by
 have h1 : (A ++ (B ++ C) ++ q).take (A.length + z) = A ++ (B ++ C).take z := by
  rw [List.append_assoc, List.take_append, List.take_of_length_le (by omega), Nat.add_sub_cancel_left, List.take_append_of_le_length (by rw [List.length_append]; omega)]
 have h2 : (A ++ (B ++ C) ++ q).drop (A.length + z + B.length) = q := by
  rw [List.drop_append, List.drop_eq_nil_of_le (by simp only [List.length_append]; omega)]
  simp only [List.length_append, List.nil_append]
  rw [show A.length + z + B.length - (A.length + (B.length + C.length)) = 0 by omega]; rfl
 unfold splice
 rw [h1, h2]; simp only [List.append_assoc]
theorem copyGap_ok {t : TypeId} {e0 : Bool} {u0 : U} {args : Array Operand} {d s : AV} (ht : TyOK X.P t (.sl e0 u0)) (hy : copyA h u0 d s K = some y) :
  Good X base (.call { callee := .builtin .copy, args, argTypes := #[t, t] }) [d, s] h K y := by
 unfold copyA at hy
 split at hy
 case h_2 => cases hy
 case h_1 id a n g1 id' b m g2 =>
 obtain ⟨hid, hy1⟩ := sw_some hy
 clear hy
 obtain rfl : id = id' := by simpa using hid
 split at hy1
 case h_2 => cases hy1
 case h_1 e u l g hl =>
 obtain ⟨hpc, hy2⟩ := sw_some hy1
 simp only [Bool.and_eq_true, decide_eq_true_eq] at hpc
 have hcu := hpc.1.symm
 have hp := hpc.2
 subst hcu
 clear hy1
 obtain ⟨hcn, hy⟩ := cond_none hy2
 clear hy2
 simp only [Bool.and_eq_true, Nat.beq_eq, Nat.blt_eq] at hcn
 obtain ⟨⟨⟨rfl, hn⟩, hm⟩, hbl⟩ := hcn
 refine ⟨_, _, hy, ?_⟩
 intro o M tt used own act next Q ho hd hvs hh hi hb hn'
 simp only [Op.operands, Call.operands, Array.empty_append] at hvs
 obtain ⟨x, z, rfl⟩ : ∃ x z, args = #[x, z] := by
  obtain ⟨al⟩ := args
  match al, hvs with
  | [x, z], _ => exact ⟨x, z, rfl⟩
  | [], h => simp at h
  | [_], h => simp at h
  | _ :: _ :: _ :: _, h => simp at h
 obtain ⟨h1, h2⟩ := map2 hvs
 have hx := (hi.ev x).1
 have hz := (hi.ev z).1
 rw [h1] at hx; rw [h2] at hz
 have hM : M.h id = .arr e u l g := by rw [hh id (by rw [hl]; simp), hl]
 obtain ⟨_, F, hs, hnd, hown⟩ := hi.arr hM
 simp only [AVRep] at hx hz
 obtain ⟨_, hx⟩ := rowOld hx hM
 obtain ⟨_, hz⟩ := rowOld hz hM
 obtain ⟨e2, u2, l2, v2, hat, hhd, hwx⟩ := hx rfl
 simp only [atP, Option.some.injEq] at hat
 cases hat
 obtain ⟨e3, u3, l3, v3, hat, hhd3, hwz⟩ := hz rfl
 simp only [atP, Option.some.injEq] at hat
 cases hat
 simp only [hdrAt, Option.some.injEq] at hhd hhd3
 subst hhd
 subst hhd3
 simp only [Win] at hwx hwz
 rcases hs with ⟨hn0, h00, _⟩ | ⟨ad, cap, cc, ty, fz, pp, mc, q, G, hv', hsp, he, hlc, hw, hcc, hpl, hr, rfl, how⟩
 ·rw [h00] at hbl; simp at hbl
 obtain ⟨hoff, hfz, hcsz, hcm⟩ := how rfl
 obtain rfl : pp = [] := List.eq_nil_of_length_eq_zero (by rw [hpl, hoff])
 rw [hv'] at hwx hwz
 have hwx := hwx.resolve_left (fun h => by simp at h)
 have hwz := hwz.resolve_left (fun h => by simp at h)
 obtain ⟨ad1, len1, cap1, k1, q1, q2, q3, q4, q5, q6, q7⟩ := hwx
 simp only [Value.slice.injEq, Option.some.injEq] at q1
 obtain ⟨rfl, rfl, rfl⟩ := q1
 obtain ⟨ad2, len2, cap2, k2, p1, p2, p3, p4, p5, p6, p7⟩ := hwz
 simp only [Value.slice.injEq, Option.some.injEq] at p1
 obtain ⟨rfl, rfl, rfl⟩ := p1
 obtain rfl : k2 = b := p6.resolve_left (by omega)
 -- the parts of the row
 have hsplit : l = l.take k2 ++ ((l.drop k2).dropLast ++ [(l.drop k2).getLast (by intro h0; have := congrArg List.length h0; simp at this; omega)]) := by
  rw [List.dropLast_concat_getLast, List.take_append_drop]
 have hdl : (l.drop k2).dropLast.length = n := by rw [List.length_dropLast, List.length_drop]; omega
 generalize hB : (l.drop k2).dropLast = LB at hsplit hdl
 generalize (l.drop k2).getLast _ = last at hsplit
 have hr' := hr
 rw [hsplit] at hr'
 obtain ⟨cA, cR, GA, GR, hmc, rfl, hrA, hrR⟩ := RepL.of_append hr'
 obtain ⟨cB, cC, GB, GC, rfl, rfl, hrB, hrC⟩ := RepL.of_append hrR
 have lA : cA.length = k2 * u.sz := by
  have := RepL.length (fun _ _ _ => Rep.length) hrA
  rwa [List.length_take, Nat.min_eq_left (by omega)] at this
 have lB : cB.length = n * u.sz := by
  have := RepL.length (fun _ _ _ => Rep.length) hrB
  rwa [hdl] at this
 have lC : cC.length = u.sz := by
  have := RepL.length (fun _ _ _ => Rep.length) hrC
  simpa using this
 subst hmc
 obtain ⟨dd, hdd, hsh⟩ := ht.d
 obtain ⟨el, rfl, hel, _⟩ := hsh
 obtain ⟨i, zz, hei, hisz, _⟩ := hel.i
 have hblk : ad.block < M.w.heap.size := lt_of_heap hw
 have hob : own ad.block = some id := hown _ (by simp)
 have hadp : ∀ k, ad.add k = ⟨ad.block, k, none⟩ := fun k => by
  have := Addr.plain (Addr.add_spot hsp k)
  rw [this, Addr.add_block, Addr.add_off, hoff, Nat.zero_add]
 have hcl : cc.toList = cA ++ (cB ++ cC) ++ q := by simpa using hcc
 have hfit : (k2 + 1) * u.sz + cB.length ≤ cc.size := by
  have : cc.toList.length = cA.length + (cB.length + cC.length) + q.length := by rw [hcl]; simp; omega
  rw [Array.length_toList] at this
  rw [Nat.add_mul, Nat.one_mul]; omega
 have hone : ∀ v ∈ cB, v.oneCell' = true := RepL.one hrB
 have hcell : ∀ j v, cB[j]? = some v → M.w.cell? ((ad.add (k2 * u.sz)).add j) = some v :=
  cells_at (d := ad.add (k2 * u.sz)) (p := cA) (q := cC ++ q) (Addr.add_spot hsp _) (by rw [Addr.add_block]; exact hw) (by rw [hcl]; simp) (by rw [Addr.add_off, hoff, lA]; omega)
 have hrun : (Builtin.copy_ #[t, t] o.type #[act.eval x, act.eval z]).run X.P M.w = .ok (goInt n) (putB M.w ad.block (.cells (splice cc.toList ((k2 + 1) * u.sz) cB).toArray ty fz)) := by
  rw [q4, p4]
  rcases Nat.eq_zero_or_pos n with h0 | h0
  ·obtain rfl := h0
   have hB0 : cB = [] := List.eq_nil_of_length_eq_zero (by omega)
   rw [run_copy_no hdd hei, hB0]
   have : (splice cc.toList ((k2 + 1) * u.sz) []).toArray = cc := by
    apply Array.toList_inj.1
    simp [splice]
   rw [this, putB_self hw]
   rfl
  ·obtain rfl : k1 = k2 + 1 := q6.resolve_left (by omega)
   rw [hadp ((k2 + 1) * u.sz)]
   exact run_copy_gap hdd hei (by simp only [Nat.min_def]; split <;> omega) (by rw [lB, hisz]) hw hcell hone (fun j hj => hfz j (by omega)) hfit
 have hexec : (execOp act.eval o).run X.P M.w = .ok (.value (.int .i64 n)) (putB M.w ad.block (.cells (splice cc.toList ((k2 + 1) * u.sz) cB).toArray ty fz)) := by
  simp only [execOp, ho, resolve, invoke, builtin, List.map_toArray, List.map_cons, List.map_nil, Sem.run_bind, Sem.run_pure, Result.andThen_ok, hrun]
  rfl
 refine wp_value hexec ?_
 have hsame : ∀ b, b ≠ ad.block → (putB M.w ad.block (.cells (splice cc.toList ((k2 + 1) * u.sz) cB).toArray ty fz)).heap[b]? = M.w.heap[b]? := fun b hb => putB_other hb
 have hWb : (putB M.w ad.block (.cells (splice cc.toList ((k2 + 1) * u.sz) cB).toArray ty fz)).heap[ad.block]? = some (.cells (splice cc.toList ((k2 + 1) * u.sz) cB).toArray ty fz) := putB_same hblk
 have hsz : (putB M.w ad.block (.cells (splice cc.toList ((k2 + 1) * u.sz) cB).toArray ty fz)).heap.size = M.w.heap.size := putB_sz
 have hos : (putB M.w ad.block (.cells (splice cc.toList ((k2 + 1) * u.sz) cB).toArray ty fz)).os = M.w.os ∧ (putB M.w ad.block (.cells (splice cc.toList ((k2 + 1) * u.sz) cB).toArray ty fz)).tape = M.w.tape ∧ (putB M.w ad.block (.cells (splice cc.toList ((k2 + 1) * u.sz) cB).toArray ty fz)).output = M.w.output := ⟨rfl, rfl, rfl⟩
 generalize putB M.w ad.block (.cells (splice cc.toList ((k2 + 1) * u.sz) cB).toArray ty fz) = W at hsame hWb hsz hos
 have hspl : splice cc.toList ((k2 + 1) * u.sz) cB = cA ++ (cB ++ cC).take u.sz ++ (cB ++ q) := by
  rw [hcl, Nat.add_mul, Nat.one_mul, ← lA, splice_gap lC]
 have hshl : (shiftL l k2 u.dflt).length = l.length := by
  simp only [shiftL, hB, List.length_append, List.length_take, List.length_cons, hdl]; omega
 have hnd2 := List.nodup_cons.1 hnd
 have hGn : (GA ++ GB).Nodup ∧ ∀ b ∈ GA ++ GB, b ≠ ad.block ∧ own b = some id := by
  constructor
  ·have := hnd2.2
   rw [← List.append_assoc] at this
   exact (List.nodup_append.1 this).1
  ·intro b hb
   have hb2 : b ∈ GA ++ (GB ++ GC) := by simp only [List.mem_append] at hb ⊢; rcases hb with hb | hb <;> simp [hb]
   exact ⟨fun e => hnd2.1 (e ▸ hb2), hown b (List.mem_cons_of_mem _ hb2)⟩
 have hI := hi.step (tgt := id) (R := .hol e u (shiftL l k2 u.dflt) g k2 0 u) (ks := []) (w' := W) (r' := M.r) (own' := own) (used' := fun j => used j ∨ base ≤ j ∧ j < base + 64)
  (fun j hj => .inl hj) (.inl (hi.ud id (by rw [hM]; simp))) (fun _ _ => rfl) (fun _ => rfl) ?_ ?_ ?_ ?_ ?_ ?_ (by rw [hsz]; exact Nat.le_refl _) hos.1 hos.2.1 hos.2.2
 ·refine hn' _ _ _ ?_ ?_ ?_ (hI.put hd (c := .im (.int .i64) (n : Int)) (v := .int .i64 n) mk_int (by simp [refs]))
  ·rfl
  ·rfl
  ·rfl
 ·intro _
  exact arr_hol_keeps hM (by show lkU _ _ id = _; rw [lkU_cons, if_pos rfl]) rfl hshl
 ·intro _
  refine ⟨ad.block :: (GA ++ GB), ⟨hp, hp, by rw [hshl]; exact hbl, ad, cap, _, ty, fz, GA ++ GB, cA, (cB ++ cC).take u.sz, cB ++ q, ?_, hsp, hoff, by rw [hshl]; exact hlc, hWb, ?_, ?_, hcm, rfl, by rw [hspl], by rw [lA]; omega, ?_, ?_⟩, ?_, ?_⟩
  ·rw [hshl]; exact hv'
  ·intro j hj
   refine hfz j ?_
   rw [List.size_toArray, splice_len (by rw [Array.length_toList]; omega), Array.length_toList] at hj
   exact hj
  ·rw [List.size_toArray, splice_len (by rw [Array.length_toList]; omega), Array.length_toList]; exact hcsz
  ·rw [List.length_take, List.length_append]; omega
  ·intro W2 yv d H xv hW hyr hset
   rw [setAt_self] at hset
   obtain rfl := Option.some.inj hset
   have hfr : ∀ b ∈ GA ++ GB, W2.heap[b]? = M.w.heap[b]? := fun b hb => (hW b hb).trans (hsame b (hGn.2 b hb).1)
   refine ⟨cA ++ (d ++ cB), q, GA ++ (H ++ GB), by simp, ?_, ?_, ?_⟩
   ·have e1 : (shiftL l k2 u.dflt).set k2 yv = l.take k2 ++ yv :: LB := by
     have hlt : (l.take k2).length = k2 := by rw [List.length_take]; omega
     simp only [shiftL, hB]
     rw [List.set_append_right _ _ (by omega), hlt, Nat.sub_self]
     rfl
    rw [e1]
    exact RepL.append (RepL.imp (fun _ _ _ hGm => Rep.frame (fun b hb => hfr b (List.mem_append_left _ (hGm b hb)))) hrA) ⟨d, cB, H, GB, rfl, rfl, hyr, RepL.imp (fun _ _ _ hGm => Rep.frame (fun b hb => hfr b (List.mem_append_right _ (hGm b hb)))) hrB⟩
   ·intro b hb
    simp only [List.mem_append] at hb ⊢
    rcases hb with hb | hb | hb <;> simp [hb]
   ·intro hnn
    have : List.Perm ((GA ++ GB) ++ H) (GA ++ (H ++ GB)) := by
     rw [List.append_assoc]
     exact List.Perm.append_left _ List.perm_append_comm
    exact this.nodup_iff.1 hnn
  ·exact List.nodup_cons.2 ⟨fun hb => (hGn.2 _ hb).1 rfl, hGn.1⟩
  ·intro b hb
   rcases List.mem_cons.1 hb with rfl | hb
   ·exact hob
   ·exact (hGn.2 b hb).2
 ·intro cs' hcs'; cases hcs'
 ·intro b' id' hob' hne' hkn
  refine ⟨hob', hsame b' ?_⟩
  intro e
  subst e
  rw [hob] at hob'
  cases hob'
  exact hne' rfl
 ·intro b' id' hob'
  rw [hsz]
  exact hi.ow b' id' hob'
 ·intro b' hZ
  refine hsame b' ?_
  intro e
  subst e
  exact (hi.ow _ id hob).2 hZ
end
end Go.VM

namespace Go.VM
variable [Bor]
open Go.RowKit
abbrev P2 (u1 u2 : U) : U := .pair (.sl false u1) (.pair (.sl false u2) .unit)
def unh : Value → Option Addr × Nat | .slice a _ c => (a, c) | _ => (none, 0)
theorem sl_hdr {α : Type} {w : World} {e : Bool} {sz : Nat} {R : α → List Value → List Nat → Prop} {l : List α} {v : Value} {F : List Nat} (h : SlRep w true e sz R l v F) : hdr (unh v) l.length = v := by
 rcases h with ⟨rfl, rfl, _⟩ | ⟨a, cap, c, t, fz, p, m, q, G, rfl, _⟩
 ·rfl
 ·rfl
theorem ref_at {M : Mem} {id g i c cap : Nat} {e : Bool} {u : U} {l : List u.El} {v : Value} {ad : Addr} {cc : Array Value} {ty : TypeId} {fz : Nat × Nat} (hM : M.h id = .arr e u l g) (hv : AVRep M (.hs id [(i, c)] none g) v)
  (hh : hdr (M.r id) l.length = .slice (some ad) l.length cap) (hsp : ad.spot = none) (hoff : ad.off = 0) (hw : M.w.heap[ad.block]? = some (.cells cc ty fz)) : i < l.length ∧ cc.toList[i * u.sz + c]? = some v := by
 simp only [AVRep] at hv
 obtain ⟨_, hv⟩ := rowOld hv hM
 obtain ⟨e2, u2, l2, v', hat, hhd, hwin⟩ := hv (by simp [okG])
 simp only [Win] at hwin
 subst hwin
 rw [hh] at hhd
 simp only [hdrAt] at hhd
 split at hhd
 case isFalse => cases hhd
 case isTrue hil =>
 have hh2 : M.w.heap[(ad.add (i * u.sz + c)).block]? = some (.cells cc ty fz) := by rw [Addr.add_block]; exact hw
 have hsp2 := Addr.add_spot hsp (i * u.sz + c)
 have hcell : M.w.cell? (ad.add (i * u.sz + c)) = cc.toList[i * u.sz + c]? := by
  simp only [World.cell?, hh2, hsp2, Option.isSome_none, Bool.false_eq_true, if_false, Addr.add_off, hoff, Nat.zero_add]
  rw [Array.getElem?_toList]
 rw [hcell] at hhd
 refine ⟨hil, ?_⟩
 cases hc : cc.toList[i * u.sz + c]? with
 | none => rw [hc] at hhd; cases hhd
 | some v2 =>
  rw [hc] at hhd
  simp only at hhd
  split at hhd
  ·simp only [hdrAt, Option.some.injEq] at hhd; rw [hhd]
  ·cases hhd
theorem splice_self2 {l : List Value} {n : Nat} {a b : Value} (h1 : l[n]? = some a) (h2 : l[n + 1]? = some b) : splice l n [a, b] = l := by
 have e1 : l.drop n = a :: l.drop (n + 1) := by
  obtain ⟨hn, h1⟩ := List.getElem?_eq_some_iff.1 h1
  rw [List.drop_eq_getElem_cons hn, h1]
 have e2 : l.drop (n + 1) = b :: l.drop (n + 2) := by
  obtain ⟨hn, h2⟩ := List.getElem?_eq_some_iff.1 h2
  rw [List.drop_eq_getElem_cons hn, h2]
 have e3 : l.drop n = [a, b] ++ l.drop (n + 2) := by rw [e1, e2]; rfl
 conv => rhs; rw [← List.take_append_drop n l, e3]
 simp [splice]
section
variable {X : Cx} {ρ : Type} {base : Nat} {h : Hp} {K : AV → Hp → Option ρ} {y : ρ}
theorem swap_pre {t : TypeId} {u1 u2 : U} {x z : Operand} {id gg i j1 j2 g : Nat} {e : Bool} {l : List (P2 u1 u2).El} {v : AV} (ht : TyOK X.P t (P2 u1 u2)) (hl : lkH h id = .arr e (P2 u1 u2) l g)
  (hun : unpack v = [.hs id [(j1, 0)] none g, .hs id [(j2, 1)] none g]) {o : Oper} {M : Mem} {tt : List (Nat × AV)} {used : Nat → Prop} {own : Nat → Option Nat} {a : Act} (ho : o.op = .store t x z)
  (hvs : (Op.store t x z).operands.toList.map (evA X.E tt) = [.pe id [] gg i 0, v]) (hh : ∀ id, lkH h id ≠ .dead → M.h id = lkH h id) (hi : Inv X M tt used own a) :
  ∃ ad cap cc ty fz q G mc, M.h id = .arr e (P2 u1 u2) l g ∧ hdr (M.r id) l.length = .slice (some ad) l.length cap ∧ ad.spot = none ∧ ad.off = 0 ∧ M.w.heap[ad.block]? = some (.cells cc ty fz) ∧ l.length ≤ cap ∧
   (∀ j, j < cc.size + ((P2 u1 u2).sz - 1) → ¬ (fz.1 ≤ j ∧ j < fz.2)) ∧ cc.size = cap * (P2 u1 u2).sz ∧ cap ≤ maxLen ∧ cc.toList = mc ++ q ∧ RepL (Rep M.w true (P2 u1 u2)) l mc G ∧ (ad.block :: G).Nodup ∧ (∀ b ∈ ad.block :: G, own b = some id) ∧ (P2 u1 u2).plain = true ∧
   i < l.length ∧ j1 < l.length ∧ j2 < l.length ∧ ∃ t1 t2, cc.toList[j1 * 2]? = some t1 ∧ cc.toList[j2 * 2 + 1]? = some t2 ∧ (a.eval z).cells.toList = [t1, t2] ∧
   (execOp a.eval o).run X.P M.w = .ok .skip (putB M.w ad.block (.cells (splice cc.toList (i * 2) [t1, t2]).toArray ty fz)) := by
 obtain ⟨h1, h2⟩ := map2 hvs
 have hx := (hi.ev x).1
 have hz := (hi.ev z).1
 rw [h1] at hx; rw [h2] at hz
 have hM : M.h id = .arr e (P2 u1 u2) l g := by rw [hh id (by rw [hl]; simp), hl]
 simp only [AVRep] at hx
 obtain ⟨_, hx⟩ := rowOld hx hM
 obtain ⟨e2, w2, l2, ad, cap, hat2, hhd, hil, hv⟩ := hx rfl
 simp only [atP, Option.some.injEq] at hat2
 cases hat2
 simp only [hdrAt, Option.some.injEq] at hhd
 obtain ⟨hp, F, hs, hnd, hown⟩ := hi.arr hM
 rcases hs with ⟨hn', _⟩ | ⟨ad', cap', cc, ty, fz, pp, mc, q, G, hv', hsp, he, hlc, hw, hcc, hpl, hr, rfl, how⟩
 ·rw [hhd] at hn'; cases hn'
 rw [hhd] at hv'
 simp only [Value.slice.injEq, Option.some.injEq, true_and] at hv'
 obtain ⟨rfl, rfl⟩ := hv'
 obtain ⟨hoff, hfz, hcsz, hcm⟩ := how rfl
 obtain rfl : pp = [] := List.eq_nil_of_length_eq_zero (by rw [hpl, hoff])
 have hcell : (unpack v).all (cellA h) = true := by rw [hun]; simp [cellA, hl, okG]
 obtain ⟨hur, hu1⟩ := unpack_rep hi hh hcell hz
 rw [hun] at hur
 simp only [AVRepL] at hur
 obtain ⟨t1, r1, hr1, ha1, t2, r2, rfl, ha2, rfl⟩ := hur
 have c1 := ref_at hM ha1 hhd hsp hoff hw
 have c2 := ref_at hM ha2 hhd hsp hoff hw
 have hsz : (P2 u1 u2).sz = 2 := rfl
 rw [hsz] at c1 c2
 have hlen2 : mc.length = l.length * 2 := RepL.length (n := 2) (fun _ _ _ => Rep.length) hr
 have hcl : cc.toList.length = mc.length + q.length := by rw [hcc]; simp
 have hfit : i * 2 + 2 ≤ cc.size := by
  rw [Array.length_toList] at hcl
  omega
 have hrun := store_run (P := X.P) (t := t) (W := M.w) (ad := ad.add (i * (P2 u1 u2).sz + 0)) (v := a.eval z) ht (Addr.add_spot hsp _) (by rw [hr1]; rfl) (by rw [Addr.add_block]; exact hw) (by rw [Addr.add_off, hoff, hsz]; omega) hu1 (fun j hj => hfz j (by omega))
 rw [Addr.add_block, Addr.add_off, hoff, Nat.zero_add, hr1, hsz, Nat.add_zero] at hrun
 refine ⟨ad, cap, cc, ty, fz, q, G, mc, hM, hhd, hsp, hoff, hw, hlc, hfz, hcsz, hcm, by simpa using hcc, hr, hnd, hown, hp, hil, c1.1, c2.1, t1, t2, by simpa using c1.2, c2.2, hr1, ?_⟩
 have hv2 : a.eval x = .pointer (some (ad.add (i * 2))) := by rw [hv, hsz]; rfl
 simp only [execOp, ho, Instr.storeAt, hv2, Instr.sureAddr, Sem.run_bind, Sem.run_pure, Result.andThen_ok, hrun]
theorem swapNo_ok {t : TypeId} {u1 u2 : U} {x z : Operand} {id gg i g : Nat} {e : Bool} {l : List (P2 u1 u2).El} {v : AV} (ht : TyOK X.P t (P2 u1 u2)) (hl : lkH h id = .arr e (P2 u1 u2) l g)
  (hun : unpack v = [.hs id [(i, 0)] none g, .hs id [(i, 1)] none g]) (hy : K .und [] = some y) : Good X base (.store t x z) [.pe id [] gg i 0, v] h K y := by
 refine ⟨_, _, hy, ?_⟩
 intro o M tt used own a next Q ho hd hvs hh hi hb hn
 obtain ⟨ad, cap, cc, ty, fz, q, G, mc, hM, hhd, hsp, hoff, hw, hlc, hfz, hcsz, hcm, hcc, hr, hnd, hown, hp, hil, _, _, t1, t2, c1, c2, hr1, hexec⟩ := swap_pre ht hl hun ho hvs hh hi
 rw [splice_self2 c1 c2] at hexec
 rw [show (Obj.cells cc.toList.toArray ty fz) = .cells cc ty fz from by rw [Array.toArray_toList], putB_self hw] at hexec
 refine wp_skipped hexec ?_
 exact hn M _ _ rfl rfl (by funext id; rfl) ((hi.grow (fun j hj => .inl hj)).put hd (c := .und) (v := undef) (by simp only [AVRep]) (by simp [refs]))
set_option maxHeartbeats 1600000 in
theorem swapGo_ok {t : TypeId} {u1 u2 : U} {x z : Operand} {id gg j g o' : Nat} {e : Bool} {l : List (P2 u1 u2).El} {v : AV} (ht : TyOK X.P t (P2 u1 u2)) (hl : lkH h id = .arr e (P2 u1 u2) l g) (hp1 : u1.plain = true) (hp2 : u2.plain = true)
  (hun : unpack v = [.hs id [(j, 0)] none g, .hs id [(j, 1)] none g]) (hj : 0 < j) (hob : lkH h o' = .obj [.hs id [(0, 0)] none g, .hs id [(0, 1)] none g])
  (hy : K .und ([(id, .hol e (P2 u1 u2) (l.set 0 (l.getD j (U.dflt (P2 u1 u2)))) (g + 1) j 0 (P2 u1 u2)), (base + 32, .arr false u1 (l.getD 0 (U.dflt (P2 u1 u2))).1 0), (base + 33, .arr false u2 (l.getD 0 (U.dflt (P2 u1 u2))).2.1 0), (o', .obj [.hs (base + 32) [] none 0, .hs (base + 33) [] none 0])] ++ killed [id, o']) = some y) :
  Good X base (.store t x z) [.pe id [] gg 0 0, v] h K y := by
 refine ⟨_, _, hy, ?_⟩
 intro o M tt used own a next Q ho hd hvs hh hi hb hn
 obtain ⟨ad, cap, cc, ty, fz, q, G, mc, hM, hhd, hsp, hoff, hw, hlc, hfz, hcsz, hcm, hcc, hr, hnd, hown, hp, hil, hj1, _, t1, t2, c1, c2, hr1, hexec⟩ := swap_pre ht hl hun ho hvs hh hi
 cases l with
 | nil => simp at hil
 | cons x0 tl =>
 obtain ⟨k, rfl⟩ : ∃ k, j = k + 1 := ⟨j - 1, by omega⟩
 have hk : k < tl.length := by simpa using hj1
 obtain ⟨c0, ct, G0, Gt, rfl, rfl, hx0, htl⟩ := hr
 obtain ⟨d1, d2, d3, H1, H2, H3, rfl, rfl, hd1, hxj, htk, hdr', _⟩ := RepL.at (n := 2) (fun _ _ _ => Rep.length) (U.dflt (P2 u1 u2)) k htl hk
 have hxj' := hxj
 obtain ⟨_, _, A1, _, rfl, rfl, ⟨s1, rfl, hs1⟩, _, _, A2, _, rfl, rfl, ⟨s2, rfl, hs2⟩, rfl, rfl⟩ := hx0
 obtain ⟨_, _, B1, _, rfl, rfl, ⟨t1', rfl, _⟩, _, _, B2, _, rfl, rfl, ⟨t2', rfl, _⟩, rfl, rfl⟩ := hxj'
 have hs1 := hs1.resolve_right (fun h => bare_no h)
 have hs2 := hs2.resolve_right (fun h => bare_no h)
 have e0 : cc.toList = ([s1, s2] ++ d1) ++ (t1' :: t2' :: (d3 ++ q)) := by rw [hcc]; simp
 have e0l : ([s1, s2] ++ d1).length = (k + 1) * 2 := by simp; omega
 rw [e0, List.getElem?_append_right (by omega), e0l, Nat.sub_self] at c1
 rw [e0, List.getElem?_append_right (by omega), e0l, show (k + 1) * 2 + 1 - (k + 1) * 2 = 1 by omega] at c2
 simp only [List.getElem?_cons_zero, List.getElem?_cons_succ, Option.some.injEq] at c1 c2
 subst c1 c2
 -- the object
 have hMo : M.h o' = .obj [.hs id [(0, 0)] none g, .hs id [(0, 1)] none g] := by rw [hh o' (by rw [hob]; simp), hob]
 have hro := hi.rt o'
 rw [hMo] at hro
 obtain ⟨bo, oc, ot, hrb, hbo, hav, howo⟩ := hro
 have hno : o' ≠ id := fun e => by rw [e, hM] at hMo; cases hMo
 simp only [AVRepL] at hav
 obtain ⟨w1, _, hoc, ha1, w2, _, rfl, ha2, rfl⟩ := hav
 have g1 := (ref_at hM ha1 hhd hsp hoff hw).2
 have g2 := (ref_at hM ha2 hhd hsp hoff hw).2
 rw [show (0 : Nat) * (P2 u1 u2).sz + 0 = 0 by simp, e0] at g1
 rw [show (0 : Nat) * (P2 u1 u2).sz + 1 = 1 by simp, e0] at g2
 simp at g1 g2
 subst g1 g2
 have hspl : splice cc.toList (0 * 2) [t1', t2'] = ([t1', t2'] ++ d1) ++ [t1', t2'] ++ (d3 ++ q) := by rw [e0]; simp [splice]
 rw [hspl] at hexec
 refine wp_skipped hexec ?_
 have hbl : ad.block < M.w.heap.size := lt_of_heap hw
 have hob' : own ad.block = some id := hown _ (by simp)
 have hsame : ∀ b, b ≠ ad.block → (putB M.w ad.block (.cells (([t1', t2'] ++ d1) ++ [t1', t2'] ++ (d3 ++ q)).toArray ty fz)).heap[b]? = M.w.heap[b]? := fun b hb => putB_other hb
 have hWb : (putB M.w ad.block (.cells (([t1', t2'] ++ d1) ++ [t1', t2'] ++ (d3 ++ q)).toArray ty fz)).heap[ad.block]? = some (.cells (([t1', t2'] ++ d1) ++ [t1', t2'] ++ (d3 ++ q)).toArray ty fz) := putB_same hbl
 have hsz : (putB M.w ad.block (.cells (([t1', t2'] ++ d1) ++ [t1', t2'] ++ (d3 ++ q)).toArray ty fz)).heap.size = M.w.heap.size := putB_sz
 have hos : (putB M.w ad.block (.cells (([t1', t2'] ++ d1) ++ [t1', t2'] ++ (d3 ++ q)).toArray ty fz)).os = M.w.os ∧ (putB M.w ad.block (.cells (([t1', t2'] ++ d1) ++ [t1', t2'] ++ (d3 ++ q)).toArray ty fz)).tape = M.w.tape ∧ (putB M.w ad.block (.cells (([t1', t2'] ++ d1) ++ [t1', t2'] ++ (d3 ++ q)).toArray ty fz)).output = M.w.output := ⟨rfl, rfl, rfl⟩
 have hcsz' : (([t1', t2'] ++ d1) ++ [t1', t2'] ++ (d3 ++ q)).toArray.size = cc.size := by
  rw [← Array.length_toList (xs := cc), e0]; simp
 generalize putB M.w ad.block (.cells (([t1', t2'] ++ d1) ++ [t1', t2'] ++ (d3 ++ q)).toArray ty fz) = W at hsame hWb hsz hos
 have hnd2 := List.nodup_cons.1 hnd
 have hbk : ∀ b ∈ (A1 ++ (A2 ++ [])) ++ (H1 ++ (B1 ++ (B2 ++ [])) ++ H3), b ≠ ad.block := fun b hb e => hnd2.1 (e ▸ hb)
 have hperm : List.Perm (ad.block :: ((A1 ++ (A2 ++ [])) ++ (H1 ++ (B1 ++ (B2 ++ [])) ++ H3))) ((ad.block :: ((B1 ++ B2) ++ (H1 ++ H3))) ++ (A1 ++ A2)) := by
  refine List.Perm.cons _ ?_
  have p1 : List.Perm (H1 ++ (B1 ++ (B2 ++ [])) ++ H3) ((B1 ++ B2) ++ (H1 ++ H3)) := by
   rw [List.append_nil, List.append_assoc H1]
   have : List.Perm (H1 ++ ((B1 ++ B2) ++ H3)) ((B1 ++ B2) ++ (H1 ++ H3)) := by
    rw [← List.append_assoc H1, ← List.append_assoc (B1 ++ B2)]
    exact List.Perm.append_right _ List.perm_append_comm
   exact this
  rw [List.append_nil]
  exact List.perm_append_comm.trans (List.Perm.append_right _ p1)
 have hndp := hperm.nodup_iff.1 hnd
 have hmem : ∀ b, b ∈ (ad.block :: ((B1 ++ B2) ++ (H1 ++ H3))) ++ (A1 ++ A2) → own b = some id := fun b hb => hown b (hperm.mem_iff.2 hb)
 have huid : used id := hi.ud id (by rw [hM]; simp)
 have huo : used o' := hi.ud o' (by rw [hMo]; simp)
 have hf32 : ¬ used (base + 32) := hb 32 (by omega)
 have hf33 : ¬ used (base + 33) := hb 33 (by omega)
 have hboid : own bo ≠ some id := fun e => by rw [howo] at e; cases e; exact hno rfl
 have hboad : bo ≠ ad.block := fun e => hboid (e ▸ hob')
 have key := Inv.many hi (N := [⟨id, .hol e (P2 u1 u2) ((x0 :: tl).set 0 ((x0 :: tl).getD (k + 1) (U.dflt (P2 u1 u2)))) (g + 1) (k + 1) 0 (P2 u1 u2), M.r id, ad.block :: ((B1 ++ B2) ++ (H1 ++ H3))⟩, ⟨base + 32, .arr false u1 x0.1 0, unh s1, A1⟩, ⟨base + 33, .arr false u2 x0.2.1 0, unh s2, A2⟩, ⟨o', .obj [.hs (base + 32) [] none 0, .hs (base + 33) [] none 0], M.r o', [bo]⟩]) (ts := [id, o']) (w' := W) (used' := fun j => used j ∨ base ≤ j ∧ j < base + 64)
  ?hid ?hF (fun j hj => .inl hj) ?hnu ?hold ?hfr ?hFb ?hrt ?hrf (by rw [hsz]; exact Nat.le_refl _) hos.1 hos.2.1 hos.2.2
 ·refine hn _ _ _ ?_ ?_ ?_ (key.put hd (c := .und) (v := undef) (by simp only [AVRep]) (by simp [refs]))
  ·rfl
  ·rfl
  ·rfl
 case hid =>
  have a1 : id ≠ base + 32 := fun e => hf32 (e ▸ huid)
  have a2 : id ≠ base + 33 := fun e => hf33 (e ▸ huid)
  have a3 : o' ≠ base + 32 := fun e => hf32 (e ▸ huo)
  have a4 : o' ≠ base + 33 := fun e => hf33 (e ▸ huo)
  simp only [List.map_cons, List.map_nil, List.nodup_cons, List.mem_cons, List.not_mem_nil, or_false, not_or, List.nodup_nil, and_true, not_false_eq_true]
  omega
 case hF =>
  have e1 : List.flatMap NR.F [(⟨id, .hol e (P2 u1 u2) ((x0 :: tl).set 0 ((x0 :: tl).getD (k + 1) (U.dflt (P2 u1 u2)))) (g + 1) (k + 1) 0 (P2 u1 u2), M.r id, ad.block :: ((B1 ++ B2) ++ (H1 ++ H3))⟩ : NR), ⟨base + 32, .arr false u1 x0.1 0, unh s1, A1⟩, ⟨base + 33, .arr false u2 x0.2.1 0, unh s2, A2⟩, ⟨o', .obj [.hs (base + 32) [] none 0, .hs (base + 33) [] none 0], M.r o', [bo]⟩] = ((ad.block :: ((B1 ++ B2) ++ (H1 ++ H3))) ++ (A1 ++ A2)) ++ [bo] := by simp
  rw [e1]
  exact List.nodup_append.2 ⟨hndp, List.nodup_cons.2 ⟨List.not_mem_nil, List.nodup_nil⟩, fun b hb c hc e => by
   rw [List.mem_singleton.1 hc] at e
   exact hboid (by rw [← e]; exact hmem b hb)⟩
 case hnu =>
  intro n hn
  simp only [List.mem_cons, List.not_mem_nil, or_false] at hn
  rcases hn with rfl | rfl | rfl | rfl
  ·exact .inl huid
  ·exact .inr ⟨by show base ≤ base + 32; omega, by show base + 32 < base + 64; omega⟩
  ·exact .inr ⟨by show base ≤ base + 33; omega, by show base + 33 < base + 64; omega⟩
  ·exact .inl huo
 case hold =>
  intro n hn hu
  simp only [List.mem_cons, List.not_mem_nil, or_false] at hn
  rcases hn with rfl | rfl | rfl | rfl
  ·exact ⟨by simp, rfl, .inr ⟨e, P2 u1 u2, x0 :: tl, _, g, g + 1, true, hM, .hol, by simp, .inl (by omega)⟩⟩
  ·exact absurd hu hf32
  ·exact absurd hu hf33
  ·exact ⟨by simp, rfl, .inl ⟨_, _, hMo, rfl⟩⟩
 case hfr =>
  intro b _ hk
  refine hsame b fun e => ?_
  subst e
  exact hk id hob' (by simp)
 case hFb =>
  intro n hn b hb
  have key : ∀ b k, own b = some k → k = id ∨ k = o' → b < W.heap.size ∧ ¬ M.Z b ∧ ∀ k, own b = some k → k ∈ [id, o'] := by
   intro b k hk hk2
   refine ⟨by rw [hsz]; exact (hi.ow b k hk).1, (hi.ow b k hk).2, fun k' hk' => ?_⟩
   rw [hk] at hk'; cases hk'
   rcases hk2 with rfl | rfl <;> simp
  simp only [List.mem_cons, List.not_mem_nil, or_false] at hn
  rcases hn with rfl | rfl | rfl | rfl
  ·exact key b id (hmem b (List.mem_append_left _ hb)) (.inl rfl)
  ·exact key b id (hmem b (List.mem_append_right _ (List.mem_append_left _ hb))) (.inl rfl)
  ·exact key b id (hmem b (List.mem_append_right _ (List.mem_append_right _ hb))) (.inl rfl)
  ·rw [List.mem_singleton.1 hb]; exact key bo o' howo (.inr rfl)
 case hrf =>
  intro n hn cs hcs jj hjj
  simp only [List.mem_cons, List.not_mem_nil, or_false] at hn
  rcases hn with rfl | rfl | rfl | rfl
  ·cases hcs
  ·cases hcs
  ·cases hcs
  ·cases hcs
   simp only [refsL, refs, List.append_nil, List.cons_append, List.nil_append, List.mem_cons, List.not_mem_nil, or_false] at hjj
   rcases hjj with rfl | rfl
   ·exact .inr ⟨by omega, by omega⟩
   ·exact .inr ⟨by omega, by omega⟩
 case hrt =>
  intro M' hw0 hZ hw' hkeep hN n hn own' hown'
  have hA1 : ∀ b ∈ A1, W.heap[b]? = M.w.heap[b]? := fun b hb => hsame b (hbk b (by simp [hb]))
  have hA2 : ∀ b ∈ A2, W.heap[b]? = M.w.heap[b]? := fun b hb => hsame b (hbk b (by simp [hb]))
  have n1 := hN ⟨base + 32, .arr false u1 x0.1 0, unh s1, A1⟩ (by simp)
  have n2 := hN ⟨base + 33, .arr false u2 x0.2.1 0, unh s2, A2⟩ (by simp)
  have n0 := hN ⟨id, .hol e (P2 u1 u2) ((x0 :: tl).set 0 ((x0 :: tl).getD (k + 1) (U.dflt (P2 u1 u2)))) (g + 1) (k + 1) 0 (P2 u1 u2), M.r id, ad.block :: ((B1 ++ B2) ++ (H1 ++ H3))⟩ (by simp)
  have n3 := hN ⟨o', .obj [.hs (base + 32) [] none 0, .hs (base + 33) [] none 0], M.r o', [bo]⟩ (by simp)
  simp only at n0 n1 n2 n3
  have sl : ∀ {u : U} {xx : List u.El} {s : Value} {A : List Nat}, (∀ b ∈ A, W.heap[b]? = M.w.heap[b]?) → SlRep M.w true false u.sz (Rep M.w true u) xx s A → SlRep W true false u.sz (Rep W true u) xx s A := by
   intro u xx s A hA hs
   have : Rep W true (.sl false u) xx [s] A := Rep.frame hA (u := .sl false u) ⟨s, rfl, .inl hs⟩
   obtain ⟨v, hv, h⟩ := this
   cases hv
   exact h.resolve_right (fun h => bare_no h)
  have n12 := List.nodup_append.1 (List.nodup_append.1 hndp).2.1
  simp only [List.mem_cons, List.not_mem_nil, or_false] at hn
  rcases hn with rfl | rfl | rfl | rfl
  ·refine ⟨ad.block :: ((B1 ++ B2) ++ (H1 ++ H3)), ?_, (List.nodup_append.1 hndp).1, hown'⟩
   rw [hw', n0.1]
   refine ⟨hp, hp, by simpa using hk, ad, cap, (([t1', t2'] ++ d1) ++ [t1', t2'] ++ (d3 ++ q)).toArray, ty, fz, (B1 ++ B2) ++ (H1 ++ H3), [t1', t2'] ++ d1, [t1', t2'], d3 ++ q, by simpa using hhd, hsp, hoff, by simpa using hlc, hWb, by rw [hcsz']; exact hfz, by rw [hcsz']; exact hcsz, hcm, rfl, by simp, by rw [show (P2 u1 u2).sz = 2 from rfl]; simp; omega, rfl, ?_⟩
   intro W' yv d H x' hW' hyr hset
   rw [setAt_self, Option.some.injEq] at hset
   subst hset
   have hWM : ∀ b ∈ (B1 ++ B2) ++ (H1 ++ H3), W'.heap[b]? = M.w.heap[b]? := fun b hb => (hW' b hb).trans (hsame b (hbk b (by simp only [List.mem_append, List.append_nil] at hb ⊢; rcases hb with (hb | hb) | hb | hb <;> simp [hb])))
   refine ⟨[t1', t2'] ++ (d1 ++ d ++ d3), q, (B1 ++ B2) ++ (H1 ++ H ++ H3), by simp, ?_, ?_, ?_⟩
   ·have ht' : RepL (Rep W' true (P2 u1 u2)) (tl.take k) d1 H1 := RepL.imp (fun _ _ _ hGm => Rep.frame (fun b hb => hWM b (by simp [hGm b hb]))) htk
    have hd' : RepL (Rep W' true (P2 u1 u2)) (tl.drop (k + 1)) d3 H3 := RepL.imp (fun _ _ _ hGm => Rep.frame (fun b hb => hWM b (by simp [hGm b hb]))) hdr'
    have hj' : Rep W' true (P2 u1 u2) (tl.getD k (U.dflt (P2 u1 u2))) ([t1'] ++ ([t2'] ++ [])) (B1 ++ (B2 ++ [])) := Rep.frame (fun b hb => hWM b (by simp only [List.mem_append, List.append_nil] at hb ⊢; rcases hb with hb | hb <;> simp [hb])) hxj
    have := RepL.append ht' (m := yv :: tl.drop (k + 1)) (ds := d ++ d3) (G := H ++ H3) ⟨_, _, _, _, rfl, rfl, hyr, hd'⟩
    refine ⟨[t1'] ++ ([t2'] ++ []), d1 ++ d ++ d3, B1 ++ (B2 ++ []), H1 ++ H ++ H3, by simp, by simp, hj', ?_⟩
    show RepL _ (tl.set k yv) _ _
    rw [List.set_eq_take_append_cons_drop, if_pos hk]
    simpa using this
   ·intro b hb
    simp only [List.mem_append] at hb ⊢
    rcases hb with (hb | hb) | (hb | hb) | hb <;> simp [hb]
   ·intro hnn
    have : List.Perm (((B1 ++ B2) ++ (H1 ++ H3)) ++ H) ((B1 ++ B2) ++ (H1 ++ H ++ H3)) := by
     have e1 : ((B1 ++ B2) ++ (H1 ++ H3)) ++ H = ((B1 ++ B2) ++ H1) ++ (H3 ++ H) := by simp
     have e2 : (B1 ++ B2) ++ (H1 ++ H ++ H3) = ((B1 ++ B2) ++ H1) ++ (H ++ H3) := by simp
     rw [e1, e2]
     exact List.Perm.append_left _ List.perm_append_comm
    exact this.nodup_iff.1 hnn
  ·exact ⟨hp1, A1, by rw [hw', n1.1, sl_hdr hs1]; exact sl hA1 hs1, n12.1, hown'⟩
  ·exact ⟨hp2, A2, by rw [hw', n2.1, sl_hdr hs2]; exact sl hA2 hs2, n12.2.1, hown'⟩
  ·refine ⟨bo, oc, ot, by rw [n3.1]; exact hrb, by rw [hw', hsame bo hboad]; exact hbo, ?_, hown' bo (by simp)⟩
   rw [hoc]
   simp only [AVRepL]
   refine ⟨_, _, rfl, ?_, _, _, rfl, ?_, rfl⟩
   ·simp only [AVRep]
    intro e' u' l' g' b' hR
    rw [n1.2] at hR
    cases hR
    exact ⟨.inl trivial, fun _ _ => ⟨false, u1, x0.1, _, rfl, by rw [n1.1, sl_hdr hs1]; rfl, rfl⟩⟩
   ·simp only [AVRep]
    intro e' u' l' g' b' hR
    rw [n2.2] at hR
    cases hR
    exact ⟨.inl trivial, fun _ _ => ⟨false, u2, x0.2.1, _, rfl, by rw [n2.1, sl_hdr hs2]; rfl, rfl⟩⟩
theorem swapA_ok {t : TypeId} {u : U} {x z : Operand} {c v : AV} {b : Bool} {r : Option (Bool × Hp)} (ht : TyOK X.P t u) (hf : swapA base h u c v = some (b, r))
  (hy : cond b (K .und []) (match (generalizing := false) r with | some (s, q) => cond s (K .und q) none | none => none) = some y) : Good X base (.store t x z) [c, v] h K y := by
 unfold swapA at hf
 split at hf
 case h_2 => cases hf
 case h_1 _ _ _ id gg i u1 u2 i1 j1 g1 i2 j2 g2 hun =>
  split at hf
  case h_2 => cases hf
  case h_1 e w l g hl =>
   obtain ⟨hc, hf1⟩ := sw_some hf
   clear hf
   simp only [Bool.and_eq_true, Nat.beq_eq, decide_eq_true_eq] at hc
   obtain ⟨⟨⟨⟨⟨⟨rfl, rfl⟩, rfl⟩, rfl⟩, hp1⟩, hp2⟩, rfl⟩ := hc
   simp only [Option.some.injEq, Prod.mk.injEq] at hf1
   obtain ⟨rfl, hr⟩ := hf1
   cases hb : (Nat.beq j1 i && Nat.beq j2 i) with
   | true =>
    rw [hb] at hy
    simp only [Bool.and_eq_true, Nat.beq_eq] at hb
    obtain ⟨rfl, rfl⟩ := hb
    exact swapNo_ok ht hl hun hy
   | false =>
    rw [hb] at hy
    simp only [cond_false] at hy
    subst hr
    split at hy
    case h_2 => cases hy
    case h_1 s q hm =>
     split at hm
     case h_2 => cases hm
     case h_1 l' o' hcl ho' =>
      obtain ⟨hl1, hl2⟩ := castL_some hcl
      cases hl1
      subst hl2
      split at hm
      case h_2 => cases hm
      case h_1 k1 f1 k2 f2 hob =>
       obtain ⟨hc, hm1⟩ := sw_some hm
       simp only [Bool.and_eq_true, Nat.beq_eq] at hc
       obtain ⟨⟨⟨rfl, rfl⟩, rfl⟩, rfl⟩ := hc
       simp only [Option.some.injEq, Prod.mk.injEq] at hm1
       obtain ⟨rfl, rfl⟩ := hm1
       obtain ⟨hs, hy2⟩ := cond_none hy
       simp only [Bool.and_eq_true, Nat.beq_eq, Nat.blt_eq] at hs
       obtain ⟨⟨rfl, hj⟩, rfl⟩ := hs
       exact swapGo_ok ht hl hp1 hp2 hun hj hob hy2
end
end Go.VM

namespace Go.VM
variable [Bor]
open Go.RowKit
def MapT (P : Program) (t : TypeId) : Prop := ∃ k e i, P.underlying t = some (.map k e) ∧ P.underlying k = some .string ∧ P.info? e = some i ∧ i.zero = some (.string ByteArray.empty)
def mapTB (P : Program) (t : TypeId) : Bool := match P.underlying t with
 | some (.map k e) => (match P.underlying k with | some .string => true | _ => false) && (match P.info? e with | some i => (match i.zero with | some (.string s) => emptyB s | _ => false) | none => false)
 | _ => false
theorem mapTB_ok {P : Program} {t : TypeId} (h : mapTB P t = true) : MapT P t := by
 unfold mapTB at h
 split at h
 case h_2 => cases h
 case h_1 k e hu =>
  simp only [Bool.and_eq_true] at h
  obtain ⟨h1, h2⟩ := h
  split at h1
  case h_2 => cases h1
  case h_1 hk =>
   split at h2
   case h_2 => cases h2
   case h_1 i hi =>
    split at h2
    case h_2 => cases h2
    case h_1 s hz =>
     refine ⟨k, e, i, hu, hk, hi, ?_⟩
     rw [hz]
     obtain ⟨⟨a⟩⟩ := s
     have : a = [] := by simpa [emptyB] using h2
     subst this; rfl
def esOf (es : List MapEntry) (l : List (ByteArray × ByteArray)) : Prop := es.map (fun e => (e.key, e.val)) = l.map (fun p => (Value.string p.1, Value.string p.2))
theorem find_fresh {a : ByteArray} : ∀ {es : List MapEntry} {l : List (ByteArray × ByteArray)} {i : Nat}, esOf es l → freshM l a = true → Instr.findNow .string (.string a) es i = some none
 | [], [], _, _, _ => rfl
 | e :: es, [], _, h, _ => by simp [esOf] at h
 | [], p :: l, _, h, _ => by simp [esOf] at h
 | e :: es, p :: l, i, h, hf => by
  simp only [esOf, List.map_cons, List.cons.injEq, Prod.mk.injEq] at h
  simp only [freshM, List.all_cons, Bool.and_eq_true, Bool.not_eq_true'] at hf
  have hne : (a == p.1) = false := by
   cases hq : (a == p.1) with
   | false => rfl
   | true =>
    have : a = p.1 := (bytes_beq _ _).1 hq
    subst this
    simp at hf
  simp only [Instr.findNow, h.1.1, Instr.sameNow, hne]
  exact find_fresh (l := l) h.2 hf.2
theorem find_get {a : ByteArray} : ∀ {es : List MapEntry} {l : List (ByteArray × ByteArray)} {i : Nat}, esOf es l → (Instr.findNow .string (.string a) es i = some none ∧ mget l a = ByteArray.empty) ∨ ∃ j, Instr.findNow .string (.string a) es i = some (some (j, .string (mget l a)))
 | [], [], _, _ => .inl ⟨rfl, rfl⟩
 | e :: es, [], _, h => by simp [esOf] at h
 | [], p :: l, _, h => by simp [esOf] at h
 | e :: es, p :: l, i, h => by
  simp only [esOf, List.map_cons, List.cons.injEq, Prod.mk.injEq] at h
  cases hq : (a == p.1) with
  | false =>
   have hs : seq a p.1 = false := by
    have : ¬ a = p.1 := fun e => by rw [(bytes_beq _ _).2 e] at hq; cases hq
    simpa [seq] using this
   simp only [Instr.findNow, h.1.1, Instr.sameNow, hq, mget, sw_false hs]
   exact find_get (l := l) h.2
  | true =>
   have hs : seq a p.1 = true := by
    have : a = p.1 := (bytes_beq _ _).1 hq
    simpa [seq] using this
   right
   refine ⟨i, ?_⟩
   simp only [Instr.findNow, h.1.1, Instr.sameNow, hq, mget, sw_true hs, h.1.2]
theorem run_check {P : Program} {k : TypeId} (hk : P.underlying k = some .string) (a : ByteArray) (b : Bool) (W : World) : (Instr.checkKey b 10000 k (.string a)).run P W = .ok () W := by
 have : ∀ n, (Instr.checkKey b (n + 1) k (.string a)).run P W = .ok () W := by
  intro n
  simp only [Instr.checkKey, Sem.run_bind, run_underlying hk, Result.andThen_ok]
  rfl
 exact this 9999
section
variable {X : Cx} {ρ : Type} {base : Nat} {h : Hp} {K : AV → Hp → Option ρ} {y : ρ}
theorem makeMap_ok {t : TypeId} (hy : K (.mp base) [(base, .mpt t [])] = some y) : Good X base (.makeMap t none) [] h K y := by
 refine ⟨_, _, hy, ?_⟩
 intro o M tt used own a next Q ho hd hvs hh hi hb hn
 have hrun : (execOp a.eval o).run X.P M.w = .ok (.value (.map (some M.w.heap.size))) (M.w.alloc (.map #[] 0)) := by
  simp only [execOp, ho, Instr.makeMap, Option.map_none]
  rfl
 refine wp_value hrun ?_
 have hI := hi.new (base := base) (ks := []) (w' := M.w.alloc (.map #[] 0)) (r1 := (some ⟨M.w.heap.size, 0, none⟩, 0)) (R := .mpt t []) ⟨rfl, rfl, rfl, by rw [alloc_sz]; omega, fun b hb _ => alloc_old _ _ hb⟩ hb (by simp) ?_ (fun cs' h j hj => by cases h)
 ·refine hn _ _ _ ?_ ?_ ?_ (hI.put hd ?_ ?_)
  ·rfl
  ·rfl
  ·rfl
  ·simp only [AVRep]
   intro _
   exact ⟨M.w.heap.size, by simp, rfl⟩
  ·intro j hj
   simp only [refs, List.mem_singleton] at hj
   subst hj; exact .inr ⟨Nat.le_refl _, by omega⟩
 ·intro M' h0 hZ hw hr' hk
  refine ⟨M.w.heap.size, #[], 0, by rw [hr']; simp, ?_, rfl, ?_⟩
  ·rw [hw]; exact alloc_new _ _
  ·simp [own1, alloc_sz]
theorem lookup_ok {t T : TypeId} {x i : Operand} {id : Nat} {l : List (ByteArray × ByteArray)} {k : ByteArray} (ht : MapT X.P t) (hl : lkH h id = .mpt T l) (hy : K (.im .str (mget l k)) [] = some y) : Good X base (.lookup t x i false) [.mp id, .im .str k] h K y := by
 refine ⟨_, [], hy, OpOK.pure (by simp [refs]) ?_⟩
 intro o M tt used own ac ho hvs hh hi
 obtain ⟨h1, h2⟩ := map2 hvs
 have hx := (hi.ev x).1
 have hz := (hi.ev i).1
 rw [h1] at hx; rw [h2] at hz
 have hM : M.h id = .mpt T l := by rw [hh id (by rw [hl]; simp), hl]
 simp only [AVRep] at hx
 obtain ⟨b, hb, hv⟩ := hx (by rw [hM]; simp)
 have hz := im_str hz
 have hrt := hi.rt id
 rw [hM] at hrt
 obtain ⟨b', es, c, hb', hw, hes, _⟩ := hrt
 rw [hb] at hb'
 obtain rfl : b = b' := by simpa using hb'
 obtain ⟨kt, et, ti, ht1, ht2, ht3, ht4⟩ := ht
 refine ⟨_, mk_str, ?_⟩
 have hget : (getObj b).run X.P M.w = .ok (.map es c) M.w := by simp [getObj, Sem.run, hw]
 have hz0 : (zeroValue et).run X.P M.w = .ok (.string ByteArray.empty) M.w := by
  simp only [zeroValue, Sem.run_bind, run_info ht3, Result.andThen_ok, ht4]; rfl
 simp only [execOp, ho, Instr.lookup, hv, hz, Sem.run_bind, run_underlying ht1, Result.andThen_ok, hget, Sem.run_pure, run_check ht2, Instr.findKey, run_underlying ht2]
 rcases find_get (a := k) (es := es.toList) (i := 0) hes with ⟨h3, h4⟩ | ⟨j, h3⟩
 ·rw [h3, h4]
  simp only [Sem.run_bind, Sem.run_pure, Result.andThen_ok, hz0]
  rfl
 ·rw [h3]
  simp only [Sem.run_bind, Sem.run_pure, Result.andThen_ok]
  rfl
theorem insert_ok {t T : TypeId} {x i z : Operand} {id : Nat} {l : List (ByteArray × ByteArray)} {k v : ByteArray} (ht : MapT X.P t) (hl : lkH h id = .mpt T l) (hf : freshM l k = true) (hy : K .und [(id, .mpt T (l ++ [(k, v)]))] = some y) : Good X base (.insert t x i z) [.mp id, .im .str k, .im .str v] h K y := by
 refine ⟨_, _, hy, ?_⟩
 intro o M tt used own a next Q ho hd hvs hh hi hb hn
 have hvs3 : evA X.E tt x = .mp id ∧ evA X.E tt i = .im .str k ∧ evA X.E tt z = .im .str v := by
  simp only [Op.operands] at hvs
  simpa using hvs
 obtain ⟨h1, h2, h3⟩ := hvs3
 have hx := (hi.ev x).1
 have hk := (hi.ev i).1
 have hz := (hi.ev z).1
 rw [h1] at hx; rw [h2] at hk; rw [h3] at hz
 have hM : M.h id = .mpt T l := by rw [hh id (by rw [hl]; simp), hl]
 simp only [AVRep] at hx
 obtain ⟨b, hb0, hv⟩ := hx (by rw [hM]; simp)
 have hk := im_str hk
 have hz := im_str hz
 have hrt := hi.rt id
 rw [hM] at hrt
 obtain ⟨b', es, c, hb', hw, hes, hob⟩ := hrt
 rw [hb0] at hb'
 obtain rfl : b = b' := by simpa using hb'
 obtain ⟨kt, et, ti, ht1, ht2, ht3, ht4⟩ := ht
 have hget : (getObj b).run X.P M.w = .ok (.map es c) M.w := by simp [getObj, Sem.run, hw]
 have hset : ∀ o', (setObj b o').run X.P M.w = .ok () (putB M.w b o') := by intro o'; simp [setObj, Sem.run, hw, putB]
 have hexec : (execOp a.eval o).run X.P M.w = .ok .skip (putB M.w b (.map (es.push { key := .string k, val := .string v, born := c }) (c + 1))) := by
  simp only [execOp, ho, Instr.mapUpdate, hv, hk, hz, Sem.run_bind, run_underlying ht1, Result.andThen_ok, hget, run_check ht2, Instr.findKey, run_underlying ht2, find_fresh (es := es.toList) (i := 0) hes hf, Sem.run_pure, hset]
 refine wp_skipped hexec ?_
 have hbl : b < M.w.heap.size := lt_of_heap hw
 have hI := hi.step (tgt := id) (R := .mpt T (l ++ [(k, v)])) (ks := []) (w' := putB M.w b (.map (es.push { key := .string k, val := .string v, born := c }) (c + 1))) (r' := M.r) (own' := own) (used' := fun j => used j ∨ base ≤ j ∧ j < base + 64)
  (fun j hj => .inl hj) (.inl (hi.ud id (by rw [hM]; simp))) (fun _ _ => rfl) (fun _ => rfl) ?_ ?_ ?_ ?_ ?_ ?_ (by rw [putB_sz]; exact Nat.le_refl _) rfl rfl rfl
 ·refine hn _ _ _ ?_ ?_ ?_ (hI.put hd (by simp only [AVRep]) (by simp [refs]))
  ·rfl
  ·rfl
  ·rfl
 ·intro _
  exact .inr ⟨rfl, .inl ⟨by rw [hM]; simp, by intro e u l g b hx; have hx : RowIs (lkU _ _ id) _ _ _ _ _ := hx; rw [lkU_cons, if_pos rfl] at hx; cases hx⟩⟩
 ·intro _
  exact ⟨b, _, _, hb0, putB_same hbl, by rw [Array.toList_push, List.map_append, List.map_append, hes]; rfl, hob⟩
 ·intro cs' hcs'
  cases hcs'
 ·intro b' id' hob' hne _
  refine ⟨hob', putB_other ?_⟩
  intro e
  subst e
  rw [hob] at hob'
  cases hob'
  exact hne rfl
 ·intro b' id' hob'
  rw [putB_sz]
  exact hi.ow b' id' hob'
 ·intro b' hZ
  refine putB_other ?_
  intro e
  subst e
  exact (hi.ow b' id hob).2 hZ
end
end Go.VM

namespace Go.VM
variable [Bor]
def BlK (P : Program) (T t g k : Nat) : Prop := (k = 9 → MapT P T) ∧ (k ≠ 9 → BldOK P T t g k)
theorem bldA_9 {h : Hp} {ρ : Type} {T t : Nat} {vs : List AV} {K : AV → Hp → Option ρ} : bldA h 9 T t vs K = none := by
 unfold bldA
 split
 ·split <;> first | rfl | (rename_i h9 _; cases h9)
 ·split <;> first | rfl | (rename_i h9 _; cases h9)
 ·rfl
structure EnOK (X : Cx) : Prop where
 ty : ∀ t u, lkN X.E.ty t = some u → TyOK X.P t u
 cal : CalOK X.P X.E.gl X.E
 mx : X.P.follows .mixedOrders = true
 bl : ∀ g k T t, lkN X.E.md g = some [.bl k T t] → BlK X.P T t g k
theorem EnOK.map {X : Cx} (hE : EnOK X) {t : Nat} (h : isMapT X.E.md t = true) : MapT X.P t := by
 unfold isMapT at h
 split at h
 ·rename_i T tt hl
  obtain rfl : T = t := by simpa using h
  exact (hE.bl _ _ _ _ hl).1 rfl
 ·cases h
section
variable {X : Cx} {ρ : Type} {base : Nat} {h : Hp} {PK : Nat → Hp → Option ρ} {K : AV → Hp → Option ρ} {y : ρ}
theorem binOp_ok (hE : EnOK X) {op : BinOp} {t w : TypeId} {x z : Operand} {p q : AV} (hy : binA h (lkN X.E.ty t) op p q (fun v => K v []) = some y) : Good X base (.binOp op t x z w) [p, q] h K y := by
 unfold binA at hy
 split at hy
 ·split at hy
  ·exact shift_ok (.inl ⟨rfl, hy⟩)
  ·exact shift_ok (.inr ⟨rfl, hy⟩)
  ·rename_i h1 h2
   obtain ⟨hk, hy⟩ := sw_some hy
   obtain rfl : _ = _ := by simpa using hk
   exact binI_ok ⟨h1, h2⟩ hy
 ·exact binS_ok hy
 ·have hu : lkN X.E.ty t = some .bool := by
   split at hy
   ·assumption
   ·assumption
   ·cases hy
  obtain ⟨d, hd, hsh⟩ := (hE.ty t _ hu).d
  have hd' : d = .bool := hsh
  subst hd'
  refine binB_ok hd ?_
  rw [hu] at hy
  split at hy
  ·exact hy
  ·exact hy
  ·cases hy
 ·split at hy
  ·split at hy
   ·exact structEq_ok (hE.ty t _ (by assumption)) (by assumption) (.inl ⟨rfl, hy⟩)
   ·cases hy
  ·split at hy
   ·exact structEq_ok (hE.ty t _ (by assumption)) (by assumption) (.inr ⟨rfl, hy⟩)
   ·cases hy
  ·cases hy
 ·split at hy
  ·exact ptrEq_ok (hE.ty t _ (by assumption)) ptrIs_im (.inl ⟨rfl, rfl⟩) hy
  ·exact ptrEq_ok (hE.ty t _ (by assumption)) ptrIs_im (.inr ⟨rfl, rfl⟩) hy
  ·cases hy
 ·split at hy
  ·exact ptrEq_ok (hE.ty t _ (by assumption)) (ptrIs_tp (by assumption)) (.inl ⟨rfl, rfl⟩) hy
  ·exact ptrEq_ok (hE.ty t _ (by assumption)) (ptrIs_tp (by assumption)) (.inr ⟨rfl, rfl⟩) hy
  ·cases hy
 ·split at hy
  ·exact nilEq_ok (hE.ty t _ (by assumption)) (by assumption) (.inl ⟨rfl, rfl⟩) hy
  ·exact nilEq_ok (hE.ty t _ (by assumption)) (by assumption) (.inr ⟨rfl, rfl⟩) hy
  ·split at hy
   ·exact nilEq2_ok (hE.ty t _ (by assumption)) (by assumption) (.inl ⟨rfl, rfl⟩) hy
   ·cases hy
  ·split at hy
   ·exact nilEq2_ok (hE.ty t _ (by assumption)) (by assumption) (.inr ⟨rfl, rfl⟩) hy
   ·cases hy
  ·cases hy
 ·cases hy
theorem store_ok (hE : EnOK X) {t : TypeId} {u : U} {x z : Operand} {a v : AV} {q : Hp} (ht : TyOK X.P t u) (hs : storeA h u a v = some q) (hy : K .und q = some y) : Good X base (.store t x z) [a, v] h K y := by
 unfold storeA at hs
 split at hs
 ·split at hs
  ·rename_i hl
   obtain ⟨hc, hs⟩ := sw_some hs
   simp only [Bool.and_eq_true, Nat.beq_eq, Nat.ble_eq] at hc
   simp only [Option.some.injEq] at hs
   subst hs
   exact storeObj_ok ht hl hc.1.1.1 hc.1.1.2 hc.1.2 hc.2 hy
  ·cases hs
 ·split at hs
  ·rename_i hl
   obtain ⟨hok, hs⟩ := sw_some hs
   split at hs
   ·rename_i hat
    split at hs
    ·rename_i has
     obtain ⟨hc, has⟩ := sw_some has
     simp only [Bool.and_eq_true] at hc
     split at hs
     ·rename_i hset
      split at hs
      ·rename_i hmod
       obtain ⟨hks, hs⟩ := sw_some' hs
       simp only [Option.some.injEq] at hs
       subst hs
       exact storeArr_ok ht hl hok hat hc.1 hc.2 has hset hmod hks hy
      ·cases hs
     ·cases hs
    ·cases hs
   ·cases hs
  ·cases hs
 ·cases hs
theorem opA_sound (hE : EnOK X) {op : Op} {vs : List AV} (hlen : vs.length = op.operands.toList.length) (hy : opA X.E base op vs h PK K = some y) : GoodP X base op vs h PK K y := by
 unfold opA at hy
 simp only at hy
 split at hy
 ·exact .inl (move_ok (.inl rfl) hy)
 ·exact .inl (move_ok (.inr rfl) hy)
 ·split at hy
  ·exact .inl (pick_ok hy)
  ·cases hy
 ·-- alloc
  obtain ⟨u, hu, hy⟩ := cd_some hy
  have ht := hE.ty _ _ hu
  obtain rfl : vs = [] := by
   cases vs with
   | nil => rfl
   | cons _ _ => simp [Op.operands] at hlen
  split at hy
  ·cases hy
  ·rename_i h1
   rcases sw_or hy with ⟨hb, hy⟩ | ⟨hb, hy⟩
   ·exact .inl (alloc_bld_ok ht hb hy)
   ·exact .inl (alloc_ok ht h1 hy)
 ·-- box
  obtain ⟨u, hu, hy⟩ := cd_some hy
  split at hy
  ·cases hy
  ·obtain ⟨hc, hy⟩ := sw_some hy
   simp only [Bool.and_eq_true] at hc
   exact .inl (box_ok hc.1 hy)
 ·-- load
  obtain ⟨u, hu, hy⟩ := cd_some hy
  obtain ⟨c, hc, hy⟩ := one_some hy
  exact .inl (load_ok (hE.ty _ _ hu) hc hy)
 ·-- store
  obtain ⟨u, hu, hy⟩ := cd_some hy
  split at hy
  ·rename_i hq
   exact .inl (store_ok hE (hE.ty _ _ hu) hq hy)
  ·split at hy
   ·rename_i c q hf
    obtain ⟨hc, hy⟩ := cond_none hy
    subst hc
    exact .inl (fillA_ok (hE.ty _ _ hu) hf hy)
   ·split at hy
    ·rename_i c r hf
     exact .inl (swapA_ok (hE.ty _ _ hu) hf hy)
    ·cases hy
 ·exact .inl (binOp_ok hE hy)
 ·split at hy
  ·exact .inl (not_ok hy)
  ·cases hy
 ·split at hy
  ·exact .inl (neg_ok hy)
  ·cases hy
 ·-- convert
  obtain ⟨u, hu, hy⟩ := cd_some hy
  obtain ⟨w, hw, hy⟩ := cd_some hy
  have h1 := hE.ty _ _ hu
  have h2 := hE.ty _ _ hw
  split at hy
  ·exact .inl (convI_ok h1 h2 hy)
  ·exact .inl (convS_ok h1 h2 hy)
  ·exact .inl (strBytes_ok h1 h2 hy)
  ·split at hy
   ·exact .inl (bytesStr_ok h1 h2 (by assumption) hy)
   ·cases hy
  ·cases hy
 ·-- fieldAddr
  obtain ⟨u, hu, hy⟩ := cd_some hy
  obtain ⟨hp, hy⟩ := sw_some hy
  split at hy
  ·rename_i hf
   obtain ⟨hz, hy⟩ := sw_some' hy
   obtain ⟨c, hc, hy⟩ := one_some hy
   exact .inl (fieldAddr_ok (hE.ty _ _ hu) hp hf (by intro e; rw [e] at hz; cases hz) hc hy)
  ·cases hy
 ·-- field
  obtain ⟨u, hu, hy⟩ := cd_some hy
  obtain ⟨hp, hy⟩ := sw_some hy
  split at hy
  ·rename_i hf
   obtain ⟨c, hc, hy⟩ := one_some hy
   exact .inl (field_ok (hE.ty _ _ hu) hp hf hc hy)
  ·cases hy
 ·-- indexAddr
  obtain ⟨u, hu, hy⟩ := cd_some hy
  split at hy
  ·exact .inl (indexAddr_ok (hE.ty _ _ hu) hy)
  ·cases hy
 ·-- index
  obtain ⟨u, hu, hy⟩ := cd_some hy
  split at hy
  ·exact .inl (indexS_ok (hE.ty _ _ hu) hy)
  ·obtain ⟨hc, hy⟩ := sw_some hy
   exact .inl (indexArr_ok (hE.ty _ _ hu) hc hy)
  ·cases hy
 ·split at hy
  ·exact .inl (extract_ok hy)
  ·cases hy
 ·-- nilCheck
  split at hy
  ·exact .inl (nilCheck_ok (.inr (.inl ⟨_, _, _, _, rfl⟩)) hy)
  ·exact .inl (nilCheck_ok (.inr (.inr ⟨_, _, rfl⟩)) hy)
  ·obtain ⟨ht, hy⟩ := cond_none hy
   exact .inl (nilIm_ok ht hy)
  ·split at hy
   ·obtain ⟨ht, hy⟩ := cond_none hy
    exact .inl (nilTp_ok (by assumption) ht hy)
   ·cases hy
  ·split at hy
   ·cases hy
   ·rename_i hd
    exact .inl (nilCheck_ok (.inl ⟨_, _, rfl, hd⟩) hy)
  ·split at hy
   ·rename_i hl
    obtain ⟨hok, hy⟩ := sw_some hy
    exact .inl (nilPe_ok (.inl ⟨_, _, _, _, hl, hok⟩) hy)
   ·rename_i hl
    obtain ⟨hok, hy⟩ := sw_some hy
    exact .inl (nilPe_ok (.inr ⟨List.isEmpty_iff.1 hok, _, _, _, _, _, _, _, hl⟩) hy)
   ·cases hy
  ·cases hy
 ·-- build
  obtain ⟨u, hu, hy⟩ := cd_some hy
  obtain ⟨c, hc, hy⟩ := one_some hy
  have ht := hE.ty _ _ hu
  have hvl : vs.length = _ := hlen
  simp only [Op.operands, Array.toList_map, List.length_map, Array.length_toList] at hvl
  unfold buildA at hc
  split at hc
  ·obtain ⟨hfd, hc⟩ := sw_some hc
   simp only [Bool.and_eq_true] at hfd
   split at hc
   ·rename_i hb
    simp only [Option.some.injEq] at hc
    subst hc
    exact .inl (buildArr_ok ht hfd.2 hfd.1 hvl hb hy)
   ·cases hc
  ·split at hc
   ·rename_i hb
    simp only [Option.some.injEq] at hc
    subst hc
    exact .inl (buildStruct_ok ht (.inl ⟨_, _, rfl⟩) hvl hb hy)
   ·cases hc
  ·split at hc
   ·rename_i hb
    simp only [Option.some.injEq] at hc
    subst hc
    exact .inl (buildStruct_ok ht (.inr (.inl rfl)) hvl hb hy)
   ·cases hc
  ·split at hc
   ·rename_i hb
    simp only [Option.some.injEq] at hc
    subst hc
    exact .inl (buildStruct_ok ht (.inr (.inr ⟨_, rfl⟩)) hvl hb hy)
   ·cases hc
  ·cases hc
 ·-- buildSlice
  obtain ⟨u, hu, hy⟩ := cd_some hy
  split at hy
  ·obtain ⟨hc, hy⟩ := sw_some hy
   simp only [Bool.and_eq_true, Nat.beq_eq] at hc
   split at hy
   ·rename_i hb
    obtain ⟨hn, hy⟩ := sw_some hy
    simp only [Bool.and_eq_true] at hn
    exact .inl (buildSlice_ok (hE.ty _ _ hu) hc.1.1 hc.1.2 hc.2 hb hn.1 (ble_true hn.2) hy)
   ·cases hy
  ·cases hy
 ·-- makeSlice
  obtain ⟨u, hu, hy⟩ := cd_some hy
  split at hy
  ·obtain ⟨hd, hy⟩ := sw_some hy
   exact .inl (makeSlice_ok (hE.ty _ _ hu) hd hy)
  ·cases hy
 ·-- makeMap
  obtain ⟨_, hy⟩ := sw_some hy
  exact .inl (makeMap_ok hy)
 ·-- insert
  split at hy
  ·rename_i hl
   obtain ⟨hc, hy⟩ := sw_some hy
   simp only [Bool.and_eq_true] at hc
   exact .inl (insert_ok (hE.map hc.1.1) hl hc.2 hy)
  ·cases hy
 ·-- lookup
  split at hy
  ·rename_i hl
   obtain ⟨hc, hy⟩ := sw_some hy
   simp only [Bool.and_eq_true] at hc
   exact .inl (lookup_ok (hE.map hc.1) hl hy)
  ·cases hy
 ·-- makeFunc
  obtain ⟨hf, hy⟩ := sw_some hy
  obtain rfl := Array.isEmpty_iff.1 hf
  exact .inl (makeFunc_ok hy)
 ·-- slice
  obtain ⟨u, hu, hy⟩ := cd_some hy
  have ht := hE.ty _ _ hu
  split at hy
  ·refine .inl <| slice_ok ht ?_ hy
   intro E tt hops
   simp [Op.operands] at hops
   exact ⟨hops, fun M f hf => ⟨rfl, rfl⟩⟩
  ·refine .inl <| slice_ok ht ?_ hy
   intro E tt hops
   simp [Op.operands] at hops
   exact ⟨hops.1, fun M f hf => ⟨⟨_, congrArg some (im_int (by rw [← hops.2]; exact hf _))⟩, rfl⟩⟩
  ·refine .inl <| slice_ok ht ?_ hy
   intro E tt hops
   simp [Op.operands] at hops
   exact ⟨hops.1, fun M f hf => ⟨rfl, ⟨_, congrArg some (im_int (by rw [← hops.2]; exact hf _))⟩⟩⟩
  ·refine .inl <| slice_ok ht ?_ hy
   intro E tt hops
   simp [Op.operands] at hops
   exact ⟨hops.1, fun M f hf => ⟨⟨_, congrArg some (im_int (by rw [← hops.2.1]; exact hf _))⟩, ⟨_, congrArg some (im_int (by rw [← hops.2.2]; exact hf _))⟩⟩⟩
  ·cases hy
 ·-- builtins
  split at hy
  ·split at hy
   ·rename_i hts
    obtain ⟨u, hu, hy⟩ := cd_some hy
    split at hy
    ·obtain rfl := Array.toList_inj.1 (show _ = (#[_] : Array TypeId).toList from hts)
     exact .inl (len_ok (hE.ty _ _ hu) (by assumption) hy)
    ·cases hy
   ·cases hy
  ·split at hy
   ·rename_i hts
    obtain ⟨hb, hy1⟩ := sw_some hy
    clear hy
    obtain ⟨u, hu, hy⟩ := cd_some hy1
    clear hy1
    simp only [Nat.beq_eq] at hb
    subst hb
    split at hy
    ·obtain rfl := Array.toList_inj.1 (show _ = (#[_, _] : Array TypeId).toList from hts)
     exact .inl (copyGap_ok (hE.ty _ _ hu) hy)
    ·cases hy
   ·cases hy
  ·split at hy
   ·rename_i hts
    obtain ⟨hb, hy1⟩ := sw_some hy
    clear hy
    obtain ⟨u, hu, hy⟩ := cd_some hy1
    clear hy1
    simp only [Nat.beq_eq] at hb
    subst hb
    split at hy
    ·obtain rfl := Array.toList_inj.1 (show _ = (#[_, _] : Array TypeId).toList from hts)
     exact .inl (append_ok (hE.ty _ _ hu) hy)
    ·cases hy
   ·cases hy
  ·obtain ⟨hk, hy⟩ := sw_some hy
   obtain rfl : _ = _ := by simpa using hk
   exact .inl (minmax_ok (.inl ⟨rfl, rfl⟩) hy)
  ·obtain ⟨hk, hy⟩ := sw_some hy
   obtain rfl : _ = _ := by simpa using hk
   exact .inl (minmax_ok (.inr ⟨rfl, rfl⟩) hy)
  ·cases hy
 ·-- calls
  split at hy
  ·obtain ⟨hl, hy⟩ := sw_some hy
   simp only [Nat.beq_eq] at hl
   split at hy
   ·rename_i hm
    obtain ⟨hc, hy⟩ := sw_some hy
    rename_i cs _ _
    obtain rfl : _ = [] := List.isEmpty_iff.1 hc
    refine .inl (bldA_ok hl ((hE.bl _ _ _ _ hm).2 fun e9 => ?_) hy)
    rw [e9, bldA_9] at hy
    cases hy
   ·exact call_ok hE.cal hl hy
  ·cases hy
 ·cases hy
end
end Go.VM

namespace Go.VM
variable [Bor]
def lw {α : Type} (S : Nat → Bool) : List (Nat → Option α) → (Nat → α) → Nat → α
 | [], f => f
 | w :: r, f => lw (fun i => S (i + 1)) r fun k => if S 0 = true then (w k).getD (f k) else f k
theorem lw_none {α : Type} {S : Nat → Bool} : ∀ {ws : List (Nat → Option α)} {f : Nat → α}, (∀ i, S i = false) → lw S ws f = f
 | [], f, _ => rfl
 | w :: r, f, h => by
  simp only [lw, h 0]
  rw [lw_none (fun i => h (i + 1))]
  simp
theorem lw_agree {α : Type} {k : Nat} : ∀ {ws : List (Nat → Option α)} {S S' : Nat → Bool} {f f' : Nat → α}, f k = f' k → (∀ i w, ws[i]? = some w → w k ≠ none → S i = S' i) → lw S ws f k = lw S' ws f' k
 | [], _, _, _, _, h, _ => h
 | w :: r, S, S', f, f', h, hs => by
  simp only [lw]
  refine lw_agree ?_ fun i w' hw' hk => hs (i + 1) w' (by simpa using hw') hk
  cases hwk : w k with
  | none => simp [h]
  | some v =>
   have := hs 0 w (by simp) (by rw [hwk]; simp)
   simp [this, h]
theorem lw_put {α : Type} {k : Nat} {v : α} : ∀ {ws : List (Nat → Option α)} {S : Nat → Bool} {f : Nat → α} {j : Nat} {w : Nat → Option α}, ws[j]? = some w → S j = true → w k = some v → (∀ i w', j < i → ws[i]? = some w' → w' k ≠ none → S i = false) → lw S ws f k = v
 | [], _, _, j, w, hj, _, _, _ => by simp at hj
 | w0 :: r, S, f, 0, w, hj, hS, hk, ho => by
  simp only [List.getElem?_cons_zero, Option.some.injEq] at hj
  subst hj
  simp only [lw]
  rw [lw_agree (S' := fun _ => false) (f' := fun _ => v) (by simp [hS, hk]) (fun i w' hw' hk' => ho (i + 1) w' (by omega) (by simpa using hw') hk'), lw_none (fun _ => rfl)]
 | w0 :: r, S, f, j + 1, w, hj, hS, hk, ho => by
  simp only [lw]
  exact lw_put (j := j) (by simpa using hj) hS hk fun i w' hi hw' hk' => ho (i + 1) w' (by omega) (by simpa using hw') hk'
structure Stp where
 o : Oper
 w : Bool
 vs : List AV
 ids : List Nat
 v : AV
 q : Hp
def lkO : Hp → Nat → Option Root
 | [], _ => none
 | (i, v) :: e, j => sw (Nat.beq i j) (some v) (lkO e j)
theorem lkU_lkO {q : Hp} {h : Nat → Root} {k : Nat} : lkU q h k = (lkO q k).getD (h k) := by
 induction q with
 | nil => rfl
 | cons x q ih =>
  obtain ⟨i, r⟩ := x
  simp only [lkU, lkO]
  cases Nat.beq i k
  ·exact ih
  ·rfl
theorem lkO_mem {q : Hp} {k : Nat} (h : lkO q k ≠ none) : k ∈ q.map (·.1) := by
 induction q with
 | nil => exact absurd rfl h
 | cons x q ih =>
  obtain ⟨i, r⟩ := x
  simp only [lkO] at h
  simp only [List.map_cons, List.mem_cons]
  cases hb : Nat.beq i k with
  | true => left; simpa using (Nat.eq_of_beq_eq_true hb).symm
  | false => rw [hb] at h; exact .inr (ih h)
def tW (s : Stp) (d : Nat) : Option AV := if s.o.dst = some d then some s.v else none
def hW (s : Stp) : Nat → Option Root := lkO s.q
def GuardOK (all : Array Oper) (t : List (Nat × AV)) (g : Option (Nat × Bool)) (w : Bool) : Prop := match g with
 | none => w = true
 | some (j, want) => ∃ og d, all[j]? = some og ∧ og.dst = some d ∧ ((∃ b, lkT t d = .im .bool b ∧ w = (b == want)) ∨ (lkT t d = .und ∧ w = false))
structure StpOK (X : Cx) (base : Nat) (all : Array Oper) (j : Nat) (t : List (Nat × AV)) (h : Nat → Root) (s : Stp) : Prop where
 g : GuardOK all t s.o.guard s.w
 e : s.w = true → s.o.op.operands.toList.map (evA X.E t) = s.vs ∧ ∃ hr, OpOK X (base + 64 * j) s.o.op s.vs hr s.v s.q ∧ ∀ id, lkH hr id ≠ .dead → id ∈ s.ids ∧ lkH hr id = h id
 n : s.w = false → s.v = .und ∧ s.q = []
def footOf (all : Array Oper) (s : Stp) : List Nat × List Nat × List Nat × List Nat := (s.ids, s.q.map (·.1), seesT all s.o, s.o.dst.toList)
def TraceOK (X : Cx) (base : Nat) (all : Array Oper) : List Oper → Nat → List (Nat × AV) → Hp → List Stp → List (Nat × AV) → Hp → Prop
 | [], _, t, h, T, t', h' => T = [] ∧ t' = t ∧ h' = h
 | o :: r, i, t, h, T, t', h' => ∃ s T' t2, T = s :: T' ∧ s.o = o ∧ StpOK X base all i t (lkH h) s ∧ (∀ d, lkT t2 d = lkT t d) ∧ TraceOK X base all r (i + 1) (putT t2 o.dst s.v) (s.q ++ h) T' t' h'
theorem TraceOK.len {X : Cx} {base : Nat} {all : Array Oper} : ∀ {r : List Oper} {i t h T t' h'}, TraceOK X base all r i t h T t' h' → T.map (·.o) = r
 | [], _, _, _, _, _, _, h => by rw [h.1]; rfl
 | o :: r, _, _, _, _, _, _, h => by
  obtain ⟨s, T', t2, rfl, rfl, _, _, h⟩ := h
  simp [h.len]
theorem lkT_putT {t : List (Nat × AV)} {dst : Option Nat} {v : AV} {d : Nat} : lkT (putT t dst v) d = if dst = some d then v else lkT t d := by
 cases dst with
 | none => simp [putT]
 | some e => rw [lkT_put]; by_cases h : d = e <;> simp [h, eq_comm]
theorem lt_shift (j : Nat) : (fun i => decide (i + 1 < j + 1)) = fun i => decide (i < j) := by
 funext i
 by_cases h : i < j <;> simp [h]
theorem TraceOK.at {X : Cx} {base : Nat} {all : Array Oper} : ∀ {r : List Oper} {i t h T t' h'}, TraceOK X base all r i t h T t' h' → ∀ {j : Nat} {s : Stp}, T[j]? = some s →
  ∃ tj, StpOK X base all (i + j) tj (lw (fun i => decide (i < j)) (T.map hW) (lkH h)) s ∧ ∀ d, lkT tj d = lw (fun i => decide (i < j)) (T.map tW) (lkT t) d
 | [], _, _, _, _, _, _, h, j, s, hj => by rw [h.1] at hj; simp at hj
 | o :: r, i, t, h, _, t', h', hT, 0, s, hj => by
  obtain ⟨s', T', t2, rfl, rfl, h1, h2, h3⟩ := hT
  simp only [List.getElem?_cons_zero, Option.some.injEq] at hj
  subst hj
  refine ⟨t, ?_, fun d => ?_⟩
  ·rw [lw_none (by simp)]; exact h1
  ·rw [lw_none (by simp)]
 | o :: r, i, t, h, _, t', h', hT, j + 1, s, hj => by
  obtain ⟨s', T', t2, rfl, rfl, h1, h2, h3⟩ := hT
  obtain ⟨tj, h4, h5⟩ := TraceOK.at h3 (j := j) (s := s) (by simpa using hj)
  refine ⟨tj, ?_, fun d => ?_⟩
  ·simp only [List.map_cons, lw, lt_shift]
   have : (fun k => if decide (0 < j + 1) = true then (hW s' k).getD (lkH h k) else lkH h k) = lkH (s'.q ++ h) := by
    funext k
    simp only [Nat.zero_lt_succ, decide_true, if_true, hW]
    rw [lkH_append, lkU_lkO]
   rw [this, show i + (j + 1) = i + 1 + j by omega]
   exact h4
  ·rw [h5]
   simp only [List.map_cons, lw, lt_shift]
   congr 1
   funext k
   simp only [Nat.zero_lt_succ, decide_true, if_true, tW]
   rw [lkT_putT]
   split
   ·rfl
   ·simp [h2]
theorem TraceOK.end {X : Cx} {base : Nat} {all : Array Oper} : ∀ {r : List Oper} {i t h T t' h'}, TraceOK X base all r i t h T t' h' →
  (∀ d, lkT t' d = lw (fun _ => true) (T.map tW) (lkT t) d) ∧ lkH h' = lw (fun _ => true) (T.map hW) (lkH h)
 | [], _, _, _, _, _, _, h => by
  obtain ⟨rfl, rfl, rfl⟩ := h
  exact ⟨fun d => rfl, rfl⟩
 | o :: r, i, t, h, _, t', h', hT => by
  obtain ⟨s', T', t2, rfl, rfl, h1, h2, h3⟩ := hT
  obtain ⟨h4, h5⟩ := TraceOK.end h3
  refine ⟨fun d => ?_, ?_⟩
  ·rw [h4]
   simp only [List.map_cons, lw]
   congr 1
   funext k
   simp only [if_true, tW]
   rw [lkT_putT]
   split
   ·rfl
   ·simp [h2]
  ·rw [h5]
   simp only [List.map_cons, lw]
   congr 1
   funext k
   simp only [if_true, hW]
   rw [lkH_append, lkU_lkO]
section
variable {X : Cx} {ρ : Type} {y : ρ}
theorem guardA_some {all : Array Oper} {g : Option (Nat × Bool)} {t : List (Nat × AV)} {K : Bool → List (Nat × AV) → Option ρ} (h : guardA all g t K = some y) :
  ∃ w t2, GuardOK all t g w ∧ (∀ d, lkT t2 d = lkT t d) ∧ K w t2 = some y := by
 unfold guardA at h
 split at h
 ·exact ⟨true, t, rfl, fun _ => rfl, h⟩
 ·rename_i j want
  split at h
  ·rename_i o ho
   split at h
   ·rename_i d hd
    split at h
    ·rename_i b hb
     have key : ∀ c, b = c → ∀ d', lkT ((d, .im .bool c) :: t) d' = lkT t d' := by
      rintro c rfl d'
      simp only [lkT]
      by_cases e : d = d'
      ·subst e; rw [sw_true (by simp)]; exact hb.symm
      ·rw [sw_false (beq_false e)]
     rcases cond_some h with ⟨h1, h2⟩ | ⟨h1, h2⟩
     ·exact ⟨want, _, ⟨o, d, ho, hd, .inl ⟨b, hb, by rw [h1]; cases want <;> rfl⟩⟩, key _ h1, h2⟩
     ·exact ⟨!want, _, ⟨o, d, ho, hd, .inl ⟨b, hb, by rw [h1]; cases want <;> rfl⟩⟩, key _ h1, h2⟩
    ·rename_i hb
     exact ⟨false, t, ⟨o, d, ho, hd, .inr ⟨hb, rfl⟩⟩, fun _ => rfl, h⟩
    ·cases h
   ·cases h
  ·cases h
theorem lkH_restrict {h : Hp} {l : List Nat} {id : Nat} (hd : lkH (restrict h l) id ≠ .dead) : id ∈ l ∧ lkH (restrict h l) id = lkH h id := by
 induction l with
 | nil => exact absurd rfl hd
 | cons i l ih =>
  simp only [restrict, List.map_cons, lkH] at hd ⊢
  by_cases e : i = id
  ·subst e; rw [sw_true (by simp)]; exact ⟨by simp, rfl⟩
  ·rw [sw_false (beq_false e)] at hd ⊢
   obtain ⟨h1, h2⟩ := ih hd
   exact ⟨by simp [h1], h2⟩
structure StpPan (X : Cx) (base : Nat) (all : Array Oper) (j : Nat) (t : List (Nat × AV)) (h : Nat → Root) (o : Oper) (ids : List Nat) (pt : Nat) (q : Hp) : Prop where
 g : GuardOK all t o.guard true
 e : ∃ hr, OpPan X (base + 64 * j) o.op (o.op.operands.toList.map (evA X.E t)) hr pt q ∧ ∀ id, lkH hr id ≠ .dead → id ∈ ids ∧ lkH hr id = h id
theorem opsA_trace (hE : EnOK X) {base : Nat} {all : Array Oper} {draw : Bool} {PK : Nat → Hp → Option ρ} {K : List (Nat × AV) → Hp → Option ρ} : ∀ {r : List Oper} {i : Nat} {t : List (Nat × AV)} {h : Hp} {tr : Foot}, opsA X.E base all draw PK r i t h tr K = some y →
  (∃ T t' h', TraceOK X base all r i t h T t' h' ∧ (draw = true → calm all (tr.reverse ++ T.map (footOf all)) = true) ∧ K t' h' = some y) ∨
  ∃ r1 o r2 T t' h' ids pt q, r = r1 ++ o :: r2 ∧ TraceOK X base all r1 i t h T t' h' ∧ StpPan X base all (i + r1.length) t' (lkH h') o ids pt q ∧
   panOK all draw (i + r1.length) (tr.reverse ++ T.map (footOf all) ++ [(ids, q.map (·.1), seesT all o, o.dst.toList)]) = true ∧ PK pt (q ++ h') = some y
 | [], i, t, h, tr, hy => by
  simp only [opsA] at hy
  obtain ⟨hc, hy⟩ := sw_some hy
  refine .inl ⟨[], t, h, ⟨rfl, rfl, rfl⟩, fun hd => ?_, hy⟩
  subst hd
  simpa using hc
 | o :: r, i, t, h, tr, hy => by
  simp only [opsA] at hy
  obtain ⟨w, t2, hg, ht2, hy⟩ := guardA_some hy
  cases w with
  | true =>
   rw [sw_true rfl] at hy
   have hg2 : GuardOK all t2 o.guard true := by
    unfold GuardOK at hg ⊢
    split
    ·rfl
    ·rename_i hgo
     rw [hgo] at hg
     obtain ⟨og, d, h1, h2, h3⟩ := hg
     exact ⟨og, d, h1, h2, by rw [ht2]; exact h3⟩
   have hops : o.op.operands.toList.map (evA X.E t) = o.op.operands.toList.map (evA X.E t2) := by
    refine List.map_congr_left fun x _ => ?_
    cases x <;> simp only [evA]
    exact (ht2 _).symm
   rcases opA_sound hE (by simp) hy with ⟨v, q, hK, hop⟩ | ⟨pt, q, hP, hop⟩
   ·have hst : StpOK X base all i t (lkH h) ⟨o, true, o.op.operands.toList.map (evA X.E t2), lookA h o.op (o.op.operands.toList.map (evA X.E t2)), v, q⟩ := ⟨by simpa using hg, fun _ => ⟨hops, _, hop, fun id hd => lkH_restrict hd⟩, by simp⟩
    rcases opsA_trace hE hK with ⟨T, t', h', hT, hc, hy⟩ | ⟨r1, o', r2, T, t', h', ids, pt, q', rfl, hT, hs, hp, hy⟩
    ·refine .inl ⟨_ :: T, t', h', ⟨_, T, t2, rfl, rfl, hst, ht2, hT⟩, ?_, hy⟩
     intro hd
     have := hc hd
     simpa [footOf] using this
    ·refine .inr ⟨o :: r1, o', r2, _ :: T, t', h', ids, pt, q', rfl, ⟨_, T, t2, rfl, rfl, hst, ht2, hT⟩, ?_, ?_, hy⟩
     ·rw [show i + (o :: r1).length = i + 1 + r1.length by simp; omega]; exact hs
     ·rw [show i + (o :: r1).length = i + 1 + r1.length by simp; omega]
      simpa [footOf] using hp
   ·obtain ⟨hp, hP⟩ := sw_some hP
    refine .inr ⟨[], o, r, [], t, h, _, pt, q, rfl, ⟨rfl, rfl, rfl⟩, ⟨by simpa using hg, _, by rw [hops]; exact hop, fun id hd => lkH_restrict hd⟩, ?_, hP⟩
    simpa using hp
  | false =>
   rw [sw_false rfl] at hy
   have hst : StpOK X base all i t (lkH h) ⟨o, false, [], [], .und, []⟩ := ⟨by simpa using hg, by simp, by simp⟩
   rcases opsA_trace hE hy with ⟨T, t', h', hT, hc, hy⟩ | ⟨r1, o', r2, T, t', h', ids, pt, q', rfl, hT, hs, hp, hy⟩
   ·refine .inl ⟨_ :: T, t', h', ⟨_, T, t2, rfl, rfl, hst, ht2, hT⟩, ?_, hy⟩
    intro hd
    have := hc hd
    simpa [footOf] using this
   ·refine .inr ⟨o :: r1, o', r2, _ :: T, t', h', ids, pt, q', rfl, ⟨_, T, t2, rfl, rfl, hst, ht2, hT⟩, ?_, ?_, hy⟩
    ·rw [show i + (o :: r1).length = i + 1 + r1.length by simp; omega]; exact hs
    ·rw [show i + (o :: r1).length = i + 1 + r1.length by simp; omega]
     simpa [footOf] using hp
end
end Go.VM

namespace Go.VM
variable [Bor]
theorem Inv.ext {X : Cx} {M : Mem} {t t' used own a} (h : Inv X M t used own a) (he : ∀ d, lkT t' d = lkT t d) : Inv X M t' used own a :=
 { h with tm := fun i => by rw [he]; exact h.tm i, ut := fun i => by rw [he]; exact h.ut i }
theorem evA_ext {E : En} {t t' : List (Nat × AV)} {all : Array Oper} {o : Oper} (h : ∀ d ∈ seesT all o, lkT t' d = lkT t d) : o.op.operands.toList.map (evA E t') = o.op.operands.toList.map (evA E t) := by
 refine List.map_congr_left fun x hx => ?_
 cases x with
 | tmp d =>
  simp only [evA]
  exact h d (List.mem_append_left _ (List.mem_filterMap.2 ⟨.tmp d, hx, rfl⟩))
 | const v => rfl
 | global g => rfl
 | func f => rfl
theorem wanted_eq {X : Cx} {M : Mem} {t tj : List (Nat × AV)} {used own a} (hi : Inv X M t used own a) {all : Array Oper} {o : Oper} {w : Bool} (h : ∀ d ∈ seesT all o, lkT t d = lkT tj d) (hg : GuardOK all tj o.guard w) :
  Region.wanted o (yielded all a.tmps) = w := by
 unfold GuardOK at hg
 unfold Region.wanted
 split at hg
 ·rename_i hgo
  rw [hgo]
  exact hg.symm
 ·rename_i j want hgo
  rw [hgo]
  obtain ⟨og, d, ho, hd, hv⟩ := hg
  have hd' : lkT t d = lkT tj d := h d (List.mem_append_right _ (by simp [hgo, ho, hd]))
  have hm := hi.tm d
  rw [hd'] at hm
  have hyl : yielded all a.tmps j = match a.tmps[d]? with | some (.bool b) => some b | _ => none := by
   unfold yielded
   rw [ho]
   simp only [Option.bind_some, hd]
   rfl
  simp only [hyl]
  rcases hv with ⟨b, hb, rfl⟩ | ⟨hb, rfl⟩
  ·rw [hb] at hm
   have hm := im_bool hm
   cases ht : a.tmps[d]? with
   | none => simp [Array.getD_eq_getD_getElem?, ht, undef] at hm
   | some v =>
    simp [Array.getD_eq_getD_getElem?, ht] at hm
    subst hm
    cases b <;> cases want <;> rfl
  ·rw [hb] at hm
   simp only [AVRep] at hm
   cases ht : a.tmps[d]? with
   | none => rfl
   | some v =>
    simp [Array.getD_eq_getD_getElem?, ht] at hm
    subst hm
    simp [undef]
def usedIn (c : Nat) (S : Nat → Bool) (u0 : Nat → Prop) (k : Nat) : Prop := u0 k ∨ ∃ i, S i = true ∧ c + 64 * i ≤ k ∧ k < c + 64 * (i + 1)
def addS (S : Nat → Bool) (j : Nat) : Nat → Bool := fun i => S i || Nat.beq i j
theorem addS_self {S : Nat → Bool} {j : Nat} : addS S j j = true := by simp [addS]
theorem addS_ne {S : Nat → Bool} {j i : Nat} (h : i ≠ j) : addS S j i = S i := by simp [addS, beq_false h]
structure At (X : Cx) (T : List Stp) (w0 : World) (Z : Nat → Prop) (c : Nat) (t0 : List (Nat × AV)) (h0 : Nat → Root) (S : Nat → Bool) (a : Act) (w : World) : Prop where
 p : ∃ (M : Mem) (t : List (Nat × AV)) (own : Nat → Option Nat), M.w0 = w0 ∧ M.Z = Z ∧ M.w = w ∧ Inv X M t (usedIn c S (· < c)) own a ∧ (∀ d, lkT t d = lw S (T.map tW) (lkT t0) d) ∧ M.h = lw S (T.map hW) h0
theorem step_ok {X : Cx} {all : Array Oper} {T : List Stp} {w0 : World} {Z : Nat → Prop} {c : Nat} {t0 : List (Nat × AV)} {h0 : Nat → Root} {S : Nat → Bool} {a : Act} {w : World} {j : Nat} {s : Stp} {tj : List (Nat × AV)} {K : Act → World → Prop} {Q : Exit → Act → World → Prop}
  (hat : At X T w0 Z c t0 h0 S a w) (hT : T[j]? = some s) (ho : all[j]? = some s.o) (hd : ∀ d, s.o.dst = some d → d < X.nt) (hs : StpOK X c all j tj (lw (fun i => decide (i < j)) (T.map hW) h0) s) (htj : ∀ d, lkT tj d = lw (fun i => decide (i < j)) (T.map tW) (lkT t0) d)
  (hSj : S j = false)
  (h1 : ∀ d ∈ seesT all s.o, ∀ i s', T[i]? = some s' → s'.o.dst = some d → S i = decide (i < j))
  (h2 : ∀ k ∈ s.ids, ∀ i s', T[i]? = some s' → k ∈ s'.q.map (·.1) → S i = decide (i < j))
  (h3 : ∀ d, s.o.dst = some d → ∀ i s', j < i → T[i]? = some s' → s'.o.dst = some d → S i = false)
  (h4 : ∀ k ∈ s.q.map (·.1), ∀ i s', j < i → T[i]? = some s' → k ∈ s'.q.map (·.1) → S i = false)
  (hK : ∀ a' w', At X T w0 Z c t0 h0 (addS S j) a' w' → K a' w') : wpOp X.P all Q j K a w := by
 obtain ⟨M, t, own, rfl, rfl, rfl, hi, ht, hh⟩ := hat
 have e1 : ∀ d ∈ seesT all s.o, lkT t d = lkT tj d := by
  intro d hd
  rw [ht, htj]
  refine lw_agree rfl fun i wr hw hk => ?_
  rw [List.getElem?_map] at hw
  cases hTi : T[i]? with
  | none => rw [hTi] at hw; cases hw
  | some s' =>
   rw [hTi] at hw
   simp only [Option.map_some, Option.some.injEq] at hw
   subst hw
   refine h1 d hd i s' hTi ?_
   unfold tW at hk
   split at hk
   ·assumption
   ·exact absurd rfl hk
 have hw := wanted_eq hi e1 hs.g
 have ht' : ∀ d, lkT (putT t s.o.dst s.v) d = lw (addS S j) (T.map tW) (lkT t0) d := by
  intro d
  rw [lkT_putT]
  split
  ·rename_i hdst
   refine (lw_put (j := j) (w := tW s) (by simp [hT]) addS_self (by simp [tW, hdst]) fun i w' hji hw' hk => ?_).symm
   rw [List.getElem?_map] at hw'
   cases hTi : T[i]? with
   | none => rw [hTi] at hw'; cases hw'
   | some s' =>
    rw [hTi] at hw'
    simp only [Option.map_some, Option.some.injEq] at hw'
    subst hw'
    rw [addS_ne (by omega)]
    refine h3 d hdst i s' hji hTi ?_
    unfold tW at hk
    split at hk
    ·assumption
    ·exact absurd rfl hk
  ·rename_i hdst
   rw [ht]
   refine lw_agree rfl fun i w' hw' hk => ?_
   by_cases hij : i = j
   ·subst hij
    rw [List.getElem?_map, hT] at hw'
    simp only [Option.map_some, Option.some.injEq] at hw'
    subst hw'
    exact absurd (by simp [tW, hdst]) hk
   ·rw [addS_ne hij]
 have hh' : lkU s.q M.h = lw (addS S j) (T.map hW) h0 := by
  funext k
  rw [lkU_lkO]
  cases hk : lkO s.q k with
  | some r =>
   refine (lw_put (j := j) (w := hW s) (by simp [hT]) addS_self (by simp [hW, hk]) fun i w' hji hw' hk' => ?_).symm
   rw [List.getElem?_map] at hw'
   cases hTi : T[i]? with
   | none => rw [hTi] at hw'; cases hw'
   | some s' =>
    rw [hTi] at hw'
    simp only [Option.map_some, Option.some.injEq] at hw'
    subst hw'
    rw [addS_ne (by omega)]
    exact h4 k (lkO_mem (by rw [hk]; simp)) i s' hji hTi (lkO_mem hk')
  | none =>
   simp only [Option.getD_none]
   rw [hh]
   refine lw_agree rfl fun i w' hw' hk' => ?_
   by_cases hij : i = j
   ·subst hij
    rw [List.getElem?_map, hT] at hw'
    simp only [Option.map_some, Option.some.injEq] at hw'
    subst hw'
    exact absurd hk hk'
   ·rw [addS_ne hij]
 unfold wpOp
 rw [ho]
 simp only [hw]
 cases hsw : s.w with
 | false =>
  rw [if_neg (by simp)]
  obtain ⟨hv, hq⟩ := hs.n hsw
  refine hK _ _ ⟨M, putT t s.o.dst s.v, own, rfl, rfl, rfl, ?_, ht', ?_⟩
  ·refine (hi.grow fun k hk => ?_).put hd ?_ ?_
   ·rcases hk with hk | ⟨i, hi', hk⟩
    ·exact .inl hk
    ·exact .inr ⟨i, by simp [addS, hi'], hk⟩
   ·rw [hv]; simp only [AVRep]
   ·rw [hv]; simp [refs]
  ·rw [← hh', hq]; rfl
 | true =>
  rw [if_pos rfl]
  left
  obtain ⟨hvs, hr, hop, hhr⟩ := hs.e hsw
  refine hop s.o M t _ own a K Q rfl hd (by rw [evA_ext e1]; exact hvs) ?_ hi ?_ ?_
  ·intro id hid
   obtain ⟨h5, h6⟩ := hhr id hid
   rw [h6, hh]
   refine lw_agree rfl fun i w' hw' hk' => ?_
   rw [List.getElem?_map] at hw'
   cases hTi : T[i]? with
   | none => rw [hTi] at hw'; cases hw'
   | some s' =>
    rw [hTi] at hw'
    simp only [Option.map_some, Option.some.injEq] at hw'
    subst hw'
    exact h2 id h5 i s' hTi (lkO_mem hk')
  ·rintro k hk (h | ⟨i, hi', h7, h8⟩)
   ·omega
   ·have : i = j := by omega
    subst this
    rw [hSj] at hi'; cases hi'
  ·intro M' own' a' h5 h6 h7 h8
   refine hK _ _ ⟨M', putT t s.o.dst s.v, own', h5, h6, rfl, h8.grow fun k hk => ?_, ht', ?_⟩
   ·rcases hk with (hk | ⟨i, hi', hk⟩) | hk
    ·exact .inl hk
    ·exact .inr ⟨i, by simp [addS, hi'], hk⟩
    ·exact .inr ⟨j, addS_self, by omega⟩
   ·rw [h7, hh']
end Go.VM

namespace Go.VM
variable [Bor]
theorem befE_bit {acc : List Nat} {i : Nat} : ∀ {es : List Edge} {s : Nat}, (befE acc es s).testBit i = true → s.testBit i = true ∨ ∃ e ∈ es, Region.binds .any e = true ∧ (i = e.on ∨ (acc.getD e.on 0).testBit i = true)
 | [], s, h => .inl h
 | e :: r, s, h => by
  simp only [befE] at h
  rcases befE_bit h with h | ⟨e', he, h⟩
  ·cases hb : Region.binds .any e with
   | false => rw [hb] at h; exact .inl h
   | true =>
    rw [hb] at h
    simp only [Nat.testBit_or, Bool.or_eq_true] at h
    rcases h with (h | h) | h
    ·exact .inl h
    ·rw [Nat.testBit_two_pow] at h
     exact .inr ⟨e, by simp, hb, .inl (of_decide_eq_true h).symm⟩
    ·exact .inr ⟨e, by simp, hb, .inr h⟩
  ·exact .inr ⟨e', by simp [he], h⟩
theorem befL_keep : ∀ {r : List Oper} {acc : List Nat} {k : Nat}, k < acc.length → (befL r acc).getD k 0 = acc.getD k 0
 | [], acc, k, _ => rfl
 | o :: r, acc, k, h => by
  simp only [befL]
  rw [befL_keep (by simp; omega)]
  simp [List.getD_eq_getElem?_getD, List.getElem?_append_left h]
theorem befL_bit : ∀ {r : List Oper} {acc : List Nat} {k i : Nat}, acc.length ≤ k → ((befL r acc).getD k 0).testBit i = true →
  ∃ o e, r[k - acc.length]? = some o ∧ e ∈ o.after.toList ∧ Region.binds .any e = true ∧ (i = e.on ∨ ((befL r acc).getD e.on 0).testBit i = true)
 | [], acc, k, i, hk, h => by
  simp [befL, List.getD_eq_getElem?_getD, List.getElem?_eq_none hk] at h
 | o :: r, acc, k, i, hk, h => by
  have hup : ∀ m, (acc.getD m 0).testBit i = true → ((befL (o :: r) acc).getD m 0).testBit i = true := by
   intro m hm
   rcases Nat.lt_or_ge m acc.length with hl | hl
   ·rw [befL_keep hl]; exact hm
   ·simp [List.getD_eq_getElem?_getD, List.getElem?_eq_none hl] at hm
  rcases Nat.eq_or_lt_of_le hk with hk | hk
  ·subst hk
   simp only [befL] at h
   rw [befL_keep (by simp)] at h
   rw [List.getD_eq_getElem?_getD, List.getElem?_append_right (by simp)] at h
   simp only [Nat.sub_self, List.getElem?_cons_zero, Option.getD_some] at h
   rcases befE_bit h with h | ⟨e, he, hb, h⟩
   ·simp at h
   ·exact ⟨o, e, by simp, he, hb, h.imp_right (hup _)⟩
  ·simp only [befL] at h
   obtain ⟨o', e, h1, h2, h3, h4⟩ := befL_bit (by simp; omega) h
   refine ⟨o', e, ?_, h2, h3, h4⟩
   simp only [List.length_append, List.length_cons, List.length_nil] at h1
   rw [show k - acc.length = (k - (acc.length + (0 + 1))) + 1 by omega, List.getElem?_cons_succ]
   exact h1
theorem calmAt_spec {bj : Nat} {x} : ∀ {seen : Foot} {i0 : Nat}, calmAt bj x seen i0 = true → ∀ {i y}, seen[i]? = some y → bj.testBit (i0 + i) = true ∨ clash x y = false
 | [], _, _, i, y, h => by simp at h
 | z :: r, i0, h, 0, y, hy => by
  simp only [calmAt, Bool.and_eq_true, Bool.or_eq_true, Bool.not_eq_true'] at h
  simp only [List.getElem?_cons_zero, Option.some.injEq] at hy
  subst hy
  exact h.1
 | z :: r, i0, h, i + 1, y, hy => by
  simp only [calmAt, Bool.and_eq_true] at h
  have := calmAt_spec h.2 (i := i) (y := y) (by simpa using hy)
  rwa [show i0 + (i + 1) = i0 + 1 + i by omega]
theorem calmL_spec : ∀ {bs : List Nat} {xs seen : Foot}, calmL bs xs seen = true → ∀ {j x i y}, xs[j]? = some x → (seen ++ xs.take j)[i]? = some y → (bs.getD j 0).testBit i = true ∨ clash x y = false
 | [], [], _, _, j, x, i, y, hx, _ => by simp at hx
 | [], _ :: _, _, h, _, _, _, _, _, _ => by simp [calmL] at h
 | _ :: _, [], _, h, _, _, _, _, _, _ => by simp [calmL] at h
 | b :: bs, z :: xs, seen, h, 0, x, i, y, hx, hy => by
  simp only [calmL, Bool.and_eq_true] at h
  simp only [List.getElem?_cons_zero, Option.some.injEq] at hx
  subst hx
  have := calmAt_spec h.1 (i := i) (y := y) (by simpa using hy)
  simpa using this
 | b :: bs, z :: xs, seen, h, j + 1, x, i, y, hx, hy => by
  simp only [calmL, Bool.and_eq_true] at h
  have := calmL_spec h.2 (j := j) (x := x) (i := i) (y := y) (by simpa using hx) (by simpa using hy)
  simpa using this
theorem edgesB_spec : ∀ {r : List Oper} {i0 : Nat}, edgesB r i0 = true → ∀ {i o}, r[i]? = some o → ∀ e ∈ o.after.toList, Region.binds .any e = true → e.on < i0 + i
 | [], _, _, i, o, h, _, _, _ => by simp at h
 | z :: r, i0, h, 0, o, ho, e, he, hb => by
  simp only [edgesB, Bool.and_eq_true, List.all_eq_true] at h
  simp only [List.getElem?_cons_zero, Option.some.injEq] at ho
  subst ho
  have := h.1 e he
  rw [hb] at this
  simpa [Nat.blt_eq] using this
 | z :: r, i0, h, i + 1, o, ho, e, he, hb => by
  simp only [edgesB, Bool.and_eq_true] at h
  have := edgesB_spec h.2 (i := i) (o := o) (by simpa using ho) e he hb
  omega
section
variable {X : Cx} {all : Array Oper} {T : List Stp} {w0 : World} {Z : Nat → Prop} {c : Nat} {t0 : List (Nat × AV)} {h0 : Hp} {t' : List (Nat × AV)} {h' : Hp} {Q : Exit → Act → World → Prop}
theorem tr_op (hT : TraceOK X c all all.toList 0 t0 h0 T t' h') {j : Nat} {s : Stp} (hj : T[j]? = some s) : all[j]? = some s.o := by
 have h1 := hT.len
 have h2 : (T.map (·.o))[j]? = some s.o := by simp [hj]
 rw [h1] at h2
 simpa using h2
theorem tr_at (hT : TraceOK X c all all.toList 0 t0 h0 T t' h') {j : Nat} (hj : j < all.size) : ∃ s, T[j]? = some s := by
 have h1 := hT.len
 have h2 : T.length = all.size := by rw [← List.length_map (f := (·.o)), h1]; simp
 exact ⟨T[j]'(by omega), by simp⟩
theorem ops_text (hT : TraceOK X c all all.toList 0 t0 h0 T t' h') (hd : ∀ (j : Nat) (o : Oper), all[j]? = some o → ∀ d, o.dst = some d → d < X.nt) (hQ : ∀ a w, At X T w0 Z c t0 (lkH h0) (fun i => decide (i < all.size)) a w → Q .normal a w) :
  ∀ (m j : Nat) (a : Act) (w : World), j + m = all.size → At X T w0 Z c t0 (lkH h0) (fun i => decide (i < j)) a w → wpOps X.P all Q (List.range' j m) a w
 | 0, j, a, w, hj, hat => by
  simp only [List.range'_zero, wpOps]
  exact hQ a w (by rw [← hj]; exact hat)
 | m + 1, j, a, w, hj, hat => by
  rw [List.range'_succ, wpOps_cons]
  obtain ⟨s, hs⟩ := tr_at hT (j := j) (by omega)
  obtain ⟨tj, hsok, htj⟩ := hT.at hs
  rw [Nat.zero_add] at hsok
  refine step_ok hat hs (tr_op hT hs) (hd j s.o (tr_op hT hs)) hsok htj (by simp) (fun _ _ _ _ _ _ => rfl) (fun _ _ _ _ _ _ => rfl) (fun _ _ i _ hi _ _ => by simp; omega) (fun _ _ i _ hi _ _ => by simp; omega) fun a' w' hat' => ?_
  refine ops_text hT hd hQ m (j + 1) a' w' (by omega) ?_
  have : addS (fun i => decide (i < j)) j = fun i => decide (i < j + 1) := by
   funext i
   by_cases h1 : i = j
   ·subst h1; simp [addS]
   ·rw [addS_ne h1]
    by_cases h2 : i < j
    ·simp [h2]; omega
    ·simp [h2]; omega
  rw [← this]
  exact hat'
theorem clash_no {x y : List Nat × List Nat × List Nat × List Nat} (h : clash x y = false) : (∀ k ∈ x.2.1, k ∉ y.1 ∧ k ∉ y.2.1) ∧ (∀ k ∈ x.1, k ∉ y.2.1) ∧ (∀ k ∈ x.2.2.2, k ∉ y.2.2.1 ∧ k ∉ y.2.2.2) ∧ ∀ k ∈ x.2.2.1, k ∉ y.2.2.2 := by
 simp only [clash, Bool.or_eq_false_iff] at h
 obtain ⟨⟨⟨⟨⟨h1, h2⟩, h3⟩, h4⟩, h5⟩, h6⟩ := h
 exact ⟨fun k hk => ⟨meets_not h1 k hk, meets_not h2 k hk⟩, fun k hk => meets_not h3 k hk, fun k hk => ⟨meets_not h4 k hk, meets_not h5 k hk⟩, fun k hk => meets_not h6 k hk⟩
theorem ops_any (hT : TraceOK X c all all.toList 0 t0 h0 T t' h') (hc : calm all (T.map (footOf all)) = true) (hd : ∀ (j : Nat) (o : Oper), all[j]? = some o → ∀ d, o.dst = some d → d < X.nt)
  (hQ : ∀ a w, At X T w0 Z c t0 (lkH h0) (fun i => decide (i < all.size)) a w → Q .normal a w) :
  ∀ (fuel : Nat) (L : Array Bool) (a : Act) (w : World), L.size = all.size → ((List.range all.size).filter fun i => !L.getD i true).length ≤ fuel →
   (∀ j, L.getD j false = true → ∀ i, ((befL all.toList []).getD j 0).testBit i = true → L.getD i false = true) → At X T w0 Z c t0 (lkH h0) (fun i => L.getD i false) a w → wpAny X.P .any all Q fuel L a w := by
 simp only [calm, Bool.and_eq_true] at hc
 obtain ⟨hed, hcl⟩ := hc
 have hgd : ∀ (L : Array Bool) (i : Nat), L.size = all.size → i < all.size → L.getD i true = L.getD i false := by
  intro L i hL hi
  have : i < L.size := by omega
  simp [Array.getD_eq_getD_getElem?, this]
 have hout : ∀ (L : Array Bool) (i : Nat), L.getD i false = true → i < L.size := by
  intro L i h
  rcases Nat.lt_or_ge i L.size with h' | h'
  ·exact h'
  ·simp [Array.getD_eq_getD_getElem?, Array.getElem?_eq_none h'] at h
 have hempty : ∀ (L : Array Bool) (a : Act) (w : World), L.size = all.size → Region.ready .any all L = [] → At X T w0 Z c t0 (lkH h0) (fun i => L.getD i false) a w → Q .normal a w := by
  intro L a w hL hr hat
  have hall : ∀ n, ∀ i < n, i < all.size → L.getD i false = true := by
   intro n
   induction n with
   | zero => intro i hi; omega
   | succ n ih =>
    intro i hi hia
    cases hv : L.getD i false with
    | true => rfl
    | false =>
     exfalso
     obtain ⟨s, hs⟩ := tr_at hT hia
     have : i ∈ Region.ready .any all L := mem_ready.2 ⟨by rw [hgd L i hL hia]; exact hv, s.o, tr_op hT hs, fun e he hb => by
      have hlt := edgesB_spec hed (i := i) (o := s.o) (by simpa using tr_op hT hs) e (by simpa using he) hb
      exact ih e.on (by omega) (by omega)⟩
     rw [hr] at this
     cases this
  refine hQ a w ?_
  have : (fun i => L.getD i false) = fun i => decide (i < all.size) := by
   funext i
   rcases Nat.lt_or_ge i all.size with h | h
   ·rw [hall _ i (Nat.lt_succ_self i) h]; simp [h]
   ·cases hv : L.getD i false with
    | false => simp; omega
    | true => have := hout L i hv; omega
  rw [← this]
  exact hat
 intro fuel
 induction fuel with
 | zero =>
  intro L a w hL hlen hcs hat
  have hr : Region.ready .any all L = [] := by
   rw [List.eq_nil_iff_forall_not_mem]
   intro i hi
   obtain ⟨h1, o, ho, _⟩ := mem_ready.1 hi
   have hlt : i < all.size := (Array.getElem?_eq_some_iff.1 ho).1
   have : i ∈ (List.range all.size).filter fun i => !L.getD i true := List.mem_filter.2 ⟨List.mem_range.2 hlt, by rw [h1]; rfl⟩
   have h0 := List.eq_nil_of_length_eq_zero (Nat.le_zero.1 hlen)
   rw [h0] at this
   cases this
  exact ⟨hr, hempty L a w hL hr hat⟩
 | succ fuel ih =>
  intro L a w hL hlen hcs hat
  refine ⟨fun hr => hempty L a w hL hr hat, fun j hj => ?_⟩
  obtain ⟨h1, o, ho, hready⟩ := mem_ready.1 hj
  have hlt : j < all.size := (Array.getElem?_eq_some_iff.1 ho).1
  have hSj : L.getD j false = false := by rw [← hgd L j hL hlt]; exact h1
  obtain ⟨s, hs⟩ := tr_at hT hlt
  have hso := tr_op hT hs
  obtain rfl : s.o = o := by rw [ho] at hso; exact (Option.some.inj hso).symm
  obtain ⟨tj, hsok, htj⟩ := hT.at hs
  rw [Nat.zero_add] at hsok
  -- what comes before j has run
  have hbj : ∀ i, ((befL all.toList []).getD j 0).testBit i = true → L.getD i false = true := by
   intro i hi
   obtain ⟨o', e, h2, h3, h4, h5⟩ := befL_bit (Nat.zero_le _) hi
   have h2' : all.toList[j]? = some o' := by simpa using h2
   have : o' = s.o := by
    have h6 : all.toList[j]? = some s.o := by simpa using ho
    rw [h2'] at h6; exact Option.some.inj h6
   subst this
   have he := hready e (by simpa using h3) h4
   rcases h5 with rfl | h5
   ·exact he
   ·exact hcs _ he i h5
  -- earlier in the text
  have before : ∀ i s', T[i]? = some s' → i < j → clash (footOf all s) (footOf all s') = true → L.getD i false = true := by
   intro i s' hs' hij hcs'
   rcases calmL_spec hcl (j := j) (x := footOf all s) (i := i) (y := footOf all s') (by simp [hs]) (by simp [List.getElem?_take, hij, hs']) with h | h
   ·exact hbj i h
   ·rw [hcs'] at h; cases h
  have after : ∀ i s', T[i]? = some s' → j < i → clash (footOf all s') (footOf all s) = true → L.getD i false = false := by
   intro i s' hs' hij hcs'
   rcases calmL_spec hcl (j := i) (x := footOf all s') (i := j) (y := footOf all s) (by simp [hs']) (by simp [List.getElem?_take, hij, hs]) with h | h
   ·cases hv : L.getD i false with
    | false => rfl
    | true =>
     have := hcs i hv j h
     rw [hSj] at this; cases this
   ·rw [hcs'] at h; cases h
  have both : ∀ i s', T[i]? = some s' → (i < j → clash (footOf all s) (footOf all s') = true) → (j < i → clash (footOf all s') (footOf all s) = true) → L.getD i false = decide (i < j) := by
   intro i s' hs' h2 h3
   rcases Nat.lt_trichotomy i j with h | rfl | h
   ·rw [before i s' hs' h (h2 h)]; simp [h]
   ·rw [hSj]; simp
   ·rw [after i s' hs' h (h3 h)]; simp; omega
  have yes : ∀ x y, ¬ clash x y = false → clash x y = true := fun x y h => by simpa using h
  refine step_ok hat hs ho (hd j s.o ho) hsok htj hSj ?_ ?_ ?_ ?_ fun a' w' hat' => ?_
  ·intro d hd' i s' hs' hdst
   refine both i s' hs' (fun _ => yes _ _ fun hn => ?_) (fun _ => yes _ _ fun hn => ?_)
   ·exact (clash_no hn).2.2.2 d hd' (by simp [footOf, hdst])
   ·exact ((clash_no hn).2.2.1 d (by simp [footOf, hdst])).1 hd'
  ·intro k hk i s' hs' hk'
   refine both i s' hs' (fun _ => yes _ _ fun hn => ?_) (fun _ => yes _ _ fun hn => ?_)
   ·exact (clash_no hn).2.1 k hk hk'
   ·exact ((clash_no hn).1 k hk').1 hk
  ·intro d hd' i s' hij hs' hdst
   exact after i s' hs' hij (yes _ _ fun hn => ((clash_no hn).2.2.1 d (by simp [footOf, hdst])).2 (by simp [footOf, hd']))
  ·intro k hk i s' hij hs' hk'
   exact after i s' hs' hij (yes _ _ fun hn => ((clash_no hn).1 k hk').2 hk)
  ·have hset : ∀ i, (L.setIfInBounds j true).getD i false = addS (fun i => L.getD i false) j i := by
    intro i
    by_cases h : i = j
    ·subst h
     rw [addS_self]
     have : i < L.size := by omega
     simp [this]
    ·rw [addS_ne h, getD_set_ne false (Ne.symm h)]
   refine ih _ a' w' (by simp [hL]) ?_ ?_ ?_
   ·have hsub : ((List.range all.size).filter fun i => !(L.setIfInBounds j true).getD i true) = ((List.range all.size).filter fun i => !L.getD i true).filter fun i => !Nat.beq i j := by
     rw [List.filter_filter]
     refine List.filter_congr fun i hi => ?_
     by_cases h : i = j
     ·subst h
      have : i < L.size := by omega
      simp [this]
     ·rw [getD_set_ne true (Ne.symm h), beq_false h]; simp
    rw [hsub]
    have hmem : j ∈ (List.range all.size).filter fun i => !L.getD i true := List.mem_filter.2 ⟨List.mem_range.2 hlt, by rw [h1]; rfl⟩
    have : (((List.range all.size).filter fun i => !L.getD i true).filter fun i => !Nat.beq i j).length < ((List.range all.size).filter fun i => !L.getD i true).length :=
     List.length_filter_lt_length_iff_exists.2 ⟨j, hmem, by simp⟩
    omega
   ·intro k hk i hi
    rw [hset] at hk ⊢
    by_cases h : i = j
    ·subst h; exact addS_self
    ·rw [addS_ne h]
     by_cases h' : k = j
     ·subst h'; exact hbj i hi
     ·rw [addS_ne h'] at hk
      exact hcs k hk i hi
   ·have : (fun i => (L.setIfInBounds j true).getD i false) = addS (fun i => L.getD i false) j := funext hset
    rw [this]
    exact hat'
end
section
variable {X : Cx} {all : Array Oper} {T : List Stp} {w0 : World} {Z : Nat → Prop} {c : Nat} {t0 : List (Nat × AV)} {h0 : Hp} {t' : List (Nat × AV)} {h' : Hp} {Q : Exit → Act → World → Prop}
 {r1 r2 : List Oper} {o : Oper} {ids : List Nat} {pt : Nat} {q : Hp}
theorem trp_len (hT : TraceOK X c all r1 0 t0 h0 T t' h') : T.length = r1.length := by
 have h1 := hT.len
 rw [← h1]; simp
theorem trp_op (hall : all.toList = r1 ++ o :: r2) (hT : TraceOK X c all r1 0 t0 h0 T t' h') {j : Nat} {s : Stp} (hj : T[j]? = some s) : all[j]? = some s.o := by
 have h1 := hT.len
 have h2 : (T.map (·.o))[j]? = some s.o := by simp [hj]
 rw [h1] at h2
 have h3 : j < r1.length := (List.getElem?_eq_some_iff.1 h2).1
 have : all.toList[j]? = some s.o := by rw [hall, List.getElem?_append_left h3]; exact h2
 simpa using this
theorem trp_at (hall : all.toList = r1 ++ o :: r2) : all[r1.length]? = some o := by
 have : all.toList[r1.length]? = some o := by rw [hall]; simp
 simpa using this
theorem pan_step {S : Nat → Bool} {a : Act} {w : World} {K : Act → World → Prop} (hall : all.toList = r1 ++ o :: r2) (hs : StpPan X c all r1.length t' (lkH h') o ids pt q) (hd : ∀ d, o.dst = some d → d < X.nt)
  (hat : At X T w0 Z c t0 (lkH h0) S a w) (hS : S r1.length = false) (h1 : ∀ d ∈ seesT all o, lw S (T.map tW) (lkT t0) d = lkT t' d) (h2 : lw S (T.map hW) (lkH h0) = lkH h')
  (hQ : ∀ (M' : Mem) t2 used own', M'.w0 = w0 → M'.Z = Z → M'.h = lkH (q ++ h') → Inv X M' t2 used own' a → Q (.panic (pchain pt)) a M'.w) : wpOp X.P all Q r1.length K a w := by
 obtain ⟨M, t, own, rfl, rfl, rfl, hi, ht, hh⟩ := hat
 have e1 : ∀ d ∈ seesT all o, lkT t d = lkT t' d := fun d hd => by rw [ht, h1 d hd]
 have hw := wanted_eq hi e1 hs.g
 obtain ⟨hr, hop, hids⟩ := hs.e
 unfold wpOp
 rw [trp_at hall]
 simp only [hw, if_true]
 left
 refine hop o M t (usedIn c S (· < c)) own a K Q rfl hd (evA_ext e1) (fun id hid => ?_) hi (fun j hj hu => ?_) fun M' own' e2 e3 e4 e5 => hQ M' t _ own' e2 e3 ?_ e5
 ·obtain ⟨_, e⟩ := hids id hid
  rw [hh, h2, e]
 ·rcases hu with hu | ⟨i, hi1, hi2, hi3⟩
  ·omega
  ·have : i = r1.length := by omega
   subst this
   rw [hS] at hi1; cases hi1
 ·rw [e4, hh, h2]
  funext k
  rw [lkH_append]
theorem ops_text_pan (hall : all.toList = r1 ++ o :: r2) (hT : TraceOK X c all r1 0 t0 h0 T t' h') (hs : StpPan X c all r1.length t' (lkH h') o ids pt q) (hd : ∀ (j : Nat) (o : Oper), all[j]? = some o → ∀ d, o.dst = some d → d < X.nt)
  (hQ : ∀ a (M' : Mem) t2 used own', M'.w0 = w0 → M'.Z = Z → M'.h = lkH (q ++ h') → Inv X M' t2 used own' a → Q (.panic (pchain pt)) a M'.w) :
  ∀ (m j : Nat) (a : Act) (w : World), j + m = all.size → j ≤ r1.length → At X T w0 Z c t0 (lkH h0) (fun i => decide (i < j)) a w → wpOps X.P all Q (List.range' j m) a w := by
 have hn : r1.length < all.size := by
  have := congrArg List.length hall
  simp at this; omega
 have hTl := trp_len hT
 obtain ⟨et, eh⟩ := hT.end
 intro m
 induction m with
 | zero => intro j a w hj hjn _; omega
 | succ m ih =>
  intro j a w hj hjn hat
  rw [List.range'_succ, wpOps_cons]
  rcases Nat.lt_or_eq_of_le hjn with hlt | rfl
  ·have hs' : ∃ s, T[j]? = some s := ⟨T[j]'(by omega), by simp [show j < T.length by omega]⟩
   obtain ⟨s, hs'⟩ := hs'
   obtain ⟨tj, hsok, htj⟩ := hT.at hs'
   rw [Nat.zero_add] at hsok
   refine step_ok hat hs' (trp_op hall hT hs') (hd j s.o (trp_op hall hT hs')) hsok htj (by simp) (fun _ _ _ _ _ _ => rfl) (fun _ _ _ _ _ _ => rfl) (fun _ _ i _ hi _ _ => by simp; omega) (fun _ _ i _ hi _ _ => by simp; omega) fun a' w' hat' => ?_
   refine ih (j + 1) a' w' (by omega) (by omega) ?_
   have : addS (fun i => decide (i < j)) j = fun i => decide (i < j + 1) := by
    funext i
    by_cases h1 : i = j
    ·subst h1; simp [addS]
    ·rw [addS_ne h1]
     by_cases h2 : i < j
     ·simp [h2]; omega
     ·simp [h2]; omega
   rw [← this]
   exact hat'
  ·refine pan_step hall hs (hd _ o (trp_at hall)) hat (by simp) (fun d _ => ?_) ?_ (hQ a)
   ·rw [et]
    exact lw_agree rfl fun i w hw _ => by
     have := (List.getElem?_eq_some_iff.1 hw).1
     simp at this
     simp; omega
   ·rw [eh]
    funext k
    exact lw_agree rfl fun i w hw _ => by
     have := (List.getElem?_eq_some_iff.1 hw).1
     simp at this
     simp; omega
theorem headB_spec {b : Nat} : ∀ {tr : Foot} {k : Nat}, headB b tr k = true → ∀ {i y}, tr[i]? = some y → b.testBit (k + i) = true ∨ y.2.1 = []
 | [], _, _, i, y, h => by simp at h
 | z :: r, k, h, 0, y, hy => by
  simp only [headB, Bool.and_eq_true, Bool.or_eq_true] at h
  simp only [List.getElem?_cons_zero, Option.some.injEq] at hy
  subst hy
  exact h.1.imp_right List.isEmpty_iff.1
 | z :: r, k, h, i + 1, y, hy => by
  simp only [headB, Bool.and_eq_true] at h
  have := headB_spec h.2 (i := i) (y := y) (by simpa using hy)
  rwa [show k + (i + 1) = k + 1 + i by omega]
theorem tailB_spec {n : Nat} : ∀ {bs : List Nat} {k : Nat}, tailB n bs k = true → ∀ {i}, i < bs.length → n < k + i → (bs.getD i 0).testBit n = true
 | [], _, _, i, h, _ => by simp at h
 | b :: r, k, h, 0, _, hn => by
  simp only [tailB, Bool.and_eq_true, Bool.or_eq_true, Nat.ble_eq] at h
  rcases h.1 with h | h
  ·omega
  ·simpa using h
 | b :: r, k, h, i + 1, hi, hn => by
  simp only [tailB, Bool.and_eq_true] at h
  have := tailB_spec h.2 (i := i) (by simpa using hi) (by omega)
  simpa using this
theorem befL_len : ∀ {r : List Oper} {acc : List Nat}, (befL r acc).length = acc.length + r.length
 | [], acc => by simp [befL]
 | o :: r, acc => by
  simp only [befL]
  rw [befL_len]
  simp; omega
theorem ops_any_pan (hall : all.toList = r1 ++ o :: r2) (hT : TraceOK X c all r1 0 t0 h0 T t' h') (hs : StpPan X c all r1.length t' (lkH h') o ids pt q)
  (hp : panOK all true r1.length (T.map (footOf all) ++ [(ids, q.map (·.1), seesT all o, o.dst.toList)]) = true) (hd : ∀ (j : Nat) (o : Oper), all[j]? = some o → ∀ d, o.dst = some d → d < X.nt)
  (hQ : ∀ a (M' : Mem) t2 used own', M'.w0 = w0 → M'.Z = Z → M'.h = lkH (q ++ h') → Inv X M' t2 used own' a → Q (.panic (pchain pt)) a M'.w) :
  ∀ (fuel : Nat) (L : Array Bool) (a : Act) (w : World), L.size = all.size → ((List.range all.size).filter fun i => !L.getD i true).length ≤ fuel →
   (∀ j, L.getD j false = true → ∀ i, ((befL all.toList []).getD j 0).testBit i = true → L.getD i false = true) → L.getD r1.length false = false → At X T w0 Z c t0 (lkH h0) (fun i => L.getD i false) a w → wpAny X.P .any all Q fuel L a w := by
 simp only [panOK, Bool.not_true, Bool.false_or, Bool.and_eq_true] at hp
 obtain ⟨⟨⟨hed, hcl⟩, htl⟩, hhd⟩ := hp
 have hn : r1.length < all.size := by
  have := congrArg List.length hall
  simp at this; omega
 have hTl := trp_len hT
 obtain ⟨et, eh⟩ := hT.end
 have hbl : (befL all.toList []).length = all.size := by rw [befL_len]; simp
 have hgd : ∀ (L : Array Bool) (i : Nat), L.size = all.size → i < all.size → L.getD i true = L.getD i false := by
  intro L i hL hi
  have : i < L.size := by omega
  simp [Array.getD_eq_getD_getElem?, this]
 have hempty : ∀ (L : Array Bool), L.size = all.size → L.getD r1.length false = false → Region.ready .any all L = [] → False := by
  intro L hL hLn hr
  have hall' : ∀ n, ∀ i < n, i < all.size → L.getD i false = true := by
   intro n
   induction n with
   | zero => intro i hi; omega
   | succ n ih =>
    intro i hi hia
    cases hv : L.getD i false with
    | true => rfl
    | false =>
     exfalso
     have : i ∈ Region.ready .any all L := mem_ready.2 ⟨by rw [hgd L i hL hia]; exact hv, all[i], by simp [hia], fun e he hb => by
      have hlt := edgesB_spec hed (i := i) (o := all[i]) (by simp [hia]) e (by simpa using he) hb
      exact ih e.on (by omega) (by omega)⟩
     rw [hr] at this
     cases this
  have := hall' all.size r1.length hn hn
  rw [hLn] at this; cases this
 intro fuel
 induction fuel with
 | zero =>
  intro L a w hL hlen hcs hLn hat
  exfalso
  have hmem : r1.length ∈ (List.range all.size).filter fun i => !L.getD i true := List.mem_filter.2 ⟨List.mem_range.2 hn, by rw [hgd L _ hL hn, hLn]; rfl⟩
  have h0 := List.eq_nil_of_length_eq_zero (Nat.le_zero.1 hlen)
  rw [h0] at hmem
  cases hmem
 | succ fuel ih =>
  intro L a w hL hlen hcs hLn hat
  refine ⟨fun hr => (hempty L hL hLn hr).elim, fun j hj => ?_⟩
  obtain ⟨h1, oj, ho, hready⟩ := mem_ready.1 hj
  have hlt : j < all.size := (Array.getElem?_eq_some_iff.1 ho).1
  have hSj : L.getD j false = false := by rw [← hgd L j hL hlt]; exact h1
  -- what comes before j has run
  have hbj : ∀ i, ((befL all.toList []).getD j 0).testBit i = true → L.getD i false = true := by
   intro i hi
   obtain ⟨o', e, h2, h3, h4, h5⟩ := befL_bit (Nat.zero_le _) hi
   have h2' : all.toList[j]? = some o' := by simpa using h2
   have : o' = oj := by
    have h6 : all.toList[j]? = some oj := by simpa using ho
    rw [h2'] at h6; exact Option.some.inj h6
   subst this
   have he := hready e (by simpa using h3) h4
   rcases h5 with rfl | h5
   ·exact he
   ·exact hcs _ he i h5
  rcases Nat.lt_trichotomy j r1.length with hjn | rfl | hjn
  ·obtain ⟨s, hs'⟩ : ∃ s, T[j]? = some s := ⟨T[j]'(by omega), by simp [show j < T.length by omega]⟩
   have hso := trp_op hall hT hs'
   obtain rfl : s.o = oj := by rw [ho] at hso; exact (Option.some.inj hso).symm
   obtain ⟨tj, hsok, htj⟩ := hT.at hs'
   rw [Nat.zero_add] at hsok
   have hbt : ∀ k, k ≤ r1.length → ((befL all.toList []).take (r1.length + 1)).getD k 0 = (befL all.toList []).getD k 0 := by
    intro k hk
    simp only [List.getD_eq_getElem?_getD]
    rw [List.getElem?_take, if_pos (by omega)]
   have hfx : ∀ {k : Nat} {s' : Stp}, T[k]? = some s' → (T.map (footOf all) ++ [(ids, q.map (·.1), seesT all o, o.dst.toList)])[k]? = some (footOf all s') := by
    intro k s' hk
    have : k < T.length := (List.getElem?_eq_some_iff.1 hk).1
    rw [List.getElem?_append_left (by simpa using this)]
    simp [hk]
   -- earlier in the text
   have before : ∀ i s', T[i]? = some s' → i < j → clash (footOf all s) (footOf all s') = true → L.getD i false = true := by
    intro i s' hs2 hij hcs'
    rcases calmL_spec hcl (j := j) (x := footOf all s) (i := i) (y := footOf all s') (hfx hs') (by rw [List.nil_append, List.getElem?_take, if_pos hij]; exact hfx hs2) with h | h
    ·rw [hbt j (by omega)] at h; exact hbj i h
    ·rw [hcs'] at h; cases h
   have after : ∀ i s', T[i]? = some s' → j < i → clash (footOf all s') (footOf all s) = true → L.getD i false = false := by
    intro i s' hs2 hij hcs'
    have hiT : i < T.length := (List.getElem?_eq_some_iff.1 hs2).1
    rcases calmL_spec hcl (j := i) (x := footOf all s') (i := j) (y := footOf all s) (hfx hs2) (by rw [List.nil_append, List.getElem?_take, if_pos hij]; exact hfx hs') with h | h
    ·rw [hbt i (by omega)] at h
     cases hv : L.getD i false with
     | false => rfl
     | true =>
      have := hcs i hv j h
      rw [hSj] at this; cases this
    ·rw [hcs'] at h; cases h
   have both : ∀ i s', T[i]? = some s' → (i < j → clash (footOf all s) (footOf all s') = true) → (j < i → clash (footOf all s') (footOf all s) = true) → L.getD i false = decide (i < j) := by
    intro i s' hs2 h2 h3
    rcases Nat.lt_trichotomy i j with h | rfl | h
    ·rw [before i s' hs2 h (h2 h)]; simp [h]
    ·rw [hSj]; simp
    ·rw [after i s' hs2 h (h3 h)]; simp; omega
   have yes : ∀ x y, ¬ clash x y = false → clash x y = true := fun x y h => by simpa using h
   refine step_ok hat hs' ho (hd j s.o ho) hsok htj hSj ?_ ?_ ?_ ?_ fun a' w' hat' => ?_
   ·intro d hd' i s' hs2 hdst
    refine both i s' hs2 (fun _ => yes _ _ fun hn => ?_) (fun _ => yes _ _ fun hn => ?_)
    ·exact (clash_no hn).2.2.2 d hd' (by simp [footOf, hdst])
    ·exact ((clash_no hn).2.2.1 d (by simp [footOf, hdst])).1 hd'
   ·intro k hk i s' hs2 hk'
    refine both i s' hs2 (fun _ => yes _ _ fun hn => ?_) (fun _ => yes _ _ fun hn => ?_)
    ·exact (clash_no hn).2.1 k hk hk'
    ·exact ((clash_no hn).1 k hk').1 hk
   ·intro d hd' i s' hij hs2 hdst
    exact after i s' hs2 hij (yes _ _ fun hn => ((clash_no hn).2.2.1 d (by simp [footOf, hdst])).2 (by simp [footOf, hd']))
   ·intro k hk i s' hij hs2 hk'
    exact after i s' hs2 hij (yes _ _ fun hn => ((clash_no hn).1 k hk').2 hk)
   ·have hset : ∀ i, (L.setIfInBounds j true).getD i false = addS (fun i => L.getD i false) j i := by
     intro i
     by_cases h : i = j
     ·subst h
      rw [addS_self]
      have : i < L.size := by omega
      simp [this]
     ·rw [addS_ne h, getD_set_ne false (Ne.symm h)]
    refine ih _ a' w' (by simp [hL]) ?_ ?_ ?_ ?_
    ·have hsub : ((List.range all.size).filter fun i => !(L.setIfInBounds j true).getD i true) = ((List.range all.size).filter fun i => !L.getD i true).filter fun i => !Nat.beq i j := by
      rw [List.filter_filter]
      refine List.filter_congr fun i hi => ?_
      by_cases h : i = j
      ·subst h
       have : i < L.size := by omega
       simp [this]
      ·rw [getD_set_ne true (Ne.symm h), beq_false h]; simp
     rw [hsub]
     have hmem : j ∈ (List.range all.size).filter fun i => !L.getD i true := List.mem_filter.2 ⟨List.mem_range.2 hlt, by rw [h1]; rfl⟩
     have : (((List.range all.size).filter fun i => !L.getD i true).filter fun i => !Nat.beq i j).length < ((List.range all.size).filter fun i => !L.getD i true).length :=
      List.length_filter_lt_length_iff_exists.2 ⟨j, hmem, by simp⟩
     omega
    ·intro k hk i hi
     rw [hset] at hk ⊢
     by_cases h : i = j
     ·subst h; exact addS_self
     ·rw [addS_ne h]
      by_cases h' : k = j
      ·subst h'; exact hbj i hi
      ·rw [addS_ne h'] at hk
       exact hcs k hk i hi
    ·rw [hset, addS_ne (by omega)]; exact hLn
    ·have : (fun i => (L.setIfInBounds j true).getD i false) = addS (fun i => L.getD i false) j := funext hset
     rw [this]
     exact hat'
  ·obtain rfl : oj = o := by rw [trp_at hall] at ho; exact (Option.some.inj ho).symm
   have hlast : (T.map (footOf all) ++ [(ids, q.map (·.1), seesT all oj, oj.dst.toList)])[r1.length]? = some (ids, q.map (·.1), seesT all oj, oj.dst.toList) := by
    rw [List.getElem?_append_right (by simp [hTl])]
    simp [hTl]
   have hone : ∀ {i : Nat} {s' : Stp}, T[i]? = some s' → i < r1.length := fun h => by have := (List.getElem?_eq_some_iff.1 h).1; omega
   refine pan_step hall hs (hd _ oj (trp_at hall)) hat hLn (fun d hdd => ?_) ?_ (hQ a)
   ·rw [et]
    refine lw_agree rfl fun i w' hw' hk => ?_
    rw [List.getElem?_map] at hw'
    cases hTi : T[i]? with
    | none => rw [hTi] at hw'; cases hw'
    | some s' =>
     rw [hTi] at hw'
     simp only [Option.map_some, Option.some.injEq] at hw'
     subst hw'
     have hdst : s'.o.dst = some d := by
      unfold tW at hk
      split at hk
      ·assumption
      ·exact absurd rfl hk
     have hin := hone hTi
     rcases calmL_spec hcl (j := r1.length) (i := i) (y := footOf all s') hlast (by rw [List.nil_append, List.getElem?_take, if_pos hin, List.getElem?_append_left (by simp; omega)]; simp [hTi]) with h | h
     ·refine hbj i ?_
      simp only [List.getD_eq_getElem?_getD] at h ⊢
      rwa [List.getElem?_take, if_pos (by omega)] at h
     ·exact absurd (by simp [footOf, hdst]) ((clash_no h).2.2.2 d hdd)
   ·rw [eh]
    funext k
    refine lw_agree rfl fun i w' hw' hk => ?_
    rw [List.getElem?_map] at hw'
    cases hTi : T[i]? with
    | none => rw [hTi] at hw'; cases hw'
    | some s' =>
     rw [hTi] at hw'
     simp only [Option.map_some, Option.some.injEq] at hw'
     subst hw'
     have hin := hone hTi
     rcases headB_spec hhd (i := i) (y := footOf all s') (by rw [List.getElem?_take, if_pos hin, List.getElem?_append_left (by simp; omega)]; simp [hTi]) with h | h
     ·refine hbj i ?_
      rwa [Nat.zero_add] at h
     ·have hm : k ∈ s'.q.map (·.1) := lkO_mem hk
      have h : s'.q.map (·.1) = [] := h
      rw [h] at hm
      cases hm
  ·exfalso
   have := hbj r1.length (tailB_spec htl (i := j) (by omega) (by omega))
   rw [hLn] at this; cases this
end
theorem Inv.drawn {X : Cx} {M : Mem} {t used own a} (hi : Inv X M t used own a) (d : Nat) : ∃ M' own', M'.w0 = M.w0 ∧ M'.Z = M.Z ∧ M'.h = M.h ∧ M'.w = { M.w with drawn := d } ∧ Inv X M' t used own' a := by
 have h := Inv.many hi (N := []) (ts := []) (w' := { M.w with drawn := d }) (used' := used) (by simp) (by simp) (fun _ h => h) (by simp) (by simp) (fun _ _ _ => rfl) (by simp) (by simp) (by simp) (Nat.le_refl _) rfl rfl rfl
 exact ⟨⟨M.w0, M.Z, lkU (nrH [] ++ killed []) M.h, nrR [] M.r, { M.w with drawn := d }⟩, _, rfl, rfl, rfl, rfl, h⟩
section
variable {X : Cx} {ρ : Type} {y : ρ} {Q : Exit → Act → World → Prop}
theorem region_ok (hE : EnOK X) {id : Nat} {ops : Array Oper} {draw : Bool} {s : St} {PK : Nat → Hp → Option ρ} {K : List (Nat × AV) → Hp → Option ρ} (hd : ∀ (j : Nat) (o : Oper), ops[j]? = some o → ∀ d, o.dst = some d → d < X.nt)
  (hy : opsA X.E s.c ops draw PK ops.toList 0 s.t s.h [] K = some y) : (∃ t' h', K t' h' = some y ∧
   ∀ M own a, Inv X M s.t (· < s.c) own a → M.h = lkH s.h → (∀ M' own' a', M'.w0 = M.w0 → M'.Z = M.Z → M'.h = lkH h' → Inv X M' t' (· < s.c + 64 * ops.size) own' a' → Q .normal a' M'.w) → (Code.region id ops draw).wp X.P Q a M.w) ∨
  ∃ pt h', PK pt h' = some y ∧ ∀ M own a, Inv X M s.t (· < s.c) own a → M.h = lkH s.h → (∀ (M' : Mem) t2 used own' a', M'.w0 = M.w0 → M'.Z = M.Z → M'.h = lkH h' → Inv X M' t2 used own' a' → Q (.panic (pchain pt)) a' M'.w) → (Code.region id ops draw).wp X.P Q a M.w := by
 have hstart : ∀ {M : Mem} {own : Nat → Option Nat} {a : Act} (T : List Stp), Inv X M s.t (· < s.c) own a → M.h = lkH s.h → ∀ (S : Nat → Bool) (w : World), (∀ i, S i = false) → (∃ M' own', M'.w0 = M.w0 ∧ M'.Z = M.Z ∧ M'.h = M.h ∧ M'.w = w ∧ Inv X M' s.t (· < s.c) own' a) → At X T M.w0 M.Z s.c s.t (lkH s.h) S a w := by
  rintro M own a T hi hh S w hS ⟨M', own', h1, h2, h3, h4, h5⟩
  exact ⟨M', s.t, own', h1, h2, h4, h5.grow fun k hk => .inl hk, fun d => by rw [lw_none hS], by rw [lw_none hS, h3, hh]⟩
 rcases opsA_trace hE hy with ⟨T, t', h', hT, hc, hK⟩ | ⟨r1, o, r2, T, t', h', ids, pt, q, hall, hT, hsp, hpo, hP⟩
 rotate_left
 ·refine .inr ⟨pt, q ++ h', hP, fun M own a hi hh hQ => ?_⟩
  rw [Nat.zero_add] at hsp hpo
  rw [List.reverse_nil, List.nil_append] at hpo
  have hQ' : ∀ a (M' : Mem) t2 used own', M'.w0 = M.w0 → M'.Z = M.Z → M'.h = lkH (q ++ h') → Inv X M' t2 used own' a → Q (.panic (pchain pt)) a M'.w := fun a M' t2 used own' h1 h2 h3 h4 => hQ M' t2 used own' a h1 h2 h3 h4
  cases draw with
  | false =>
   refine wp_region ?_
   rw [List.range_eq_range']
   exact ops_text_pan hall hT hsp hd hQ' ops.size 0 a M.w (by omega) (by omega) (hstart T hi hh _ _ (by simp) ⟨M, own, rfl, rfl, rfl, rfl, hi⟩)
  | true =>
   refine wp_region_any hE.mx ?_
   refine ops_any_pan hall hT hsp hpo hd hQ' ops.size _ a _ (by simp) ?_ ?_ ?_ (hstart T hi hh _ _ ?_ ?_)
   ·exact Nat.le_trans (List.length_filter_le _ _) (by simp)
   ·intro j hj
    simp only [Array.getD_eq_getD_getElem?, Array.getElem?_replicate] at hj
    split at hj <;> simp at hj
   ·simp only [Array.getD_eq_getD_getElem?, Array.getElem?_replicate]
    split <;> rfl
   ·intro i
    simp only [Array.getD_eq_getD_getElem?, Array.getElem?_replicate]
    split <;> rfl
   ·exact hi.drawn _
 refine .inl ⟨t', h', hK, fun M own a hi hh hQ => ?_⟩
 obtain ⟨et, eh⟩ := hT.end
 have hlen : T.length = ops.size := by rw [← List.length_map (f := (·.o)), hT.len]; simp
 have hfin : ∀ a' w', At X T M.w0 M.Z s.c s.t (lkH s.h) (fun i => decide (i < ops.size)) a' w' → Q .normal a' w' := by
  rintro a' w' ⟨M', t2, own', h1, h2, rfl, h3, h4, h5⟩
  refine hQ M' own' a' h1 h2 ?_ ((h3.ext (t' := t') fun d => ?_).grow fun k hk => ?_)
  ·rw [h5, eh]
   funext k
   exact lw_agree rfl fun i w hw _ => by
    have := (List.getElem?_eq_some_iff.1 hw).1
    simp at this
    simp; omega
  ·rw [h4, et]
   exact lw_agree rfl fun i w hw _ => by
    have := (List.getElem?_eq_some_iff.1 hw).1
    simp at this
    simp; omega
  ·rcases hk with hk | ⟨i, hi', hk1, hk2⟩
   ·omega
   ·simp at hi'; omega
 cases draw with
 | false =>
  refine wp_region ?_
  rw [List.range_eq_range']
  exact ops_text hT hd hfin ops.size 0 a M.w (by omega) (hstart T hi hh _ _ (by simp) ⟨M, own, rfl, rfl, rfl, rfl, hi⟩)
 | true =>
  refine wp_region_any hE.mx ?_
  have hc' : calm ops (T.map (footOf ops)) = true := by simpa using hc rfl
  refine ops_any hT hc' hd hfin ops.size _ a _ (by simp) ?_ ?_ (hstart T hi hh _ _ ?_ ?_)
  ·exact Nat.le_trans (List.length_filter_le _ _) (by simp)
  ·intro j hj
   simp only [Array.getD_eq_getD_getElem?, Array.getElem?_replicate] at hj
   split at hj <;> simp at hj
  ·intro i
   simp only [Array.getD_eq_getD_getElem?, Array.getElem?_replicate]
   split <;> rfl
  ·exact hi.drawn _
end
end Go.VM

namespace Go.VM
variable [Bor]
def Rel (X : Cx) (w0 : World) (Z : Nat → Prop) (s : St) (a : Act) (w : World) : Prop := ∃ (M : Mem) (own : Nat → Option Nat), M.w0 = w0 ∧ M.Z = Z ∧ M.w = w ∧ M.h = lkH s.h ∧ Inv X M s.t (· < s.c) own a
theorem Inv.slot {X : Cx} {M : Mem} {t used own a} (h : Inv X M t used own a) {d : Nat} {c : AV} (hv : AVRep M c (a.tmps.getD d undef)) (hu : ∀ j ∈ refs c, used j) : Inv X M ((d, c) :: t) used own a := by
 have e : ∀ i, lkT ((d, c) :: t) i = if i = d then c else lkT t i := by
  intro i
  simp only [lkT]
  by_cases h : i = d
  ·subst h; rw [if_pos rfl, sw_true (by simp)]
  ·rw [if_neg h, sw_false (beq_false (Ne.symm h))]
 refine { h with tm := fun i => ?_, ut := fun i j hj => ?_ }
 ·rw [e]; split
  ·rename_i hi; subst hi; exact hv
  ·exact h.tm i
 ·rw [e] at hj; split at hj
  ·exact hu j hj
  ·exact h.ut i j hj
def nilNR (c : Nat) (u : U) : NR := ⟨c, .arr true u [] 0, (none, 0), []⟩
theorem nilNR_rt {M' : Mem} {c : Nat} {u : U} (hp : u.plain = true) (hr : M'.r c = (none, 0)) {own' : Nat → Option Nat} : RootRep M' own' c (.arr true u [] 0) :=
 ⟨hp, [], by rw [hr]; exact .inl ⟨rfl, rfl, rfl⟩, List.nodup_nil, by simp⟩
theorem nilNR_av {M' : Mem} {c : Nat} {u : U} (hr : M'.r c = (none, 0)) (hh : M'.h c = .arr true u [] 0) : AVRep M' (.hs c [] none 0) (.slice none 0 0) := by
 simp only [AVRep]
 intro e u2 l g b hl
 rw [hh] at hl
 cases hl
 exact ⟨.inl trivial, fun _ _ => ⟨_, _, _, _, rfl, rfl, by simp only [Win, hr]; rfl⟩⟩
theorem promT1 {X : Cx} {w0 : World} {Z : Nat → Prop} {s : St} {a : Act} {w : World} {d : Nat} {u : U} (hp : u.plain = true) (hn : lkT s.t d = .nil) (h : Rel X w0 Z s a w) : Rel X w0 Z ⟨(d, .hs s.c [] none 0) :: s.t, (s.c, .arr true u [] 0) :: s.h, s.c + 1⟩ a w := by
 obtain ⟨M, own, rfl, rfl, rfl, hh, hi⟩ := h
 have hv := hi.tm d
 rw [hn] at hv
 simp only [AVRep] at hv
 have key := Inv.many hi (N := [nilNR s.c u]) (ts := []) (w' := M.w) (used' := (· < s.c + 1)) (by simp) (by simp [nilNR]) (fun j hj => by omega) (by simp [nilNR]) (by simp [nilNR]) (fun _ _ _ => rfl) (by simp [nilNR]) ?_ (by simp [nilNR]) (Nat.le_refl _) rfl rfl rfl
 ·refine ⟨⟨M.w0, M.Z, lkU (nrH [nilNR s.c u] ++ killed []) M.h, nrR [nilNR s.c u] M.r, M.w⟩, _, rfl, rfl, rfl, ?_, key.slot ?_ ?_⟩
  ·funext id
   show lkU _ _ _ = lkH _ _
   rw [hh]
   rfl
  ·rw [hv]
   refine nilNR_av (u := u) ?_ ?_
   ·simp [nrR, nilNR]
   ·show lkU _ _ _ = _
    simp only [nrH, nilNR, List.map_cons, List.map_nil, List.cons_append, lkU]
    rw [sw_true (by simp)]
  ·simp [refs]
 ·intro M' _ _ _ _ hM n hn own' ho
  simp only [List.mem_singleton] at hn
  subst hn
  exact nilNR_rt hp (hM _ (by simp)).1
theorem promT_ok {X : Cx} {w0 : World} {Z : Nat → Prop} {a : Act} {w : World} : ∀ {l : List (Nat × U)} {s : St}, Rel X w0 Z s a w → Rel X w0 Z (promT l s) a w
 | [], s, h => h
 | (d, u) :: r, s, h => by
  simp only [promT]
  refine promT_ok ?_
  split
  ·rename_i hn
   cases hp : u.plain with
   | true => exact promT1 hp hn h
   | false => exact h
  ·exact h
theorem AVRepL.at1 {M : Mem} : ∀ {cs : List AV} {vs : List Value} {j : Nat} {c : AV}, AVRepL M cs vs → cs[j]? = some c → ∃ v, vs[j]? = some v ∧ AVRep M c v
 | [], _, j, c, _, hj => by simp at hj
 | x :: cs, vs, 0, c, h, hj => by
  simp only [AVRepL] at h
  obtain ⟨v, r, rfl, h1, _⟩ := h
  simp only [List.getElem?_cons_zero, Option.some.injEq] at hj
  subst hj
  exact ⟨v, rfl, h1⟩
 | x :: cs, vs, j + 1, c, h, hj => by
  simp only [AVRepL] at h
  obtain ⟨v, r, rfl, _, h⟩ := h
  obtain ⟨v', h1, h2⟩ := AVRepL.at1 h (j := j) (c := c) (by simpa using hj)
  exact ⟨v', by simpa using h1, h2⟩
theorem AVRepL.set1 {M : Mem} : ∀ {cs : List AV} {vs : List Value} {j : Nat} {c : AV} {v : Value}, AVRepL M cs vs → vs[j]? = some v → AVRep M c v → AVRepL M (cs.set j c) vs
 | [], _, j, c, v, h, _, _ => by simpa using h
 | x :: cs, vs, 0, c, v, h, hj, hc => by
  simp only [AVRepL] at h
  obtain ⟨v', r, rfl, h1, h2⟩ := h
  simp only [List.getElem?_cons_zero, Option.some.injEq] at hj
  subst hj
  simp only [List.set_cons_zero, AVRepL]
  exact ⟨_, _, rfl, hc, h2⟩
 | x :: cs, vs, j + 1, c, v, h, hj, hc => by
  simp only [AVRepL] at h
  obtain ⟨v', r, rfl, h1, h2⟩ := h
  simp only [List.set_cons_succ, AVRepL]
  exact ⟨_, _, rfl, h1, AVRepL.set1 h2 (by simpa using hj) hc⟩
theorem refsL_set {c : AV} {j k : Nat} : ∀ {cs : List AV}, k ∈ refsL (cs.set j c) → k ∈ refsL cs ∨ k ∈ refs c
 | [], h => .inl (by simpa using h)
 | x :: cs, h => by
  cases j with
  | zero =>
   simp only [List.set_cons_zero, refsL, List.mem_append] at h ⊢
   rcases h with h | h
   ·exact .inr h
   ·exact .inl (.inr h)
  | succ j =>
   simp only [List.set_cons_succ, refsL, List.mem_append] at h ⊢
   rcases h with h | h
   ·exact .inl (.inl h)
   ·exact (refsL_set h).imp_left .inr
theorem promC1 {X : Cx} {w0 : World} {Z : Nat → Prop} {s : St} {a : Act} {w : World} {id j : Nat} {u : U} {cs : List AV} (hp : u.plain = true) (hl : lkH s.h id = .obj cs) (hn : cs[j]? = some .nil) (h : Rel X w0 Z s a w) :
  Rel X w0 Z ⟨s.t, (id, .obj (cs.set j (.hs s.c [] none 0))) :: (s.c, .arr true u [] 0) :: s.h, s.c + 1⟩ a w := by
 obtain ⟨M, own, rfl, rfl, rfl, hh, hi⟩ := h
 have hM : M.h id = .obj cs := by rw [hh, hl]
 have hid : id < s.c := hi.ud id (by rw [hM]; simp)
 have hrt := hi.rt id
 rw [hM] at hrt
 obtain ⟨b, c, t, hb, hw, hcs, hob⟩ := hrt
 obtain ⟨v, hv, hav⟩ := hcs.at1 hn
 simp only [AVRep] at hav
 subst hav
 have key := Inv.many hi (N := [⟨id, .obj (cs.set j (.hs s.c [] none 0)), M.r id, [b]⟩, nilNR s.c u]) (ts := [id]) (w' := M.w) (used' := (· < s.c + 1)) (by simp [nilNR]; omega) (by simp [nilNR]) (fun j hj => by omega) (by simp [nilNR]; omega) ?_ (fun _ _ _ => rfl) ?_ ?_ ?_ (Nat.le_refl _) rfl rfl rfl
 ·refine ⟨⟨M.w0, M.Z, lkU (nrH [⟨id, .obj (cs.set j (.hs s.c [] none 0)), M.r id, [b]⟩, nilNR s.c u] ++ killed [id]) M.h, nrR [⟨id, .obj (cs.set j (.hs s.c [] none 0)), M.r id, [b]⟩, nilNR s.c u] M.r, M.w⟩, _, rfl, rfl, rfl, ?_, key⟩
  funext k
  show lkU _ _ _ = lkH _ _
  simp only [nrH, nilNR, killed, List.map_cons, List.map_nil, List.cons_append, List.nil_append, lkU, lkH, hh]
  by_cases hk : id = k
  ·subst hk; rw [sw_true (by simp), sw_true (by simp)]
  ·rw [sw_false (beq_false hk), sw_false (beq_false hk), sw_false (beq_false hk)]
 ·intro n hn hu
  simp only [List.mem_cons, List.not_mem_nil, or_false] at hn
  rcases hn with rfl | rfl
  ·exact ⟨by simp, rfl, .inl ⟨_, _, hM, rfl⟩⟩
  ·simp only [nilNR] at hu; omega
 ·intro n hn b' hb'
  simp only [List.mem_cons, List.not_mem_nil, or_false] at hn
  rcases hn with rfl | rfl
  ·simp only [List.mem_singleton] at hb'
   subst hb'
   exact ⟨(hi.ow _ _ hob).1, (hi.ow _ _ hob).2, fun k hk => by rw [hob] at hk; cases hk; simp⟩
  ·simp [nilNR] at hb'
 ·intro M' h0 hZ hwm hk hM' n hn own' ho
  simp only [List.mem_cons, List.not_mem_nil, or_false] at hn
  have hcr := hM' (nilNR s.c u) (by simp)
  rcases hn with rfl | rfl
  ·have h1 := hM' ⟨id, .obj (cs.set j (.hs s.c [] none 0)), M.r id, [b]⟩ (by simp)
   refine ⟨b, c, t, by rw [h1.1]; exact hb, by rw [hwm]; exact hw, ?_, ho b (by simp)⟩
   refine AVRepL.set1 (AVRepL.mono h0 hZ (fun k hk' => hk k (hi.uo id cs hM k hk')) hcs) hv (nilNR_av hcr.1 hcr.2)
  ·exact nilNR_rt hp hcr.1
 ·intro n hn cs' hR k hk
  simp only [List.mem_cons, List.not_mem_nil, or_false] at hn
  rcases hn with rfl | rfl
  ·simp only [Root.obj.injEq] at hR
   subst hR
   rcases refsL_set hk with h | h
   ·have := hi.uo id cs hM k h; omega
   ·simp [refs] at h; omega
  ·simp [nilNR] at hR
theorem promC2 {X : Cx} {w0 : World} {Z : Nat → Prop} {s : St} {a : Act} {w : World} {id j : Nat} {u : U} {cs : List AV} (hp : u.plain = true) (hl : lkH s.h id = .obj cs) (hn : cs[j]? = some .nil) (h : Rel X w0 Z s a w) :
  Rel X w0 Z ⟨s.t, (id, .obj (cs.set j (.im (.bs u) []))) :: s.h, s.c⟩ a w := by
 obtain ⟨M, own, rfl, rfl, rfl, hh, hi⟩ := h
 have hM : M.h id = .obj cs := by rw [hh, hl]
 have hid : id < s.c := hi.ud id (by rw [hM]; simp)
 have hrt := hi.rt id
 rw [hM] at hrt
 obtain ⟨b, c, t, hb, hw, hcs, hob⟩ := hrt
 obtain ⟨v, hv, hav⟩ := hcs.at1 hn
 simp only [AVRep] at hav
 subst hav
 have key := Inv.many hi (N := [⟨id, .obj (cs.set j (.im (.bs u) [])), M.r id, [b]⟩]) (ts := [id]) (w' := M.w) (used' := (· < s.c)) (by simp) (by simp) (fun j hj => hj) (by simpa using hid) ?_ (fun _ _ _ => rfl) ?_ ?_ ?_ (Nat.le_refl _) rfl rfl rfl
 ·refine ⟨⟨M.w0, M.Z, lkU (nrH [⟨id, .obj (cs.set j (.im (.bs u) [])), M.r id, [b]⟩] ++ killed [id]) M.h, nrR [⟨id, .obj (cs.set j (.im (.bs u) [])), M.r id, [b]⟩] M.r, M.w⟩, _, rfl, rfl, rfl, ?_, key⟩
  funext k
  show lkU _ _ _ = lkH _ _
  simp only [nrH, killed, List.map_cons, List.map_nil, List.cons_append, List.nil_append, lkU, lkH, hh]
  by_cases hk : id = k
  ·subst hk; rw [sw_true (by simp), sw_true (by simp)]
  ·rw [sw_false (beq_false hk), sw_false (beq_false hk), sw_false (beq_false hk)]
 ·intro n hn hu
  simp only [List.mem_singleton] at hn
  subst hn
  exact ⟨by simp, rfl, .inl ⟨_, _, hM, rfl⟩⟩
 ·intro n hn b' hb'
  simp only [List.mem_singleton] at hn
  subst hn
  simp only [List.mem_singleton] at hb'
  subst hb'
  exact ⟨(hi.ow _ _ hob).1, (hi.ow _ _ hob).2, fun k hk => by rw [hob] at hk; cases hk; simp⟩
 ·intro M' h0 hZ hwm hk hM' n hn own' ho
  simp only [List.mem_singleton] at hn
  subst hn
  have h1 := hM' ⟨id, .obj (cs.set j (.im (.bs u) [])), M.r id, [b]⟩ (by simp)
  refine ⟨b, c, t, by rw [h1.1]; exact hb, by rw [hwm]; exact hw, ?_, ho b (by simp)⟩
  refine AVRepL.set1 (AVRepL.mono h0 hZ (fun k hk' => hk k (hi.uo id cs hM k hk')) hcs) hv ?_
  rw [AVRep]
  exact ⟨hp, [_], [], by simp [valC, U.isAgg], ⟨rfl, _, rfl, Bor.nil u⟩, by simp⟩
 ·intro n hn cs' hR k hk
  simp only [List.mem_singleton] at hn
  subst hn
  simp only [Root.obj.injEq] at hR
  subst hR
  rcases refsL_set hk with h | h
  ·have := hi.uo id cs hM k h; omega
  ·simp [refs] at h
theorem swRel {X : Cx} {w0 : World} {Z : Nat → Prop} {a : Act} {w : World} {b : Bool} {s s' : St} (h1 : b = true → Rel X w0 Z s a w) (h2 : Rel X w0 Z s' a w) : Rel X w0 Z (sw b s s') a w := by
 cases b
 ·exact h2
 ·exact h1 rfl
theorem promC_ok {X : Cx} {w0 : World} {Z : Nat → Prop} {a : Act} {w : World} : ∀ {l : List (Nat × Nat × U)} {s : St}, Rel X w0 Z s a w → Rel X w0 Z (promC l s) a w
 | [], s, h => h
 | (d, j, u) :: r, s, h => by
  simp only [promC]
  refine promC_ok ?_
  split
  ·split
   ·rename_i hl
    split
    ·rename_i w hn
     cases hp : w.plain with
     | true => exact promC2 hp hl (by assumption) h
     | false => exact h
    ·exact swRel (fun hp => promC1 hp hl (by assumption) h) h
    ·exact h
   ·exact h
  ·exact h
end Go.VM

namespace Go.VM
variable [Bor]
theorem posn_some {i : Nat} : ∀ {m : List Nat} {n j : Nat}, posn i m n = some j → n ≤ j ∧ m[j - n]? = some i
 | [], _, _, h => by cases h
 | x :: m, n, j, h => by
  simp only [posn] at h
  by_cases e : i = x
  ·subst e
   rw [sw_true (by simp)] at h
   simp only [Option.some.injEq] at h
   subst h
   simp
  ·rw [sw_false (beq_false e)] at h
   obtain ⟨h1, h2⟩ := posn_some h
   refine ⟨by omega, ?_⟩
   rw [show j - n = (j - (n + 1)) + 1 by omega, List.getElem?_cons_succ]
   exact h2
theorem posn_at {i : Nat} : ∀ {m : List Nat} {n j : Nat}, m.Nodup → m[j]? = some i → posn i m n = some (n + j)
 | [], _, _, _, h => by simp at h
 | x :: m, n, 0, hn, h => by
  simp only [List.getElem?_cons_zero, Option.some.injEq] at h
  subst h
  simp only [posn]
  rw [sw_true (by simp)]; rfl
 | x :: m, n, j + 1, hn, h => by
  simp only [List.getElem?_cons_succ] at h
  simp only [List.nodup_cons] at hn
  have e : i ≠ x := fun e => hn.1 (e ▸ List.mem_of_getElem? h)
  simp only [posn]
  rw [sw_false (beq_false e), posn_at hn.2 h]
  congr 1; omega
theorem any_beqI {i : Nat} {l : List Nat} : l.any (Nat.beq i) = true ↔ i ∈ l := by
 simp only [List.any_eq_true, Nat.beq_eq]
 exact ⟨fun ⟨x, h, e⟩ => e ▸ h, fun h => ⟨i, h, rfl⟩⟩
theorem dd_nodup : ∀ {l seen : List Nat}, (dd l seen).Nodup ∧ ∀ x ∈ dd l seen, x ∉ seen
 | [], _ => ⟨List.nodup_nil, by simp [dd]⟩
 | i :: r, seen => by
  simp only [dd]
  cases h : seen.any (Nat.beq i) with
  | true => exact dd_nodup
  | false =>
   obtain ⟨h1, h2⟩ := dd_nodup (l := r) (seen := i :: seen)
   have hi : i ∉ seen := fun hm => by rw [any_beqI.2 hm] at h; cases h
   refine ⟨List.nodup_cons.2 ⟨fun hm => (h2 i hm) (by simp), h1⟩, fun x hx => ?_⟩
   rcases List.mem_cons.1 hx with rfl | hx
   ·exact hi
   ·exact fun hm => h2 x hx (by simp [hm])
theorem dd_prefix : ∀ {l r seen : List Nat}, l.Nodup → (∀ x ∈ l, x ∉ seen) → dd (l ++ r) seen = l ++ dd r (l.reverse ++ seen)
 | [], r, seen, _, _ => rfl
 | i :: l, r, seen, hn, hs => by
  simp only [List.nodup_cons] at hn
  have h : seen.any (Nat.beq i) = false := by
   cases h : seen.any (Nat.beq i) with
   | false => rfl
   | true => exact absurd (any_beqI.1 h) (hs i (by simp))
  simp only [List.cons_append, dd, h]
  rw [sw_false rfl, dd_prefix hn.2 (fun x hx hm => ?_)]
  ·simp
  ·rcases List.mem_cons.1 hm with rfl | hm
   ·exact hn.1 hx
   ·exact hs x (by simp [hx]) hm
theorem lkT_map {f : Nat → AV} {i : Nat} : ∀ {l : List Nat}, lkT (l.map fun d => (d, f d)) i = f i ∨ lkT (l.map fun d => (d, f d)) i = .dead
 | [] => .inr rfl
 | d :: l => by
  simp only [List.map_cons, lkT]
  by_cases e : d = i
  ·subst e; rw [sw_true (by simp)]; exact .inl rfl
  ·rw [sw_false (beq_false e)]; exact lkT_map
theorem lkH_renH {m : List Nat} {h : Hp} {j : Nat} : ∀ {l : List Nat} {n : Nat}, (∃ i id, j = n + i ∧ l[i]? = some id ∧ lkH (renH m h l n) j = renR m (lkH h id)) ∨ lkH (renH m h l n) j = .dead
 | [], n => .inr rfl
 | x :: l, n => by
  simp only [renH, lkH]
  by_cases e : n = j
  ·subst e
   rw [sw_true (by simp)]
   exact .inl ⟨0, x, rfl, rfl, rfl⟩
  ·rw [sw_false (beq_false e)]
   rcases lkH_renH (m := m) (h := h) (j := j) (l := l) (n := n + 1) with ⟨i, id, h1, h2, h3⟩ | h1
   ·exact .inl ⟨i + 1, id, by omega, by simpa using h2, h3⟩
   ·exact .inr h1
def Mem.re (M : Mem) (m : List Nat) (h : Hp) : Mem := ⟨M.w0, M.Z, lkH (renH m h m 0), fun j => match m[j]? with | some id => M.r id | none => (none, 0), M.w⟩
theorem re_h {M : Mem} {m : List Nat} {h : Hp} {j : Nat} : (∃ id, m[j]? = some id ∧ (M.re m h).h j = renR m (lkH h id)) ∨ (M.re m h).h j = .dead := by
 rcases lkH_renH (m := m) (h := h) (j := j) (l := m) (n := 0) with ⟨i, id, h1, h2, h3⟩ | h1
 ·rw [Nat.zero_add] at h1
  subst h1
  exact .inl ⟨id, h2, h3⟩
 ·exact .inr h1
theorem re_r {M : Mem} {m : List Nat} {h : Hp} {j id : Nat} (hj : m[j]? = some id) : (M.re m h).r j = M.r id := by
 show (match m[j]? with | some id => M.r id | none => (none, 0)) = _
 rw [hj]
theorem re_arr {M : Mem} {m : List Nat} {h : Hp} {j id : Nat} (hj : m[j]? = some id) {e u l g b} (hl : RowIs ((M.re m h).h j) e u l g b) : g = 0 ∧ b = false ∧ ∃ g', lkH h id = .arr e u l g' := by
 rcases re_h (M := M) (m := m) (h := h) (j := j) with ⟨id', h1, h2⟩ | h2
 ·rw [hj] at h1; cases h1
  rw [h2] at hl
  cases hr : lkH h id with
  | dead => rw [hr] at hl; cases hl
  | obj cs => rw [hr] at hl; cases hl
  | imm u x => rw [hr] at hl; cases hl
  | bld T t f0 l0 => rw [hr] at hl; cases hl
  | hol e0 u0 l0 g0 i0 o0 w0 => rw [hr] at hl; cases hl
  | tre u9 t9 => rw [hr] at hl; cases hl
  | mpt T9 l9 => rw [hr] at hl; cases hl
  | arr e' u' l' g' =>
   rw [hr] at hl
   simp only [renR] at hl
   cases hl
   exact ⟨rfl, rfl, g', rfl⟩
 ·rw [h2] at hl; cases hl
theorem re_obj {M : Mem} {m : List Nat} {h : Hp} {j id : Nat} (hj : m[j]? = some id) (hl : (M.re m h).h j ≠ .dead) : lkH h id ≠ .dead := by
 rcases re_h (M := M) (m := m) (h := h) (j := j) with ⟨id', h1, h2⟩ | h2
 ·rw [hj] at h1; cases h1
  intro hd
  rw [hd] at h2
  exact hl h2
 ·exact absurd h2 hl
mutual
theorem ren_rep {M : Mem} {m : List Nat} {h : Hp} (hh : M.h = lkH h) : ∀ {c : AV} {v : Value}, AVRep M c v → AVRep (M.re m h) (ren m c) v
 | .dead, _, _ => by simp only [ren, AVRep]
 | .und, _, h => by simpa only [ren, AVRep] using h
 | .im u x, v, h => by simp only [ren, AVRep] at h ⊢; exact h
 | .nil, _, h => by simpa only [ren, AVRep] using h
 | .nilptr, _, h => by simpa only [ren, AVRep] using h
 | .nilfn, _, h => by simpa only [ren, AVRep] using h
 | .pi u l i o, v, h => by simp only [ren, AVRep] at h ⊢; exact h
 | .hs id [] w g, v, hv => by
  simp only [ren]
  cases hp : posn id m 0 with
  | none => simp only [AVRep]
  | some j =>
   have hj : m[j]? = some id := by simpa using (posn_some hp).2
   simp only [AVRep] at hv ⊢
   intro e u l g' b hl
   obtain ⟨rfl, rfl, g2, hl2⟩ := re_arr hj hl
   obtain ⟨_, h2⟩ := hv e u l g2 _ (rowA (by rw [hh, hl2]))
   refine ⟨.inl trivial, fun _ _ => ?_⟩
   rw [re_r hj]
   exact h2 rfl (fun h => by cases h)
 | .hs id (x :: p) w g, v, _ => by simp only [ren, AVRep]
 | .po id o, v, hv => by
  simp only [ren]
  cases hp : posn id m 0 with
  | none => simp only [AVRep]
  | some j =>
   have hj : m[j]? = some id := by simpa using (posn_some hp).2
   simp only [AVRep] at hv ⊢
   intro hd
   rw [re_r hj]
   exact hv (by rw [hh]; exact re_obj hj hd)
 | .mp _, _, _ => by simp only [ren, AVRep]
 | .tp id, v, hv => by
  simp only [ren]
  cases hp : posn id m 0 with
  | none => simp only [AVRep]
  | some j =>
   have hj : m[j]? = some id := by simpa using (posn_some hp).2
   simp only [AVRep] at hv ⊢
   intro hd
   rw [re_r hj]
   exact hv (by rw [hh]; exact re_obj hj hd)
 | .pe id [] g i o, v, hv => by
  simp only [ren]
  cases hp : posn id m 0 with
  | none => simp only [AVRep]
  | some j =>
   have hj : m[j]? = some id := by simpa using (posn_some hp).2
   simp only [AVRep] at hv ⊢
   intro e u l g' b hl
   obtain ⟨rfl, rfl, g2, hl2⟩ := re_arr hj hl
   obtain ⟨_, h2⟩ := hv e u l g2 _ (rowA (by rw [hh, hl2]))
   refine ⟨.inl trivial, fun _ _ => ?_⟩
   rw [re_r hj]
   exact h2 rfl (fun h => by cases h)
 | .pe id (x :: p) g i o, v, _ => by simp only [ren, AVRep]
 | .fn f cs, v, hv => by
  simp only [ren, AVRep] at hv ⊢
  obtain ⟨vs, rfl, hv⟩ := hv
  exact ⟨vs, rfl, renL_rep hh hv⟩
 | .px f cs k, v, hv => by
  simp only [ren, AVRep] at hv ⊢
  obtain ⟨b, t, ws, rfl, h1, h2, h3⟩ := hv
  exact ⟨b, t, ws, rfl, h1, h2, renL_rep hh h3⟩
 | .agg cs, v, hv => by
  simp only [ren, AVRep] at hv ⊢
  obtain ⟨vs, rfl, hv⟩ := hv
  exact ⟨vs, rfl, renL_rep hh hv⟩
 | .tup cs, v, hv => by
  simp only [ren, AVRep] at hv ⊢
  obtain ⟨vs, rfl, hv⟩ := hv
  exact ⟨vs, rfl, renL_rep hh hv⟩
theorem renL_rep {M : Mem} {m : List Nat} {h : Hp} (hh : M.h = lkH h) : ∀ {cs : List AV} {vs : List Value}, AVRepL M cs vs → AVRepL (M.re m h) (renL m cs) vs
 | [], _, h => by simpa only [renL, AVRepL] using h
 | c :: cs, _, hv => by
  simp only [renL, AVRepL] at hv ⊢
  obtain ⟨v, r, rfl, h1, h2⟩ := hv
  exact ⟨v, r, rfl, ren_rep hh h1, renL_rep hh h2⟩
end
theorem posn_lt {i j : Nat} {m : List Nat} (h : posn i m 0 = some j) : j < m.length := by
 have := (posn_some h).2
 exact (List.getElem?_eq_some_iff.1 this).1
mutual
theorem refs_ren {m : List Nat} {j : Nat} : ∀ {c : AV}, j ∈ refs (ren m c) → j < m.length
 | .dead, h | .und, h | .im .., h | .nil, h | .nilptr, h | .nilfn, h | .pi .., h => by simp [ren, refs] at h
 | .hs id [] w g, h => by
  simp only [ren] at h
  cases hp : posn id m 0 with
  | none => rw [hp] at h; simp [refs] at h
  | some k => rw [hp] at h; simp [refs] at h; subst h; exact posn_lt hp
 | .hs id (_ :: _) w g, h => by simp [ren, refs] at h
 | .po id o, h => by
  simp only [ren] at h
  cases hp : posn id m 0 with
  | none => rw [hp] at h; simp [refs] at h
  | some k => rw [hp] at h; simp [refs] at h; subst h; exact posn_lt hp
 | .mp _, h => by simp [ren, refs] at h
 | .tp id, h => by
  simp only [ren] at h
  cases hp : posn id m 0 with
  | none => rw [hp] at h; simp [refs] at h
  | some k => rw [hp] at h; simp [refs] at h; subst h; exact posn_lt hp
 | .pe id [] g i o, h => by
  simp only [ren] at h
  cases hp : posn id m 0 with
  | none => rw [hp] at h; simp [refs] at h
  | some k => rw [hp] at h; simp [refs] at h; subst h; exact posn_lt hp
 | .pe id (_ :: _) g i o, h => by simp [ren, refs] at h
 | .fn f cs, h => by simp only [ren, refs] at h; exact refsL_ren h
 | .px f cs k, h => by simp only [ren, refs] at h; exact refsL_ren h
 | .agg cs, h => by simp only [ren, refs] at h; exact refsL_ren h
 | .tup cs, h => by simp only [ren, refs] at h; exact refsL_ren h
theorem refsL_ren {m : List Nat} {j : Nat} : ∀ {cs : List AV}, j ∈ refsL (renL m cs) → j < m.length
 | [], h => by simp [renL, refsL] at h
 | c :: cs, h => by
  simp only [renL, refsL, List.mem_append] at h
  rcases h with h | h
  ·exact refs_ren h
  ·exact refsL_ren h
end
def Mem.wk (M : Mem) (np : Nat) : Mem := ⟨M.w0, M.Z, fun i => weakR np i (M.h i), M.r, M.w⟩
theorem lkH_weak {np i : Nat} : ∀ {h : Hp}, lkH (weakH np h) i = weakR np i (lkH h i)
 | [] => rfl
 | (j, r) :: h => by
  simp only [weakH, lkH]
  by_cases e : j = i
  ·subst e; rw [sw_true (by simp), sw_true (by simp)]
  ·rw [sw_false (beq_false e), sw_false (beq_false e)]; exact lkH_weak
theorem atP_weak {e e2 : Bool} {u : U} {l : List u.El} {p : List (Nat × Nat)} {e' : Bool} {u' : U} {l' : List u'.El} (h : atP e u l p = some ⟨e', u', l'⟩) : ∃ e'', atP e2 u l p = some ⟨e'', u', l'⟩ := by
 cases p with
 | nil =>
  simp only [atP, Option.some.injEq] at h
  cases h
  exact ⟨_, rfl⟩
 | cons x p => exact ⟨e', by simpa only [atP] using h⟩
theorem weak_arr {M : Mem} {np id : Nat} {e u l g b} (h : RowIs ((M.wk np).h id) e u l g b) : ∃ e', RowIs (M.h id) e' u l g b := by
 simp only [Mem.wk] at h
 cases hr : M.h id with
 | arr e' u' l' g' => rw [hr] at h; simp only [weakR] at h; cases h; exact ⟨_, .arr⟩
 | hol e0 u0 l0 g0 i0 o0 w0 => rw [hr] at h; exact ⟨e, h⟩
 | tre u9 t9 => rw [hr] at h; exact ⟨e, h⟩
 | mpt T9 l9 => rw [hr] at h; exact ⟨e, h⟩
 | dead => rw [hr] at h; cases h
 | obj cs => rw [hr] at h; cases h
 | imm u x => rw [hr] at h; cases h
 | bld T t f0 l0 => rw [hr] at h; cases h
theorem weak_dead {M : Mem} {np id : Nat} (h : (M.wk np).h id ≠ .dead) : M.h id ≠ .dead := fun e => h (by simp only [Mem.wk, e]; rfl)
mutual
theorem weak_rep {M : Mem} {np : Nat} : ∀ {c : AV} {v : Value}, AVRep M c v → AVRep (M.wk np) c v
 | .dead, _, _ => by simp only [AVRep]
 | .und, _, h => by simpa only [AVRep] using h
 | .im u x, v, h => by simp only [AVRep] at h ⊢; exact h
 | .nil, _, h => by simpa only [AVRep] using h
 | .nilptr, _, h => by simpa only [AVRep] using h
 | .nilfn, _, h => by simpa only [AVRep] using h
 | .pi u l i o, v, h => by simp only [AVRep] at h ⊢; exact h
 | .hs id p w g, v, hv => by
  simp only [AVRep] at hv ⊢
  intro e u l g' b hl
  obtain ⟨e0, h0⟩ := weak_arr hl
  obtain ⟨h1, h2⟩ := hv e0 u l g' b h0
  refine ⟨h1, fun hg hp => ?_⟩
  obtain ⟨e', u', l', v', h3, h4, h5⟩ := h2 hg hp
  obtain ⟨e'', h3⟩ := atP_weak (e2 := e) h3
  exact ⟨e'', u', l', v', h3, h4, h5⟩
 | .mp id, v, hv => by
  simp only [AVRep] at hv ⊢
  intro hd
  exact hv (weak_dead hd)
 | .tp id, v, hv => by
  simp only [AVRep] at hv ⊢
  intro hd
  exact hv (weak_dead hd)
 | .po id o, v, hv => by
  simp only [AVRep] at hv ⊢
  intro hd
  exact hv (weak_dead hd)
 | .pe id p g i o, v, hv => by
  simp only [AVRep] at hv ⊢
  intro e u l g' b hl
  obtain ⟨e0, h0⟩ := weak_arr hl
  obtain ⟨h1, h2⟩ := hv e0 u l g' b h0
  refine ⟨h1, fun hg hp => ?_⟩
  obtain ⟨e', u', l', a, cap, h3, h4, h5⟩ := h2 hg hp
  obtain ⟨e'', h3⟩ := atP_weak (e2 := e) h3
  exact ⟨e'', u', l', a, cap, h3, h4, h5⟩
 | .fn f cs, v, hv => by
  simp only [AVRep] at hv ⊢
  obtain ⟨vs, rfl, hv⟩ := hv
  exact ⟨vs, rfl, weakL_rep hv⟩
 | .px f cs k, v, hv => by
  simp only [AVRep] at hv ⊢
  obtain ⟨b, t, ws, rfl, h1, h2, h3⟩ := hv
  exact ⟨b, t, ws, rfl, h1, h2, weakL_rep h3⟩
 | .agg cs, v, hv => by
  simp only [AVRep] at hv ⊢
  obtain ⟨vs, rfl, hv⟩ := hv
  exact ⟨vs, rfl, weakL_rep hv⟩
 | .tup cs, v, hv => by
  simp only [AVRep] at hv ⊢
  obtain ⟨vs, rfl, hv⟩ := hv
  exact ⟨vs, rfl, weakL_rep hv⟩
theorem weakL_rep {M : Mem} {np : Nat} : ∀ {cs : List AV} {vs : List Value}, AVRepL M cs vs → AVRepL (M.wk np) cs vs
 | [], _, h => by simpa only [AVRepL] using h
 | c :: cs, _, hv => by
  simp only [AVRepL] at hv ⊢
  obtain ⟨v, r, rfl, h1, h2⟩ := hv
  exact ⟨v, r, rfl, weak_rep h1, weakL_rep h2⟩
end
theorem SlRep.weaker {w : World} {α : Type} {o e b : Bool} {sz : Nat} {R : α → List Value → List Nat → Prop} {l : List α} {v : Value} {F : List Nat} (h : SlRep w o e sz R l v F) : SlRep w o (e && b) sz R l v F := by
 rcases h with h | ⟨a, cap, c, t, fz, p, m, q, G, h1, h2, h3, h4⟩
 ·exact .inl h
 ·exact .inr ⟨a, cap, c, t, fz, p, m, q, G, h1, h2, fun he => h3 (by simp only [Bool.and_eq_true] at he; exact he.1), h4⟩
theorem weak_ok {X : Cx} {w0 : World} {Z : Nat → Prop} {a : Act} {w : World} {s : St} (hrel : Rel X w0 Z s a w) : Rel X w0 Z ⟨s.t, weakH X.np s.h, s.c⟩ a w := by
 obtain ⟨M, own, rfl, rfl, rfl, hh, hi⟩ := hrel
 refine ⟨M.wk X.np, own, rfl, rfl, rfl, ?_, ?_⟩
 ·funext i
  simp only [Mem.wk, hh, lkH_weak]
 refine { hi with tm := fun i => weak_rep (hi.tm i), rt := fun id => ?_, uo := fun id cs h => ?_, ud := fun id h => hi.ud id (weak_dead h), pl := fun j hj e u l g b hl => ?_ }
 ·have h := hi.rt id
  simp only [Mem.wk]
  cases hr : M.h id with
  | dead => trivial
  | obj cs =>
   rw [hr] at h
   obtain ⟨b, c, t, h2, h3, h4, h5⟩ := h
   exact ⟨b, c, t, h2, h3, weakL_rep h4, h5⟩
  | imm u x => rw [hr] at h; exact h
  | hol e0 u0 l0 g0 i0 o0 w0 => rw [hr] at h; exact h
  | tre u9 t9 => rw [hr] at h; exact h
  | mpt T9 l9 => rw [hr] at h; exact h
  | bld T t f0 l0 =>
   rw [hr] at h
   obtain ⟨b, F, h2, ⟨p, v, k1, k2, k3, k4, k5, _⟩, h4, h5⟩ := h
   exact ⟨b, F, h2, ⟨p, v, k1, k2, k3, k4, k5, fun h => by cases h⟩, h4, h5⟩
  | arr e u l g =>
   rw [hr] at h
   obtain ⟨hp, F, h2, h3, h4⟩ := h
   exact ⟨hp, F, h2.weaker, h3, h4⟩
 ·refine hi.uo id cs ?_
  simp only [Mem.wk] at h
  cases hr : M.h id with
  | obj cs' => rw [hr] at h; exact h
  | dead => rw [hr] at h; cases h
  | arr e u l g => rw [hr] at h; cases h
  | imm u x => rw [hr] at h; cases h
  | hol e0 u0 l0 g0 i0 o0 w0 => rw [hr] at h; cases h
  | tre u9 t9 => rw [hr] at h; cases h
  | mpt T9 l9 => rw [hr] at h; cases h
  | bld T t f0 l0 => rw [hr] at h; cases h
 ·cases hr : M.h j with
  | obj cs' => simp only [Mem.wk, hr, weakR] at hl; cases hl
  | dead => simp only [Mem.wk, hr, weakR] at hl; cases hl
  | imm u x => simp only [Mem.wk, hr, weakR] at hl; cases hl
  | bld T t f0 l0 => simp only [Mem.wk, hr, weakR] at hl; cases hl
  | tre u9 t9 => simp only [Mem.wk, hr, weakR] at hl; cases hl
  | mpt T9 l9 => simp only [Mem.wk, hr, weakR] at hl; cases hl
  | hol e0 u0 l0 g0 i0 o0 w0 =>
   simp only [Mem.wk, hr, weakR] at hl
   cases hl
   exact hi.pl j hj _ _ _ _ _ (rowH hr)
  | arr e' u' l' g' =>
  have h0 := hi.pl j hj e' u' l' g' false (rowA hr)
  have hb : Nat.ble X.np j = false := by
   cases hb : Nat.ble X.np j with
   | false => rfl
   | true => have := Nat.le_of_ble_eq_true hb; omega
  simp only [Mem.wk, hr, weakR, hb, Bool.not_false, Bool.and_true] at hl
  cases hl
  exact h0
theorem canon0_ok {X : Cx} {w0 : World} {Z : Nat → Prop} {a : Act} {w : World} {s : St} {k : Keep} (hk : k.weak = false) (hrel : Rel X w0 Z s a w) : Rel X w0 Z (canon X.np k s) a w := by
 have h1 := promC_ok (l := k.cells) (promT_ok (l := k.nils) hrel)
 unfold canon
 generalize promC k.cells (promT k.nils s) = s' at h1 ⊢
 obtain ⟨M, own, rfl, rfl, rfl, hh, hi⟩ := h1
 dsimp only
 rw [sw_false hk]
 generalize hm : dd (List.range X.np ++ clos s'.h 3 (List.range X.np ++ refsL (k.slots.map (lkT s'.t)))) [] = m
 have hnd : m.Nodup := by rw [← hm]; exact dd_nodup.1
 have hpre : ∀ j < X.np, m[j]? = some j := by
  intro j hj
  rw [← hm, dd_prefix List.nodup_range (by simp), List.getElem?_append_left (by simpa using hj)]
  simp [hj]
 refine ⟨M.re m s'.h, fun b => (own b).bind fun id => posn id m 0, rfl, rfl, rfl, rfl, ?_⟩
 have lt_m : ∀ {j id}, m[j]? = some id → j < m.length := fun h => (List.getElem?_eq_some_iff.1 h).1
 refine { tm := ?_, tn := hi.tn, df := hi.df, rt := ?_, ow := ?_, zf := hi.zf, zb := hi.zb, sz := hi.sz, os := hi.os, tp := hi.tp, ot := hi.ot, ut := ?_, uo := ?_, ud := ?_, pin := ?_, pl := ?_, pu := ?_, bo := hi.bo, bz := hi.bz, gl := hi.gl, gz := hi.gz }
 ·intro i
  rcases lkT_map (f := fun d => ren m (lkT s'.t d)) (i := i) (l := k.slots) with h | h
  ·rw [h]; exact ren_rep hh (hi.tm i)
  ·rw [h]; simp only [AVRep]
 ·intro j
  rcases re_h (M := M) (m := m) (h := s'.h) (j := j) with ⟨id, hj, h⟩ | h
  ·rw [h]
   have hrt := hi.rt id
   rw [hh] at hrt
   cases hr : lkH s'.h id with
   | dead => trivial
   | obj cs =>
    rw [hr] at hrt
    obtain ⟨b, c, t, h2, h3, h4, h5⟩ := hrt
    refine ⟨b, c, t, by rw [re_r hj]; exact h2, h3, renL_rep hh h4, ?_⟩
    simp only [h5, Option.bind_some]
    rw [posn_at hnd hj, Nat.zero_add]
   | imm u x =>
    rw [hr] at hrt
    obtain ⟨ad, h2, h3⟩ := hrt
    exact ⟨ad, by rw [re_r hj]; exact h2, h3⟩
   | hol e0 u0 l0 g0 i0 o0 w0 => trivial
   | mpt T9 l9 => trivial
   | tre u9 t9 =>
    rw [hr] at hrt
    obtain ⟨hp, hf, F, h2, h3, h4⟩ := hrt
    refine ⟨hp, hf, F, by rw [re_r hj]; exact h2, h3, fun b hb => ?_⟩
    simp only [h4 b hb, Option.bind_some]
    rw [posn_at hnd hj, Nat.zero_add]
   | bld T t f l =>
    rw [hr] at hrt
    obtain ⟨b, F, h2, h3, h4, h5⟩ := hrt
    refine ⟨b, F, by rw [re_r hj]; exact h2, h3, ?_, fun x hx => ?_⟩
    ·simp only [h4, Option.bind_some]
     rw [posn_at hnd hj, Nat.zero_add]
    ·simp only [h5 x hx, Option.bind_some]
     rw [posn_at hnd hj, Nat.zero_add]
   | arr e u l g =>
    rw [hr] at hrt
    obtain ⟨hp, F, h2, h3, h4⟩ := hrt
    refine ⟨hp, F, by rw [re_r hj]; exact h2, h3, fun b hb => ?_⟩
    simp only [h4 b hb, Option.bind_some]
    rw [posn_at hnd hj, Nat.zero_add]
  ·rw [h]; trivial
 ·intro b j hb
  cases ho : own b with
  | none => simp only [ho] at hb; cases hb
  | some id => exact hi.ow b id ho
 ·intro i j hj
  rcases lkT_map (f := fun d => ren m (lkT s'.t d)) (i := i) (l := k.slots) with h | h
  ·rw [h] at hj; exact refs_ren hj
  ·rw [h] at hj; simp [refs] at hj
 ·intro j cs hc i hi'
  rcases re_h (M := M) (m := m) (h := s'.h) (j := j) with ⟨id, hj, h⟩ | h
  ·rw [hc] at h
   cases hr : lkH s'.h id with
   | dead => rw [hr] at h; cases h
   | arr e u l g => rw [hr] at h; cases h
   | imm u x => rw [hr] at h; cases h
   | hol e0 u0 l0 g0 i0 o0 w0 => rw [hr] at h; cases h
   | tre u9 t9 => rw [hr] at h; cases h
   | mpt T9 l9 => rw [hr] at h; cases h
   | bld T t f0 l0 => rw [hr] at h; cases h
   | obj cs' =>
    rw [hr] at h
    simp only [renR, Root.obj.injEq] at h
    subst h
    exact refsL_ren hi'
  ·rw [hc] at h; cases h
 ·intro j hd
  rcases re_h (M := M) (m := m) (h := s'.h) (j := j) with ⟨id, hj, h⟩ | h
  ·exact lt_m hj
  ·exact absurd h hd
 ·intro j hj
  rw [re_r (hpre j hj)]
  exact hi.pin j hj
 ·intro j hj e u l g b hl
  obtain ⟨_, rfl, g', h⟩ := re_arr (hpre j hj) hl
  exact hi.pl j hj e u l g' _ (rowA (by rw [hh]; exact h))
 ·intro j hj
  exact lt_m (hpre j hj)
theorem canon_ok {X : Cx} {w0 : World} {Z : Nat → Prop} {a : Act} {w : World} {s : St} {k : Keep} (hrel : Rel X w0 Z s a w) : Rel X w0 Z (canon X.np k s) a w := by
 cases hk : k.weak with
 | false => exact canon0_ok hk hrel
 | true =>
  have h := weak_ok (canon0_ok (k := { k with weak := false }) rfl hrel)
  simp only [canon, sw] at h ⊢
  rw [hk]
  exact h
end Go.VM

namespace Go.VM
variable [Bor]
theorem least {J : Nat → Prop} (h : ∃ k, J k) : ∃ k, J k ∧ ∀ j, J j → k ≤ j := by
 obtain ⟨k, hk⟩ := h
 induction k using Nat.strongRecOn with
 | _ k ih =>
  by_cases h : ∃ j, j < k ∧ J j
  ·obtain ⟨j, h1, h2⟩ := h
   exact ih j h1 h2
  ·exact ⟨k, hk, fun j hj => Nat.le_of_not_lt fun hlt => h ⟨j, hlt, hj⟩⟩
def dstB (nt : Nat) : Code → Bool
 | .region _ ops _ => ops.toList.all fun o => match o.dst with | some d => Nat.blt d nt | none => true
 | .seq a b | .cond _ a b => dstB nt a && dstB nt b
 | .block _ b | .loop b => dstB nt b
 | _ => true
theorem Inv.chg {X X' : Cx} (h1 : X'.nt = X.nt) (h2 : X'.np = X.np) (h3 : X'.r0 = X.r0) (h5 : X'.n0 = X.n0) (h4 : X'.E.gl = X.E.gl) {M : Mem} {t used own a} (hi : Inv X M t used own a) : Inv X' M t used own a :=
 { hi with tn := by rw [h1]; exact hi.tn, pin := by rw [h2, h3]; exact hi.pin, pl := by rw [h2, h5]; exact hi.pl, pu := by rw [h2]; exact hi.pu, gl := by rw [h4]; exact hi.gl, gz := by rw [h4]; exact hi.gz, df := hi.df, rt := hi.rt, ow := hi.ow }
theorem Rel.chg {X X' : Cx} (h1 : X'.nt = X.nt) (h2 : X'.np = X.np) (h3 : X'.r0 = X.r0) (h5 : X'.n0 = X.n0) (h4 : X'.E.gl = X.E.gl) {w0 : World} {Z : Nat → Prop} {s a w} (h : Rel X w0 Z s a w) : Rel X' w0 Z s a w := by
 obtain ⟨M, own, e1, e2, e3, e4, hi⟩ := h
 exact ⟨M, own, e1, e2, e3, e4, hi.chg h1 h2 h3 h5 h4⟩
def RelP (X : Cx) (w0 : World) (Z : Nat → Prop) (h : Hp) (a : Act) (w : World) : Prop := ∃ M t2 used own, M.w0 = w0 ∧ M.Z = Z ∧ M.w = w ∧ M.h = lkH h ∧ Inv X M t2 used own a
theorem wanted_none {o : Oper} {f} (h : o.guard = none) : Region.wanted o f = true := by unfold Region.wanted; rw [h]
theorem panR_ok {X : Cx} (hE : EnOK X) {id : Nat} {ops : Array Oper} {draw : Bool} {pt : Nat} {Q : Exit → Act → World → Prop} (hp : panR X.E ops draw = some pt) (hd : ∀ (j : Nat) (o : Oper), ops[j]? = some o → ∀ d, o.dst = some d → d < X.nt)
  {M : Mem} {t : List (Nat × AV)} {c : Nat} {own a} (hi : Inv X M t (· < c) own a)
  (hQ : ∀ (a' : Act) (M' : Mem) t2 used own', M'.w0 = M.w0 → M'.Z = M.Z → M'.h = M.h → Inv X M' t2 used own' a' → Q (.panic (pchain pt)) a' M'.w) : (Code.region id ops draw).wp X.P Q a M.w := by
 unfold panR at hp
 split at hp
 case h_2 => cases hp
 case h_1 oa ob oc hops =>
 split at hp
 case h_2 => cases hp
 case h_1 ty d ty' d' e e' p1 p2 p3 p4 p5 p6 p7 p8 =>
 split at hp
 case h_2 => cases hp
 case h_1 hu =>
 obtain ⟨hb, hp⟩ := sw_some hp
 simp only [Option.some.injEq] at hp
 subst hp
 simp only [Bool.and_eq_true, Nat.beq_eq] at hb
 obtain ⟨⟨rfl, rfl⟩, rfl⟩ := hb
 have ht := hE.ty _ _ hu
 have hsz : ops.size = 3 := by rw [← Array.length_toList, hops]; rfl
 have h0 : ops[0]? = some oa := by rw [← Array.getElem?_toList, hops]; rfl
 have h1 : ops[1]? = some ob := by rw [← Array.getElem?_toList, hops]; rfl
 have h2 : ops[2]? = some oc := by rw [← Array.getElem?_toList, hops]; rfl
 obtain ⟨v, up, hk, hop⟩ := buildStruct_ok (X := X) (base := c) (h := []) (ps := #[]) (vs := []) (cs := []) (K := fun v q => some (v, q)) (y := (AV.agg [], [])) ht (.inr (.inl rfl)) rfl rfl rfl
 simp only [Option.some.injEq, Prod.mk.injEq] at hk
 obtain ⟨rfl, rfl⟩ := hk
 refine wp_region ?_
 rw [hsz, show List.range 3 = [0, 1, 2] from rfl, wpOps_cons]
 unfold wpOp
 rw [h0]
 simp only [wanted_none p3, if_true]
 left
 refine hop oa M t (· < c) own a _ Q p1 (hd 0 oa h0) rfl (fun id h => absurd rfl h) hi (fun j _ h => by omega) fun M1 own1 a1 e1 e2 e3 e4 => ?_
 rw [wpOps_cons]
 unfold wpOp
 rw [h1]
 simp only [wanted_none p6, if_true]
 left
 have hv : a1.eval (.tmp d) = .agg #[] := by
  have := e4.tm d
  rw [p2, lkT_put, if_pos rfl] at this
  simp only [AVRep, AVRepL] at this
  obtain ⟨vs, hv, rfl⟩ := this
  exact hv
 have hc : X.P.concrete ty = true := by
  obtain ⟨d', hd', fs, hfs, _⟩ := ht.d
  subst hfs
  simp [Program.concrete, hd']
 have hrun : (execOp a1.eval ob).run X.P M1.w = .ok (.value (.iface ty (.agg #[]))) M1.w := by
  simp only [execOp, p4, hv]
  simp [run_makeInterface _ _ _ hc]
 unfold Oper.wp
 rw [hrun, Oper.upon_value]
 have e5 := Inv.put e4 (dst := ob.dst) (c := .dead) (v := .iface ty (.agg #[])) (hd 1 ob h1) (by simp only [AVRep]) (by simp [refs])
 rw [wpOps_cons]
 unfold wpOp
 rw [h2]
 simp only [wanted_none p8, if_true]
 left
 have hv2 : (a1.put ob.dst (.iface ty (.agg #[]))).eval (.tmp e) = .iface ty (.agg #[]) := by
  have hlt : e < X.nt := hd 1 ob h1 e p5
  rw [← e4.tn] at hlt
  rw [p5]
  simp [Act.put, Act.eval, Array.getD_eq_getD_getElem?, hlt]
 have hrun2 : (execOp (a1.put ob.dst (.iface ty (.agg #[]))).eval oc).run X.P M1.w = .halt (.panic (.iface ty (.agg #[]))) M1.w := by
  simp only [execOp, p7, hv2]
  simp only [Sem.run_bind, Sem.run_map]
  rfl
 unfold Oper.wp
 rw [hrun2, Oper.upon_panic]
 exact hQ _ M1 _ _ _ e1 e2 (by rw [e3]; rfl) e5
section
variable {ρ : Type} (P : Program) (E : Nat → En) (nt np : Nat) (r0 : Nat → Option Addr × Nat) (n0 : Nat → Bool × U × Nat) (ks : List (Nat × Keep)) (fin : St → Option ρ) (c : Code)
abbrev cx (m : Nat) : Cx := ⟨P, E m, nt, np, r0, n0⟩
abbrev rn (m : Nat) : Nat → St → Option ρ := run E np ks fin c m
inductive Sub : Code → Nat → (Nat → St → Option ρ) → (Nat → Nat → St → Option ρ) → Prop
 | top : Sub c 1 (fun _ => fin) (fun _ _ _ => none)
 | seqL {a b p N B} : Sub (.seq a b) p N B → Sub a (p + 1) (fun m => cutA np ks (rn E np ks fin c m) p fun s => ex (E m) np ks (rn E np ks fin c m) fin b (p + 1 + szC a) s (N m) (B m)) B
 | seqR {a b p N B} : Sub (.seq a b) p N B → Sub b (p + 1 + szC a) N B
 | condL {x a b p N B} : Sub (.cond x a b) p N B → Sub a (p + 1) N B
 | condR {x a b p N B} : Sub (.cond x a b) p N B → Sub b (p + 1 + szC a) N B
 | blk {id a p N B} : Sub (.block id a) p N B → Sub a (p + 1) (fun m => cutA np ks (rn E np ks fin c m) p (N m)) (fun m j s => sw (Nat.beq j id) (cutA np ks (rn E np ks fin c m) p (N m) s) (B m j s))
 | lp {a p N B} : Sub (.loop a) p N B → Sub a (p + 1) (fun m => cutA np ks (rn E np ks fin c m) p fun _ => none) B
variable {P E nt np r0 n0 ks fin c}
theorem Sub.pos {c0 p N B} (h : Sub E np ks fin c c0 p N B) : 1 ≤ p := by
 induction h <;> omega
theorem szC_pos (c0 : Code) : 1 ≤ szC c0 := by cases c0 <;> simp [szC]
theorem Sub.rs_eq {c0 p N B} (h : Sub E np ks fin c c0 p N B) : ∀ {m q s}, p ≤ q → q < p + szC c0 →
  rs (E m) np ks (rn E np ks fin c m) fin q c 1 s fin (fun _ _ => none) = rs (E m) np ks (rn E np ks fin c m) fin q c0 p s (N m) (B m) := by
 induction h with
 | top => intro m q s _ _; rfl
 | @seqL a b p N B h ih =>
  intro m q s h1 h2
  rw [ih (by omega) (by simp only [szC]; omega)]
  rw [rs, sw_false (beq_false (by omega)), sw_true (by simp [Nat.blt_eq]; omega)]
 | @seqR a b p N B h ih =>
  intro m q s h1 h2
  rw [ih (by omega) (by simp only [szC]; omega)]
  rw [rs, sw_false (beq_false (by omega)), sw_false (by cases hb : Nat.blt q (p + 1 + szC a) with | false => rfl | true => simp [Nat.blt_eq] at hb; omega)]
 | @condL x a b p N B h ih =>
  intro m q s h1 h2
  rw [ih (by omega) (by simp only [szC]; omega)]
  rw [rs, sw_true (by simp [Nat.blt_eq]; omega)]
 | @condR x a b p N B h ih =>
  intro m q s h1 h2
  rw [ih (by omega) (by simp only [szC]; omega)]
  rw [rs, sw_false (by cases hb : Nat.blt q (p + 1 + szC a) with | false => rfl | true => simp [Nat.blt_eq] at hb; omega)]
 | @blk id a p N B h ih =>
  intro m q s h1 h2
  rw [ih (by omega) (by simp only [szC]; omega)]
  rw [rs, sw_false (beq_false (by omega))]
 | @lp a p N B h ih =>
  intro m q s h1 h2
  rw [ih (by omega) (by simp only [szC]; omega)]
  rw [rs, sw_false (beq_false (by omega))]
variable (P E nt np r0 n0 ks fin c)
def Post (w0 : World) (Z : Nat → Prop) (y : ρ) (m0 : Nat) (N : Nat → St → Option ρ) (B : Nat → Nat → St → Option ρ) : Exit → Act → World → Prop
 | .normal, a, w => ∃ m s, m ≤ m0 ∧ Rel (cx P E nt np r0 n0 0) w0 Z s a w ∧ N m s = some y
 | .exit id, a, w => ∃ m s, m ≤ m0 ∧ Rel (cx P E nt np r0 n0 0) w0 Z s a w ∧ B m id s = some y
 | .ret, a, w => ∃ s, Rel (cx P E nt np r0 n0 0) w0 Z s a w ∧ fin s = some y
 | .panic ch, a, w => ∃ pt h, ch = pchain pt ∧ RelP (cx P E nt np r0 n0 0) w0 Z h a w ∧ fin (panSt pt h) = some y
 | _, _, _ => False
variable {P E nt np r0 n0 ks fin c}
variable {w0 : World} {Z : Nat → Prop} {y : ρ}
theorem Post.up {m m' : Nat} (hm : m ≤ m') {N B} {e a w} (h : Post P E nt np r0 n0 fin w0 Z y m N B e a w) : Post P E nt np r0 n0 fin w0 Z y m' N B e a w := by
 cases e <;> simp only [Post] at h ⊢
 ·obtain ⟨k, s, h1, h2⟩ := h; exact ⟨k, s, by omega, h2⟩
 ·obtain ⟨k, s, h1, h2⟩ := h; exact ⟨k, s, by omega, h2⟩
 ·exact h
 ·exact h
theorem cut_some {m p : Nat} (hp : 1 ≤ p) {N : St → Option ρ} {s a w} (h : cutA np ks (rn E np ks fin c m) p N s = some y) (hr : Rel (cx P E nt np r0 n0 0) w0 Z s a w) :
  N s = some y ∨ ∃ m2 s', m = m2 + 1 ∧ lkN ks p ≠ none ∧ Rel (cx P E nt np r0 n0 0) w0 Z s' a w ∧ rs (E m2) np ks (rn E np ks fin c m2) fin p c 1 s' fin (fun _ _ => none) = some y := by
 unfold cutA at h
 split at h
 ·rename_i k hk
  right
  cases m with
  | zero => cases h
  | succ m2 =>
   refine ⟨m2, _, rfl, by rw [hk]; simp, canon_ok (k := k) hr, ?_⟩
   simp only [rn, run, seg] at h
   split at h
   ·omega
   ·exact h
 ·exact .inl h
theorem ex_ok {Mx : Nat} (hgl : ∀ m, (E m).gl = (E 0).gl) (hE : ∀ m < Mx, EnOK (cx P E nt np r0 n0 m)) : ∀ (c0 : Code) {p N B}, Sub E np ks fin c c0 p N B → dstB nt c0 = true → ∀ m < Mx, ∀ s a w, Rel (cx P E nt np r0 n0 0) w0 Z s a w →
  ex (E m) np ks (rn E np ks fin c m) fin c0 p s (N m) (B m) = some y → c0.wp P (Post P E nt np r0 n0 fin w0 Z y m N B) a w := by
 intro c0
 induction c0 with
 | skip =>
  intro p N B hs hd m hm s a w hr hy
  exact wp_skip ⟨m, s, Nat.le_refl _, hr, hy⟩
 | region id ops draw =>
  intro p N B hs hd m hm s a w hr hy
  simp only [ex] at hy
  have hd' : ∀ (j : Nat) (o : Oper), ops[j]? = some o → ∀ d, o.dst = some d → d < nt := by
   intro j o ho d hod
   simp only [dstB, List.all_eq_true] at hd
   have := hd o (List.mem_of_getElem? (by simpa using ho))
   rw [hod] at this
   simpa [Nat.blt_eq] using this
  split at hy
  ·rename_i pt hpr
   obtain ⟨M, own, rfl, rfl, rfl, hh, hi⟩ := hr
   refine panR_ok (hE m hm) hpr hd' (Inv.chg (X := cx P E nt np r0 n0 0) (X' := cx P E nt np r0 n0 m) rfl rfl rfl rfl (hgl m) hi) fun a' M' t2 used own' h1 h2 h3 h4 => ?_
   exact ⟨pt, s.h, rfl, ⟨M', t2, used, own', h1, h2, rfl, by rw [h3, hh], Inv.chg (X := cx P E nt np r0 n0 m) (X' := cx P E nt np r0 n0 0) rfl rfl rfl rfl (hgl m).symm h4⟩, hy⟩
  rcases region_ok (X := cx P E nt np r0 n0 m) (Q := Post P E nt np r0 n0 fin w0 Z y m N B) (hE m hm) (id := id) hd' hy with ⟨t', h', hK, hwp⟩ | ⟨pt, h', hP, hwp⟩
  rotate_left
  ·obtain ⟨M, own, rfl, rfl, rfl, hh, hi⟩ := hr
   refine hwp M own a (Inv.chg (X := cx P E nt np r0 n0 0) (X' := cx P E nt np r0 n0 m) rfl rfl rfl rfl (hgl m) hi) hh fun M' t2 used own' a' h1 h2 h3 h4 => ?_
   exact ⟨pt, h', rfl, ⟨M', t2, used, own', h1, h2, rfl, h3, Inv.chg (X := cx P E nt np r0 n0 m) (X' := cx P E nt np r0 n0 0) rfl rfl rfl rfl (hgl m).symm h4⟩, hP⟩
  obtain ⟨M, own, rfl, rfl, rfl, hh, hi⟩ := hr
  refine hwp M own a (Inv.chg (X := cx P E nt np r0 n0 0) (X' := cx P E nt np r0 n0 m) rfl rfl rfl rfl (hgl m) hi) hh fun M' own' a' h1 h2 h3 h4 => ?_
  exact ⟨m, _, Nat.le_refl _, ⟨M', own', h1, h2, rfl, h3, Inv.chg (X := cx P E nt np r0 n0 m) (X' := cx P E nt np r0 n0 0) rfl rfl rfl rfl (hgl m).symm h4⟩, hK⟩
 | seq c1 c2 ih1 ih2 =>
  intro p N B hs hd m hm s a w hr hy
  simp only [dstB, Bool.and_eq_true] at hd
  simp only [ex] at hy
  refine wp_seq (wp_mono (ih1 hs.seqL hd.1 m hm s a w hr hy) ?_)
  intro e a' w' hp
  cases e with
  | normal =>
   obtain ⟨m1, s1, h1, h2, h3⟩ := hp
   rcases cut_some hs.pos h3 h2 with h4 | ⟨m2, s', rfl, _, h5, h6⟩
   ·exact wp_mono (ih2 hs.seqR hd.2 m1 (by omega) s1 a' w' h2 h4) fun _ _ _ h => h.up h1
   ·rw [hs.rs_eq (Nat.le_refl _) (by have := szC_pos (.seq c1 c2); omega), rs, sw_true (by simp)] at h6
    exact wp_mono (ih2 hs.seqR hd.2 m2 (by omega) s' a' w' h5 h6) fun _ _ _ h => h.up (by omega)
  | exit id => exact hp
  | ret => exact hp
  | goto l => exact hp
  | panic ch => exact hp
  | outgrown => exact hp
 | cond x c1 c2 ih1 ih2 =>
  intro p N B hs hd m hm s a w hr hy
  simp only [dstB, Bool.and_eq_true] at hd
  simp only [ex] at hy
  split at hy
  ·rename_i b hb
   have hev : a.eval x = .bool b := by
    obtain ⟨M, own, rfl, rfl, rfl, hh, hi⟩ := hr
    have h1 := ((Inv.chg (X := cx P E nt np r0 n0 0) (X' := cx P E nt np r0 n0 m) rfl rfl rfl rfl (hgl m) hi).ev x).1
    rw [hb] at h1
    exact im_bool h1
   cases b with
   | true => exact wp_cond hev (by rw [if_pos rfl]; exact ih1 hs.condL hd.1 m hm s a w hr hy)
   | false => exact wp_cond hev (by rw [if_neg (by simp)]; exact ih2 hs.condR hd.2 m hm s a w hr hy)
  ·cases hy
 | block id c1 ih =>
  intro p N B hs hd m hm s a w hr hy
  simp only [dstB] at hd
  simp only [ex] at hy
  have norm : ∀ m1 s1 a' w', m1 ≤ m → Rel (cx P E nt np r0 n0 0) w0 Z s1 a' w' → cutA np ks (rn E np ks fin c m1) p (N m1) s1 = some y → Post P E nt np r0 n0 fin w0 Z y m N B .normal a' w' := by
   intro m1 s1 a' w' h1 h2 h3
   rcases cut_some hs.pos h3 h2 with h4 | ⟨m2, s', rfl, _, h5, h6⟩
   ·exact ⟨m1, s1, h1, h2, h4⟩
   ·rw [hs.rs_eq (Nat.le_refl _) (by have := szC_pos (.block id c1); omega), rs, sw_true (by simp)] at h6
    exact ⟨m2, s', by omega, h5, h6⟩
  refine wp_block (wp_mono (ih hs.blk hd m hm s a w hr hy) ?_)
  intro e a' w' hp
  cases e with
  | normal =>
   obtain ⟨m1, s1, h1, h2, h3⟩ := hp
   exact norm m1 s1 a' w' h1 h2 h3
  | exit id' =>
   obtain ⟨m1, s1, h1, h2, h3⟩ := hp
   simp only [Exit.inBlock]
   split
   ·rename_i he
    subst he
    dsimp only at h3
    rw [sw_true (by simp)] at h3
    exact norm m1 s1 a' w' h1 h2 h3
   ·rename_i he
    dsimp only at h3
    rw [sw_false (beq_false he)] at h3
    exact ⟨m1, s1, h1, h2, h3⟩
  | ret => exact hp
  | goto l => exact hp
  | panic ch => exact hp
  | outgrown => exact hp
 | loop c1 ih =>
  intro p N B hs hd m hm s a w hr hy
  simp only [dstB] at hd
  simp only [ex] at hy
  let J : Nat → Act → World → Prop := fun m2 a w => m2 < m ∧ ∃ s', Rel (cx P E nt np r0 n0 0) w0 Z s' a w ∧ ex (E m2) np ks (rn E np ks fin c m2) fin c1 (p + 1) s' (cutA np ks (rn E np ks fin c m2) p fun _ => none) (B m2) = some y
  have back : ∀ m1 s1 a' w', m1 ≤ m → Rel (cx P E nt np r0 n0 0) w0 Z s1 a' w' → cutA np ks (rn E np ks fin c m1) p (fun _ => none) s1 = some y → ∃ m2, m2 < m1 ∧ J m2 a' w' := by
   intro m1 s1 a' w' h1 h2 h3
   rcases cut_some hs.pos h3 h2 with h4 | ⟨m2, s', rfl, _, h5, h6⟩
   ·cases h4
   ·rw [hs.rs_eq (Nat.le_refl _) (by have := szC_pos (.loop c1); omega), rs, sw_true (by simp)] at h6
    exact ⟨m2, by omega, by omega, s', h5, h6⟩
  classical
  obtain ⟨m2, hm2, hJ⟩ := back m s a w (Nat.le_refl _) hr hy
  let μ : Act → World → Nat := fun a w => if h : ∃ k, J k a w then Classical.choose (least h) else 0
  have μle : ∀ {k a w}, J k a w → μ a w ≤ k := by
   intro k a w hk
   have hex : ∃ k, J k a w := ⟨k, hk⟩
   show (if h : ∃ k, J k a w then Classical.choose (least h) else 0) ≤ k
   rw [dif_pos hex]
   exact (Classical.choose_spec (least hex)).2 k hk
  have μJ : ∀ {k a w}, J k a w → J (μ a w) a w := by
   intro k a w hk
   have hex : ∃ k, J k a w := ⟨k, hk⟩
   show J (if h : ∃ k, J k a w then Classical.choose (least h) else 0) a w
   rw [dif_pos hex]
   exact (Classical.choose_spec (least hex)).1
  refine wp_loop (fun a w => ∃ k, J k a w) μ ⟨m2, hJ⟩ ?_
  rintro a w ⟨k, hk⟩
  obtain ⟨h1, s', h2, h3⟩ := μJ hk
  refine wp_mono (ih hs.lp hd (μ a w) (by omega) s' a w h2 h3) ?_
  intro e a' w' hp
  cases e with
  | normal =>
   obtain ⟨m1, s1, h4, h5, h6⟩ := hp
   obtain ⟨m3, h7, h8⟩ := back m1 s1 a' w' (by omega) h5 h6
   exact ⟨⟨m3, h8⟩, by have := μle h8; omega⟩
  | exit id =>
   obtain ⟨m1, s1, h4, h5⟩ := hp
   exact ⟨m1, s1, by omega, h5⟩
  | ret => exact hp
  | goto l => exact hp
  | panic ch => exact hp
  | outgrown => exact hp
 | exit id =>
  intro p N B hs hd m hm s a w hr hy
  exact wp_exit ⟨m, s, Nat.le_refl _, hr, hy⟩
 | ret =>
  intro p N B hs hd m hm s a w hr hy
  exact wp_ret ⟨s, hr, hy⟩
 | _ =>
  intros
  rename_i hy
  simp only [ex] at hy
  cases hy
theorem run_ok {Mx : Nat} (hgl : ∀ m, (E m).gl = (E 0).gl) (hE : ∀ m < Mx, EnOK (cx P E nt np r0 n0 m)) (hd : dstB nt c = true) {m : Nat} (hm : m ≤ Mx) {s a w} (hr : Rel (cx P E nt np r0 n0 0) w0 Z s a w) (hy : run E np ks fin c m 0 s = some y) :
  c.wp P (fun e a w => match e with | .normal | .ret => ∃ s, Rel (cx P E nt np r0 n0 0) w0 Z s a w ∧ fin s = some y | .panic ch => ∃ pt h, ch = pchain pt ∧ RelP (cx P E nt np r0 n0 0) w0 Z h a w ∧ fin (panSt pt h) = some y | _ => False) a w := by
 cases m with
 | zero => cases hy
 | succ m =>
  simp only [run, seg] at hy
  refine wp_mono (ex_ok hgl hE c .top hd m (by omega) s a w hr hy) ?_
  intro e a' w' hp
  cases e with
  | normal => obtain ⟨m1, s1, _, h1, h2⟩ := hp; exact ⟨s1, h1, h2⟩
  | exit id => obtain ⟨m1, s1, _, h1, h2⟩ := hp; cases h2
  | ret => exact hp
  | goto l => exact hp
  | panic ch => exact hp
  | outgrown => exact hp
end
end Go.VM

namespace Go.VM
variable [Bor]
open Go.RowKit
mutual
def jA1 : Arg → Nat → Nat | .v .., j => j | .p .., j => j + 1 | .s .., j => j + 1 | .g .., j => j | .q .., j => j | .me .., j => j | .fn _ cs, j => jA cs j | .cf _ cs, j => jA cs j | .ag cs, j => jA cs j
def jA : List Arg → Nat → Nat | [], j => j | a :: r, j => jA r (jA1 a j)
end
mutual
def outs1 : Arg → List (Option U) | .v .. => [] | .p u _ => [some u] | .s .. => [none] | .g .. => [] | .q .. => [] | .me .. => [] | .fn _ cs => outsL cs | .cf _ cs => outsL cs | .ag cs => outsL cs
def outsL : List Arg → List (Option U) | [] => [] | a :: r => outs1 a ++ outsL r
end
mutual
def Pin1 (w : World) (r0 : Nat → Option Addr × Nat) (n0 : Nat → Bool × U × Nat) : Arg → Value → Nat → Prop
 | .v .., _, _ => True
 | .g .., _, _ => True
 | .q .., _, _ => True
 | .me .., _, _ => True
 | .p _ _, v, j => ∃ b, v = .pointer (some ⟨b, 0, none⟩) ∧ (r0 j).1 = some ⟨b, 0, none⟩
 | .s e u x, v, j => u.plain = true ∧ v = hdr (r0 j) (x : List u.El).length ∧ n0 j = (e, u, (x : List u.El).length)
 | .ag cs, v, j => ∃ vs, v = .agg vs.toArray ∧ Pins w r0 n0 cs vs j
 | .fn _ cs, v, j => ∃ f vs, v = .func (.func f) #[] vs.toArray ∧ Pins w r0 n0 cs vs j
 | .cf _ cs, v, j => ∃ g b t vs, v = .pointer (some ⟨b, 0, none⟩) ∧ w.heap[b]? = some (.cells #[.func (.func g) #[] vs.toArray] t (0, 0)) ∧ Pins w r0 n0 cs vs j
def Pins (w : World) (r0 : Nat → Option Addr × Nat) (n0 : Nat → Bool × U × Nat) : List Arg → List Value → Nat → Prop
 | [], vs, _ => vs = []
 | a :: r, vs, j => ∃ v vr, vs = v :: vr ∧ Pin1 w r0 n0 a v j ∧ Pins w r0 n0 r vr (jA1 a j)
end
structure Ents (N : List NR) (j j' b b' : Nat) (L S : List Nat) (cs : List AV) (vs : List Value) (w : World) : Prop where
 fF : N.flatMap NR.F = L
 le : j ≤ j' ∧ b ≤ b'
 rg : ∀ n ∈ N, (j ≤ n.id ∧ n.id < j') ∨ (b ≤ n.id ∧ n.id < b')
 nd : j' ≤ b → (N.map NR.id).Nodup
 rt : L.Nodup → ∀ M' : Mem, M'.w = w → M'.w0 = w → (∀ b ∈ S, M'.Z b) → (∀ n ∈ N, M'.r n.id = n.r ∧ M'.h n.id = n.R) → ∀ n ∈ N, ∀ own' : Nat → Option Nat, (∀ b ∈ n.F, own' b = some n.id) → RootRep M' own' n.id n.R
 rf : ∀ n ∈ N, ∀ cs, n.R = .obj cs → ∀ k ∈ refsL cs, b ≤ k ∧ k < b'
 av : ∀ M' : Mem, M'.w0 = w → (∀ b ∈ S, M'.Z b) → (∀ n ∈ N, M'.r n.id = n.r ∧ M'.h n.id = n.R) → AVRepL M' cs vs
 ar : ∀ k ∈ refsL cs, (j ≤ k ∧ k < j') ∨ b ≤ k ∧ k < b'
theorem cells_rest {w : World} {M' : Mem} (h0 : M'.w0 = w) : ∀ {u : U} {x : u.El} {cs : List Value} {F : List Nat} {o : Nat}, u.plain = true → Rep w false u x cs F → (∀ b ∈ F, M'.Z b) → AVRepL M' (cellsOf imSl u x o) cs
 | .bool, x, cs, F, o, _, h, hZ => by
  simp only [cellsOf, AVRepL]; exact ⟨_, [], h.1, by rw [AVRep]; exact ⟨rfl, [.bool x], [], rfl, by rw [h0]; exact ⟨rfl, rfl⟩, by simp⟩, rfl⟩
 | .int k, x, cs, F, o, _, h, hZ => by
  simp only [cellsOf, AVRepL]; exact ⟨_, [], h.1, by rw [AVRep]; exact ⟨rfl, [.int k x], [], rfl, by rw [h0]; exact ⟨rfl, rfl⟩, by simp⟩, rfl⟩
 | .str, x, cs, F, o, _, h, hZ => by
  simp only [cellsOf, AVRepL]; exact ⟨_, [], h.1, by rw [AVRep]; exact ⟨rfl, [.string x], [], rfl, by rw [h0]; exact ⟨rfl, rfl⟩, by simp⟩, rfl⟩
 | .unit, x, cs, F, o, _, h, hZ => by simp only [cellsOf, AVRepL]; exact h.1
 | .oth, _, _, _, _, _, h, _ => by
  obtain ⟨rfl, v, rfl, _⟩ := h
  simp only [cellsOf, AVRepL]; exact ⟨v, [], rfl, by simp only [AVRep], rfl⟩
 | .ar _ _, _, _, _, _, hp, _, _ => by cases hp
 | .pt u, x, cs, F, o, hp, h, hZ => by
  have h' := h
  obtain ⟨v, rfl⟩ : ∃ v, cs = [v] := by
   have := Rep.length h
   match cs, this with
   | [v], _ => exact ⟨v, rfl⟩
  simp only [cellsOf, imSl, AVRepL]
  refine ⟨v, [], rfl, ?_, rfl⟩
  rw [AVRep]
  exact ⟨hp, [v], F, rfl, by rw [h0]; exact h', hZ⟩
 | .tr u, x, cs, F, o, hp, h, hZ => by
  have hp' := hp
  simp only [U.plain, Bool.and_eq_true] at hp
  obtain ⟨c, kv, rfl, h1, h2⟩ := tr_split hp.2 h
  simp only [cellsOf]
  refine AVRepL.app (cells_rest h0 hp.1 h1 fun b hb => by cases hb) ?_
  simp only [imSl, AVRepL]
  refine ⟨kv, [], rfl, ?_, rfl⟩
  rw [AVRep]
  exact ⟨hp', [kv], F, rfl, by rw [h0]; exact h2, hZ⟩
 | .bs u, x, cs, F, o, hp, h, hZ => by
  obtain ⟨rfl, v, rfl, ho⟩ := h
  simp only [cellsOf, AVRepL]
  refine ⟨v, [], rfl, ?_, rfl⟩
  rw [AVRep]
  exact ⟨hp, [v], [], rfl, ⟨rfl, v, rfl, ho⟩, by simp⟩
 | .sl e u, x, cs, F, o, hp, h, hZ => by
  obtain ⟨v, rfl, hs⟩ := h
  simp only [cellsOf, imSl, AVRepL]
  refine ⟨v, [], rfl, ?_, rfl⟩
  rw [AVRep]
  exact ⟨hp, [v], F, rfl, by rw [h0]; exact ⟨v, rfl, hs⟩, hZ⟩
 | .pair a b, x, cs, F, o, hp, h, hZ => by
  obtain ⟨c, d, G, H, rfl, rfl, h1, h2⟩ := h
  simp only [U.plain, Bool.and_eq_true] at hp
  simp only [cellsOf]
  exact AVRepL.app (cells_rest h0 hp.1 h1 fun b hb => hZ b (by simp [hb])) (cells_rest h0 hp.2 h2 fun b hb => hZ b (by simp [hb]))
theorem cells_len {mk : Nat → Bool → (u : U) → List u.El → AV} : ∀ {u : U} {x : u.El} {o : Nat}, (cellsOf mk u x o).length = u.az
 | .bool, _, _ => rfl | .int _, _, _ => rfl | .str, _, _ => rfl | .sl _ _, _, _ => rfl | .unit, _, _ => rfl | .oth, _, _ => rfl | .ar _ _, _, _ => rfl | .bs _, _, _ => rfl | .pt _, _, _ => rfl
 | .tr u, x, o => by simp only [cellsOf, List.length_append, cells_len, U.az]; rfl
 | .pair a b, x, o => by simp only [cellsOf, List.length_append, cells_len, U.az]
theorem no_refs {u : U} {x : u.El} {o j : Nat} (h : j ∈ refsL (cellsOf imSl u x o)) : False := by
 have h2 : ∀ (c : Nat) (e : Bool) (u : U) (l : List u.El), j ∈ refs (imSl c e u l) → j = j + 1 := fun c e u l h => by simp [imSl, refs] at h
 have := refs_cells (mk := imSl) (j := j) (id := j + 1) h2 h
 omega
mutual
theorem ent1 {w : World} : ∀ {a : Arg} {v : Value} {S L : List Nat} (j b : Nat), ArgRep w a v S L → (entA1 a j b).2.2.1 = jA1 a j ∧ ∃ N, nrH N = (entA1 a j b).2.1 ∧ Ents N j (jA1 a j) b (entA1 a j b).2.2.2 L S [(entA1 a j b).1] [v] w ∧
  (∀ (r0 : Nat → Option Addr × Nat) (n0 : Nat → Bool × U × Nat), (∀ n ∈ N, r0 n.id = n.r ∧ ∀ e u l g, n.R = .arr e u l g → n0 n.id = (e, u, l.length)) → Pin1 w r0 n0 a v j)
 | .v u x, v, S, L, j, b, h => by
  unfold ArgRep at h
  obtain ⟨hp, ⟨cs, rfl, hr⟩, rfl⟩ := h
  refine ⟨by simp [entA1, jA1], [], by simp [entA1, nrH], ⟨rfl, by simp [jA1, entA1], by simp, by simp, by simp, by simp, fun M' h0 hZ _ => ?_, fun k hk => ?_⟩, fun _ _ _ => by simp only [Pin1]⟩
  ·simp only [entA1, AVRepL]
   exact ⟨_, _, rfl, pack_rep hp (cells_rest h0 hp hr hZ) cells_len, rfl⟩
  ·simp only [entA1, refsL, List.append_nil] at hk
   exact (no_refs (refs_pack hk)).elim
 | .p u x, v, S, L, j, b, h => by
  unfold ArgRep at h
  obtain ⟨hp, rfl, bl, c, t, G, rfl, hw, hr, rfl⟩ := h
  obtain ⟨N1, hN1, hc⟩ := rooted_rep (w' := w) b hp hr
  have a1 := hc.fF; have a2 := hc.rg; have a3 := hc.nd; have a5 := hc.av; have a6 := hc.rf
  refine ⟨by simp [entA1, jA1], ⟨j, .obj (rooted u x b).1, (some ⟨bl, 0, none⟩, 0), [bl]⟩ :: N1, by simp only [entA1]; rw [← hN1]; simp [nrH], ⟨?_, ?_, ?_, ?_, ?_, ?_, ?_, ?_⟩, ?_⟩
  ·simp [a1]
  ·simp only [jA1, entA1]; omega
  ·intro n hn
   simp only [jA1, entA1]
   rcases List.mem_cons.1 hn with rfl | hn
   ·left; simp only; omega
   ·right; exact a2 n hn
  ·intro hjb
   simp only [jA1] at hjb
   simp only [List.map_cons, List.nodup_cons]
   refine ⟨fun hm => ?_, a3⟩
   obtain ⟨n, hn, e⟩ := List.mem_map.1 hm
   have := a2 n hn; omega
  ·intro hL M' hw' _ _ hM' n hn own' ho
   rcases List.mem_cons.1 hn with rfl | hn
   ·obtain ⟨h1, h2⟩ := hM' _ (List.mem_cons_self ..)
    exact ⟨bl, c, t, by rw [h1], by rw [hw']; exact hw, a5 M' fun n hn => hM' n (by simp [hn]), ho bl (by simp)⟩
   ·simp only [List.nodup_cons] at hL
    exact hc.rt hL.2 hw' (fun n hn => hM' n (by simp [hn])) hn ho
  ·intro n hn cs hR k hk
   simp only [entA1]
   rcases List.mem_cons.1 hn with rfl | hn
   ·simp only [Root.obj.injEq] at hR
    subst hR
    exact a6 k hk
   ·exact ((hc.ar n hn).no hR).elim
  ·intro M' _ _ hM'
   obtain ⟨h1, h2⟩ := hM' _ (List.mem_cons_self ..)
   simp only [entA1, AVRepL]
   refine ⟨_, _, rfl, ?_, rfl⟩
   simp only [AVRep]
   intro _
   exact ⟨⟨bl, 0, none⟩, by rw [h1], by rw [Addr.add_zero]⟩
  ·intro k hk
   simp [entA1, refsL, refs] at hk
   simp only [jA1]; omega
  ·intro r0 n0 hr0
   simp only [Pin1]
   exact ⟨bl, rfl, by rw [(hr0 _ (List.mem_cons_self ..)).1]⟩
 | .s e u x, v, S, L, j, b, h => by
  unfold ArgRep at h
  obtain ⟨hp, rfl, hs⟩ := h
  have hr : ∃ r, v = hdr r (x : List u.El).length := by
   rcases hs with ⟨rfl, _⟩ | ⟨a, cap, _, _, _, _, _, _, _, hv, _⟩
   ·exact ⟨(none, 0), rfl⟩
   ·exact ⟨(some a, cap), hv⟩
  obtain ⟨r, rfl⟩ := hr
  refine ⟨by simp [entA1, jA1], [⟨j, .arr e u x 0, r, L⟩], by simp [entA1, nrH], ⟨?_, ?_, ?_, ?_, ?_, ?_, ?_, ?_⟩, ?_⟩
  ·simp
  ·simp only [jA1, entA1]; omega
  ·intro n hn
   simp only [List.mem_singleton] at hn
   subst hn
   simp only [jA1]; left; omega
  ·simp
  ·intro hL M' hw' _ _ hM' n hn own' ho
   simp only [List.mem_singleton] at hn
   subst hn
   subst hw'
   exact arr_nr (n := ⟨j, .arr e u x 0, r, L⟩) rfl hp hs hL (hM' _ (by simp)).1 ho
  ·intro n hn cs hR
   simp only [List.mem_singleton] at hn
   subst hn
   cases hR
  ·intro M' _ _ hM'
   obtain ⟨h1, h2⟩ := hM' _ (List.mem_singleton.2 rfl)
   simp only [entA1, AVRepL]
   refine ⟨_, _, rfl, ?_, rfl⟩
   simp only [AVRep]
   intro e2 u2 l2 g2 b2 hl
   simp only at h1 h2
   rw [h2] at hl
   cases hl
   exact ⟨.inl trivial, fun _ _ => ⟨e, u, x, _, rfl, rfl, by simp only [Win, h1]⟩⟩
  ·intro k hk
   simp [entA1, refsL, refs] at hk
   simp only [jA1]; omega
  ·intro r0 n0 hr0
   simp only [Pin1]
   obtain ⟨h1, h2⟩ := hr0 _ (List.mem_singleton.2 rfl)
   exact ⟨hp, by rw [h1], h2 _ _ _ _ rfl⟩
 | .g u x, v, S, L, j, b, h => by
  unfold ArgRep at h
  obtain ⟨hp, rfl, cs, rfl, hr⟩ := h
  obtain ⟨N, hN, a1, a2, a3, a4, a5, a6⟩ := rooted_rep (w' := w) b hp hr
  refine ⟨by simp [entA1, jA1], N, by simp only [entA1]; exact hN, ⟨a1, by simp [jA1, entA1], fun n hn => .inr (by simp only [entA1]; exact a2 n hn), fun _ => a3, ?_, ?_, ?_, ?_⟩, fun _ _ _ => by simp only [Pin1]⟩
  ·intro hL M' hw' _ _ hM' n hn own' ho
   exact Comes.rt ⟨a1, a2, a3, a4, a5, a6⟩ hL hw' hM' hn ho
  ·intro n hn cs hR k hk
   exact ((a4 n hn).no hR).elim
  ·intro M' _ _ hM'
   simp only [entA1, AVRepL]
   exact ⟨_, _, rfl, pack_rep hp (a5 M' hM') (rooted_len hp), rfl⟩
  ·intro k hk
   simp only [entA1, refsL, List.append_nil] at hk
   simp only [entA1]
   exact .inr (a6 k (refs_pack hk))
 | .me f m, v, S, L, j, b, h => by
  unfold ArgRep at h
  obtain ⟨rfl, bl, rfl, rfl, hb⟩ := h
  refine ⟨by simp [entA1, jA1], [], by simp [entA1, nrH], ⟨rfl, by simp [jA1, entA1], by simp, by simp, by simp, by simp, fun M' h0 hZ _ => ?_, fun k hk => ?_⟩, fun _ _ _ => by simp only [Pin1]⟩
  ·simp only [entA1, AVRepL, AVRep]
   exact ⟨_, _, rfl, trivial, rfl⟩
  ·simp [entA1, refsL, refs] at hk
 | .q u x, v, S, L, j, b, h => by
  unfold ArgRep at h
  obtain ⟨hp, rfl, hS, ad, rfl, c, t, fz, p, m, q, G, h1, h2, h3, h4, h5, h6, h7⟩ := h
  refine ⟨by simp [entA1, jA1], [⟨b, .imm u x, (some ad, 0), []⟩], by simp [entA1, nrH], ⟨by simp, by simp [jA1, entA1], ?_, by simp, ?_, ?_, ?_, ?_⟩, fun _ _ _ => by simp only [Pin1]⟩
  ·intro n hn
   simp only [List.mem_singleton] at hn
   subst hn
   right
   simp only [entA1]; omega
  ·intro _ M' hw' h0 hZ hM' n hn own' ho
   simp only [List.mem_singleton] at hn
   subst hn
   obtain ⟨r1, r2⟩ := hM' _ (List.mem_singleton.2 rfl)
   exact ⟨ad, by rw [r1], c, t, fz, p, m, q, G, h1, by rw [h0]; exact h2, h3, h4, by rw [h0]; exact h5, hZ _ h6, fun b hb => hZ _ (h7 b hb)⟩
  ·intro n hn cs hR
   simp only [List.mem_singleton] at hn
   subst hn
   cases hR
  ·intro M' h0 hZ hM'
   obtain ⟨r1, r2⟩ := hM' _ (List.mem_singleton.2 rfl)
   simp only [entA1, AVRepL]
   refine ⟨_, _, rfl, ?_, rfl⟩
   simp only [AVRep]
   intro _
   exact ⟨ad, by rw [r1], by rw [Addr.add_zero]⟩
  ·intro k hk
   simp [entA1, refsL, refs] at hk
   simp only [entA1]; omega
 | .ag cs, v, S, L, j, b, h => by
  unfold ArgRep at h
  obtain ⟨vs, rfl, h⟩ := h
  obtain ⟨hj, N, hN, he, hpin⟩ := entL j b h
  refine ⟨by simp only [entA1, jA1]; exact hj, N, by simp only [entA1]; exact hN, ⟨he.fF, by simp only [entA1, jA1]; exact he.le, by simp only [entA1, jA1]; exact he.rg, by simp only [jA1]; exact he.nd, he.rt, by simp only [entA1]; exact he.rf, ?_, ?_⟩, fun r0 n0 hr => by simp only [Pin1]; exact ⟨vs, rfl, hpin r0 n0 hr⟩⟩
  ·intro M' h0 hZ hM'
   simp only [entA1, AVRepL, AVRep]
   exact ⟨_, _, rfl, ⟨vs, rfl, he.av M' h0 hZ hM'⟩, rfl⟩
  ·intro k hk
   simp only [entA1, refsL, refs, List.append_nil] at hk
   simp only [jA1, entA1]
   exact he.ar k hk
 | .fn f cs, v, S, L, j, b, h => by
  unfold ArgRep at h
  obtain ⟨vs, rfl, h⟩ := h
  obtain ⟨hj, N, hN, he, hpin⟩ := entL j b h
  refine ⟨by simp only [entA1, jA1]; exact hj, N, by simp only [entA1]; exact hN, ⟨he.fF, by simp only [entA1, jA1]; exact he.le, by simp only [entA1, jA1]; exact he.rg, by simp only [jA1]; exact he.nd, he.rt, by simp only [entA1]; exact he.rf, ?_, ?_⟩, fun r0 n0 hr => by simp only [Pin1]; exact ⟨f, vs, rfl, hpin r0 n0 hr⟩⟩
  ·intro M' h0 hZ hM'
   simp only [entA1, AVRepL, AVRep]
   exact ⟨_, _, rfl, ⟨vs, rfl, he.av M' h0 hZ hM'⟩, rfl⟩
  ·intro k hk
   simp only [entA1, refsL, refs, List.append_nil] at hk
   simp only [jA1, entA1]
   exact he.ar k hk
 | .cf f cs, v, S, L, j, b, h => by
  unfold ArgRep at h
  obtain ⟨bl, ty, vs, S', rfl, hbl, rfl, h⟩ := h
  obtain ⟨hj, N, hN, he, hpin⟩ := entL j b h
  refine ⟨by simp only [entA1, jA1]; exact hj, N, by simp only [entA1]; exact hN, ⟨he.fF, by simp only [entA1, jA1]; exact he.le, by simp only [entA1, jA1]; exact he.rg, by simp only [jA1]; exact he.nd, fun hL M' hw h0 hZ => he.rt hL M' hw h0 (fun b hb => hZ b (List.mem_cons_of_mem _ hb)), by simp only [entA1]; exact he.rf, ?_, ?_⟩, fun r0 n0 hr => by simp only [Pin1]; exact ⟨f, bl, ty, vs, rfl, hbl, hpin r0 n0 hr⟩⟩
  ·intro M' h0 hZ hM'
   simp only [entA1, AVRepL, AVRep]
   exact ⟨_, _, rfl, ⟨bl, ty, vs, rfl, by rw [h0]; exact hbl, hZ bl (List.mem_cons_self ..), he.av M' h0 (fun b hb => hZ b (List.mem_cons_of_mem _ hb)) hM'⟩, rfl⟩
  ·intro k hk
   simp only [entA1, refsL, refs, List.append_nil] at hk
   simp only [jA1, entA1]
   exact he.ar k hk
theorem entL {w : World} : ∀ {as : List Arg} {vs : List Value} {S L : List Nat} (j b : Nat), ArgsRep w as vs S L → (entA as j b).2.2.1 = jA as j ∧ ∃ N, nrH N = (entA as j b).2.1 ∧ Ents N j (jA as j) b (entA as j b).2.2.2 L S (entA as j b).1 vs w ∧
  (∀ (r0 : Nat → Option Addr × Nat) (n0 : Nat → Bool × U × Nat), (∀ n ∈ N, r0 n.id = n.r ∧ ∀ e u l g, n.R = .arr e u l g → n0 n.id = (e, u, l.length)) → Pins w r0 n0 as vs j)
 | [], vs, S, L, j, b, h => by
  unfold ArgsRep at h
  obtain ⟨rfl, rfl, rfl⟩ := h
  refine ⟨by simp [entA, jA], [], by simp [entA, nrH], ⟨rfl, by simp [jA, entA], by simp, by simp, by simp, by simp, fun M' _ _ _ => by simp [entA, AVRepL], by simp [entA, refsL]⟩, fun _ _ _ => by simp only [Pins]⟩
 | a :: as, vs, S, L, j, b, h => by
  unfold ArgsRep at h
  obtain ⟨v, vr, S1, S2, L1, L2, rfl, rfl, rfl, h1, h2⟩ := h
  obtain ⟨hj1, N1, hN1, e1, p1⟩ := ent1 j b h1
  obtain ⟨hj2, N2, hN2, e2, p2⟩ := entL (jA1 a j) (entA1 a j b).2.2.2 h2
  have l1 := e1.le; have l2 := e2.le
  refine ⟨by simp only [entA, jA, hj1]; exact hj2, N1 ++ N2, ?_, ⟨?_, ?_, ?_, ?_, ?_, ?_, ?_, ?_⟩, ?_⟩
  ·simp only [entA, hj1]; rw [← hN1, ← hN2]; simp [nrH]
  ·rw [List.flatMap_append, e1.fF, e2.fF]
  ·simp only [entA, jA, hj1]; omega
  ·intro n hn
   simp only [entA, jA, hj1]
   rcases List.mem_append.1 hn with hn | hn
   ·have := e1.rg n hn; omega
   ·have := e2.rg n hn; omega
  ·intro hjb
   simp only [jA] at hjb
   rw [List.map_append, List.nodup_append]
   refine ⟨e1.nd (by omega), e2.nd (by omega), fun i hi k hk e => ?_⟩
   obtain ⟨n, hn, rfl⟩ := List.mem_map.1 hi
   obtain ⟨m, hm, rfl⟩ := List.mem_map.1 hk
   have := e1.rg n hn
   have := e2.rg m hm
   omega
  ·intro hL M' hw' h0 hZ hM' n hn own' ho
   obtain ⟨f1, f2, _⟩ := List.nodup_append.1 hL
   rcases List.mem_append.1 hn with hn | hn
   ·exact e1.rt f1 M' hw' h0 (fun b hb => hZ b (by simp [hb])) (fun n hn => hM' n (by simp [hn])) n hn own' ho
   ·exact e2.rt f2 M' hw' h0 (fun b hb => hZ b (by simp [hb])) (fun n hn => hM' n (by simp [hn])) n hn own' ho
  ·intro n hn cs hR k hk
   simp only [entA, hj1]
   rcases List.mem_append.1 hn with hn | hn
   ·have := e1.rf n hn cs hR k hk; omega
   ·have := e2.rf n hn cs hR k hk; omega
  ·intro M' h0 hZ hM'
   have q1 := e1.av M' h0 (fun b hb => hZ b (by simp [hb])) (fun n hn => hM' n (by simp [hn]))
   have q2 := e2.av M' h0 (fun b hb => hZ b (by simp [hb])) (fun n hn => hM' n (by simp [hn]))
   simp only [entA, hj1, AVRepL] at q1 ⊢
   obtain ⟨v', r, e, q1, _⟩ := q1
   cases e
   exact ⟨_, _, rfl, q1, q2⟩
  ·intro k hk
   simp only [entA, hj1, refsL, List.mem_append] at hk
   simp only [jA, entA, hj1]
   rcases hk with hk | hk
   ·have := e1.ar k (by simpa [refsL] using hk); omega
   ·have := e2.ar k hk; omega
  ·intro r0 n0 hr
   simp only [Pins]
   exact ⟨v, vr, rfl, p1 r0 n0 fun n hn => hr n (by simp [hn]), p2 r0 n0 fun n hn => hr n (by simp [hn])⟩
end
end Go.VM

namespace Go.VM
variable [Bor]
open Go.RowKit
theorem lkT_zip {M : Mem} {j : Nat} : ∀ {cs : List AV} {vs : List Value} {k : Nat}, AVRepL M cs vs → lkT ((cs.zipIdx k).map fun (v, i) => (i, v)) j = .dead ∨
  ∃ i v, j = k + i ∧ vs[i]? = some v ∧ AVRep M (lkT ((cs.zipIdx k).map fun (v, i) => (i, v)) j) v ∧ lkT ((cs.zipIdx k).map fun (v, i) => (i, v)) j ∈ cs
 | [], vs, k, h => .inl rfl
 | c :: cs, vs, k, h => by
  simp only [AVRepL] at h
  obtain ⟨v, r, rfl, h1, h2⟩ := h
  simp only [List.zipIdx_cons, List.map_cons, lkT]
  by_cases e : k = j
  ·subst e
   rw [sw_true (by simp)]
   exact .inr ⟨0, v, rfl, rfl, h1, by simp⟩
  ·rw [sw_false (beq_false e)]
   rcases lkT_zip (j := j) (k := k + 1) h2 with h | ⟨i, v', h3, h4, h5, h6⟩
   ·exact .inl h
   ·exact .inr ⟨i + 1, v', by omega, by simpa using h4, h5, List.mem_cons_of_mem _ h6⟩
def lenOf (N : List NR) (id : Nat) : Bool × U × Nat := match N.find? fun n => n.id == id with | some n => (match n.R with | .arr e u l _ => (e, u, l.length) | .hol e u l .. => (e, u, l.length) | _ => (false, .unit, 0)) | none => (false, .unit, 0)
mutual
theorem argRep_lt {w : World} : ∀ {a : Arg} {v : Value} {S L : List Nat}, ArgRep w a v S L → ∀ b ∈ L, b < w.heap.size
 | .v u x, v, S, L, h, b, hb => by
  unfold ArgRep at h
  rw [h.2.2] at hb; cases hb
 | .p u x, v, S, L, h, b, hb => by
  unfold ArgRep at h
  obtain ⟨_, _, bl, c, t, G, _, hw, hr, rfl⟩ := h
  rcases List.mem_cons.1 hb with rfl | hb
  ·exact lt_of_heap hw
  ·exact Rep.block_lt hr b hb
 | .s e u x, v, S, L, h, b, hb => by
  unfold ArgRep at h
  exact Rep.block_lt (u := .sl e u) (cs := [v]) ⟨v, rfl, .inl h.2.2⟩ b hb
 | .q u x, v, S, L, h, b, hb => by
  unfold ArgRep at h
  rw [h.2.1] at hb; cases hb
 | .me f m, v, S, L, h, b, hb => by
  unfold ArgRep at h
  rw [h.1] at hb; cases hb
 | .g u x, v, S, L, h, b, hb => by
  unfold ArgRep at h
  obtain ⟨_, _, cs, _, hr⟩ := h
  exact Rep.block_lt hr b hb
 | .ag cs, v, S, L, h, b, hb => by
  unfold ArgRep at h
  obtain ⟨vs, _, h⟩ := h
  exact argsRep_lt' h b hb
 | .fn f cs, v, S, L, h, b, hb => by
  unfold ArgRep at h
  obtain ⟨vs, _, h⟩ := h
  exact argsRep_lt' h b hb
 | .cf f cs, v, S, L, h, b, hb => by
  unfold ArgRep at h
  obtain ⟨bl, t, vs, S', _, _, _, h⟩ := h
  exact argsRep_lt' h b hb
theorem argsRep_lt' {w : World} : ∀ {as : List Arg} {vs : List Value} {S L : List Nat}, ArgsRep w as vs S L → ∀ b ∈ L, b < w.heap.size
 | [], vs, S, L, h, b, hb => by
  unfold ArgsRep at h
  rw [h.2.2] at hb; cases hb
 | a :: as, vs, S, L, h, b, hb => by
  unfold ArgsRep at h
  obtain ⟨v, vr, S1, S2, L1, L2, rfl, rfl, rfl, h1, h2⟩ := h
  rcases List.mem_append.1 hb with hb | hb
  ·exact argRep_lt h1 b hb
  ·exact argsRep_lt' h2 b hb
end
mutual
theorem argRep_see {w : World} : ∀ {a : Arg} {v : Value} {S L : List Nat}, ArgRep w a v S L → ∀ b ∈ S, b < w.heap.size
 | .v u x, v, S, L, h, b, hb => by
  unfold ArgRep at h
  obtain ⟨_, ⟨cs, _, hr⟩, _⟩ := h
  exact Rep.block_lt hr b hb
 | .p u x, v, S, L, h, b, hb => by
  unfold ArgRep at h
  rw [h.2.1] at hb; cases hb
 | .s e u x, v, S, L, h, b, hb => by
  unfold ArgRep at h
  rw [h.2.1] at hb; cases hb
 | .g u x, v, S, L, h, b, hb => by
  unfold ArgRep at h
  rw [h.2.1] at hb; cases hb
 | .q u x, v, S, L, h, b, hb => by
  unfold ArgRep at h
  exact h.2.2.1 b hb
 | .me f m, v, S, L, h, b, hb => by
  unfold ArgRep at h
  obtain ⟨_, c, _, rfl, hc⟩ := h
  rw [List.mem_singleton] at hb
  subst hb
  exact hc
 | .ag cs, v, S, L, h, b, hb => by
  unfold ArgRep at h
  obtain ⟨vs, _, h⟩ := h
  exact argsRep_see h b hb
 | .fn f cs, v, S, L, h, b, hb => by
  unfold ArgRep at h
  obtain ⟨vs, _, h⟩ := h
  exact argsRep_see h b hb
 | .cf f cs, v, S, L, h, b, hb => by
  unfold ArgRep at h
  obtain ⟨bl, t, vs, S', _, hw, rfl, h⟩ := h
  rcases List.mem_cons.1 hb with rfl | hb
  ·exact lt_of_heap hw
  ·exact argsRep_see h b hb
theorem argsRep_see {w : World} : ∀ {as : List Arg} {vs : List Value} {S L : List Nat}, ArgsRep w as vs S L → ∀ b ∈ S, b < w.heap.size
 | [], vs, S, L, h, b, hb => by
  unfold ArgsRep at h
  rw [h.2.1] at hb; cases hb
 | a :: as, vs, S, L, h, b, hb => by
  unfold ArgsRep at h
  obtain ⟨v, vr, S1, S2, L1, L2, rfl, rfl, rfl, h1, h2⟩ := h
  rcases List.mem_append.1 hb with hb | hb
  ·exact argRep_see h1 b hb
  ·exact argsRep_see h2 b hb
end
theorem argsRep_x {w : World} : ∀ {as : List Arg} {vs : List Value} {S L : List Nat} {i f m : Nat}, ArgsRep w as vs S L → as[i]? = some (.me f m) → ∃ b, vs[i]? = some (.pointer (some ⟨b, 0, none⟩)) ∧ b ∈ S
 | [], vs, S, L, i, f, m, _, hi => by simp at hi
 | a :: as, vs, S, L, 0, f, m, h, hi => by
  simp only [List.getElem?_cons_zero, Option.some.injEq] at hi
  subst hi
  unfold ArgsRep at h
  obtain ⟨v, vr, S1, S2, L1, L2, rfl, rfl, rfl, h1, h2⟩ := h
  unfold ArgRep at h1
  obtain ⟨_, b, rfl, rfl, _⟩ := h1
  exact ⟨b, rfl, by simp⟩
 | a :: as, vs, S, L, i + 1, f, m, h, hi => by
  unfold ArgsRep at h
  obtain ⟨v, vr, S1, S2, L1, L2, rfl, rfl, rfl, h1, h2⟩ := h
  obtain ⟨b, h3, h4⟩ := argsRep_x h2 (by simpa using hi)
  exact ⟨b, by simpa using h3, by simp [h4]⟩
theorem meP_rep {M : Mem} {all : List AV} {vs : List Value} {as : List Arg} (hall : AVRepL M all vs)
  (hx : ∀ i f m, as[i]? = some (.me f m) → m ≤ i ∧ ∃ b t, vs[i]? = some (.pointer (some ⟨b, 0, none⟩)) ∧ M.w0.heap[b]? = some (.cells #[.func (.func f) #[] (vs.drop m).toArray] t (0, 0)) ∧ M.Z b) :
  ∀ {as' : List Arg} {cs : List AV} {ws : List Value} {i : Nat}, as' = as.drop i → ws = vs.drop i → AVRepL M cs ws → AVRepL M (meP all as' cs i) ws
 | [], cs, ws, i, _, _, h => by simpa only [meP] using h
 | a :: as', [], ws, i, _, _, h => by cases a <;> simpa only [meP] using h
 | a :: as', c :: cs, ws, i, ha, hw, h => by
  simp only [AVRepL] at h
  obtain ⟨v, r, rfl, h1, h2⟩ := h
  have ha' : as' = as.drop (i + 1) := by rw [← List.drop_drop, ← ha]; rfl
  have hw' : r = vs.drop (i + 1) := by rw [← List.drop_drop, ← hw]; rfl
  have ih := meP_rep hall hx (i := i + 1) ha' hw' h2
  have hv : vs[i]? = some v := by
   have := congrArg (fun l => l[0]?) hw
   simpa using this.symm
  have hai : as[i]? = some a := by
   have := congrArg (fun l => l[0]?) ha
   simpa using this.symm
  cases a with
  | me f m =>
   obtain ⟨hmi, b, t, h3, h4, h5⟩ := hx i f m hai
   simp only [meP, AVRepL]
   refine ⟨v, r, rfl, ?_, ih⟩
   rw [h3] at hv
   cases hv
   simp only [AVRep]
   refine ⟨b, t, (vs.drop m).eraseIdx (i - m), rfl, ?_, h5, (hall.dp m).er (i - m)⟩
   have e2 : (vs.drop m)[i - m]? = some (.pointer (some ⟨b, 0, none⟩)) := by rw [List.getElem?_drop, show m + (i - m) = i by omega]; exact h3
   rw [insK, er_back e2]
   exact h4
  | _ => simp only [meP, AVRepL]; exact ⟨v, r, rfl, h1, ih⟩
theorem meP_refs {all : List AV} {j : Nat} : ∀ {as : List Arg} {cs : List AV} {i : Nat}, j ∈ refsL (meP all as cs i) → j ∈ refsL all ∨ j ∈ refsL cs
 | [], cs, i, h => .inr (by simpa only [meP] using h)
 | a :: as, [], i, h => by cases a <;> exact .inr (by simpa only [meP] using h)
 | a :: as, c :: cs, i, h => by
  cases a with
  | me f m =>
   simp only [meP, refsL, refs, List.mem_append] at h ⊢
   rcases h with h | h
   ·left
    obtain ⟨c', hc, hj⟩ := refsL_mem.1 h
    exact refsL_mem.2 ⟨c', List.mem_of_mem_drop (List.mem_of_mem_eraseIdx hc), hj⟩
   ·rcases meP_refs h with h | h
    ·exact .inl h
    ·exact .inr (.inr h)
  | _ =>
   simp only [meP, refsL, List.mem_append] at h ⊢
   rcases h with h | h
   ·exact .inr (.inl h)
   ·rcases meP_refs h with h | h
    ·exact .inl h
    ·exact .inr (.inr h)
theorem start_rel {P : Program} {E : Nat → En} {nt np : Nat} {w : World} {as : List Arg} {vs : List Value} {S L : List Nat} (harg : ArgsRep w as vs S L) (hrec : RecOK w as vs) (hL : L.Nodup) (hSL : ∀ b ∈ S, b ∉ L) (hG : GlobOK (E 0).gl w L)
  (hglp : ∀ g u x, lkN (E 0).gl g = some ⟨u, x⟩ → u.good = true) (hnp : np = jA as 0) (hsz : vs.length ≤ nt) :
  ∃ r0 n0, Rel (cx P E nt np r0 n0 0) w (fun b => b < w.heap.size ∧ b ∉ L) (enter as np) { tmps := vs.toArray ++ Array.replicate (nt - vs.toArray.size) undef, defers := [] } w ∧ Pins w r0 n0 as vs 0 := by
 obtain ⟨hj, N, hN, he, hp⟩ := entL 0 np harg
 have hnd := he.nd (by omega)
 have hle := he.le
 have hlk : ∀ id, lkH (nrH N) id = lkU (nrH N ++ killed []) (fun _ => .dead) id := by
  intro id
  have := congrFun (lkH_append (nrH N) []) id
  rw [List.append_nil] at this
  rw [this]
  simp [killed]
  rfl
 have hM : ∀ n ∈ N, nrR N (fun _ => (none, 0)) n.id = n.r ∧ lkH (entA as 0 np).2.1 n.id = n.R := by
  intro n hn
  refine ⟨by unfold nrR; rw [find_id hnd hn], ?_⟩
  rw [← hN, hlk]
  exact lkU_nr hnd hn
 have hdead : ∀ id, lkH (entA as 0 np).2.1 id ≠ .dead → ∃ n ∈ N, n.id = id := by
  intro id hd
  by_cases hm : id ∈ N.map NR.id
  ·obtain ⟨n, hn, e⟩ := List.mem_map.1 hm
   exact ⟨n, hn, e⟩
  ·rw [← hN, hlk, lkU_nr' hm] at hd
   simp at hd
 have hpl : ∀ n ∈ N, ∀ e u l g b, RowIs n.R e u l g b → lenOf N n.id = (e, u, l.length) := by
  intro n hn e u l g b hR
  unfold lenOf
  rw [find_id hnd hn]
  cases hR2 : n.R <;> rw [hR2] at hR <;> cases hR <;> simp only [hR2]
 refine ⟨nrR N (fun _ => (none, 0)), lenOf N, ⟨⟨w, fun b => b < w.heap.size ∧ b ∉ L, lkH (entA as 0 np).2.1, nrR N (fun _ => (none, 0)), w⟩, nrOwn N [] (fun _ => none), rfl, rfl, rfl, rfl, ?_⟩, hp _ _ fun n hn => ⟨(hM n hn).1, fun e u l g h => hpl n hn e u l g false (rowA h)⟩⟩
 have hav0 := he.av ⟨w, fun b => b < w.heap.size ∧ b ∉ L, lkH (entA as 0 np).2.1, nrR N (fun _ => (none, 0)), w⟩ rfl (fun b hb => ⟨argsRep_see harg b hb, hSL b hb⟩) hM
 have hav := meP_rep (as := as) hav0 (fun i f m hx => by
  obtain ⟨h1, b, t, h2, h3⟩ := hrec i f m hx
  obtain ⟨b', h4, h5⟩ := argsRep_x harg hx
  rw [h2] at h4
  cases h4
  exact ⟨h1, b, t, h2, h3, argsRep_see harg b h5, hSL b h5⟩) (as' := as) (i := 0) rfl rfl hav0
 have howner : ∀ n ∈ N, ∀ b ∈ n.F, nrOwn N [] (fun _ => none) b = some n.id := by
  intro n hn b hb
  unfold nrOwn
  rw [find_F (by rw [he.fF]; exact hL) hn hb]
 have hget : ∀ i v, vs[i]? = some v → (vs.toArray ++ Array.replicate (nt - vs.toArray.size) undef).getD i undef = v := by
  intro i v hv
  have hi := (List.getElem?_eq_some_iff.1 hv).1
  rw [Array.getD_eq_getD_getElem?, Array.getElem?_append_left (by simpa using hi)]
  simp [hv]
 refine { tm := ?_, tn := ?_, df := rfl, rt := ?_, ow := ?_, zf := fun _ _ => rfl, zb := fun b hb => hb.1, sz := Nat.le_refl _, os := rfl, tp := rfl, ot := rfl, ut := ?_, uo := ?_, ud := ?_, pin := fun _ _ => rfl, pl := ?_, pu := ?_, bo := hG.2.1, bz := hG.2.2.1, gl := ?_, gz := hG.2.2.2 }
 ·intro i
  rcases lkT_zip (j := i) (k := 0) hav with h | ⟨k, v, rfl, h1, h2, _⟩
  ·show AVRep _ (lkT (List.map _ _) i) _
   rw [h]; simp only [AVRep]
  ·show AVRep _ (lkT (List.map _ _) _) _
   have : (vs.toArray ++ Array.replicate (nt - vs.toArray.size) undef).getD (0 + k) undef = v := hget _ v (by simpa using h1)
   rw [this]
   exact h2
 ·show (vs.toArray ++ Array.replicate (nt - vs.toArray.size) undef).size = nt
  simp
  omega
 ·intro id
  show RootRep _ _ id (lkH (entA as 0 np).2.1 id)
  by_cases hd : lkH (entA as 0 np).2.1 id = .dead
  ·rw [hd]; trivial
  ·obtain ⟨n, hn, rfl⟩ := hdead id hd
   rw [(hM n hn).2]
   exact he.rt hL ⟨w, fun b => b < w.heap.size ∧ b ∉ L, lkH (entA as 0 np).2.1, nrR N (fun _ => (none, 0)), w⟩ rfl rfl (fun b hb => ⟨argsRep_see harg b hb, hSL b hb⟩) hM n hn _ (howner n hn)
 ·intro b id hb
  unfold nrOwn at hb
  split at hb
  ·rename_i n hn
   have hm := List.mem_of_find?_eq_some hn
   have hc := List.find?_some hn
   have hbL : b ∈ L := by rw [← he.fF]; exact List.mem_flatMap.2 ⟨n, hm, by simpa using hc⟩
   exact ⟨argsRep_lt' harg b hbL, fun hZ => hZ.2 hbL⟩
  ·cases hb
 ·intro i j hj'
  rcases lkT_zip (j := i) (k := 0) hav with h | ⟨k, v, rfl, h1, h2, h3⟩
  ·have hj' : j ∈ refs (lkT (((meP (entA as 0 np).1 as (entA as 0 np).1 0).zipIdx 0).map fun (v, i) => (i, v)) i) := hj'
   rw [h] at hj'
   simp [refs] at hj'
  ·have := he.ar j ((meP_refs (refsL_mem.2 ⟨_, h3, hj'⟩)).elim id id)
   show j < (entA as 0 np).2.2.2
   omega
 ·intro id cs hc j hj'
  have hc : lkH (entA as 0 np).2.1 id = .obj cs := hc
  obtain ⟨n, hn, rfl⟩ := hdead id (by rw [hc]; simp)
  rw [(hM n hn).2] at hc
  have := he.rf n hn cs hc j hj'
  exact this.2
 ·intro id hd
  obtain ⟨n, hn, rfl⟩ := hdead id hd
  have := he.rg n hn
  show n.id < (entA as 0 np).2.2.2
  omega
 ·intro j hj' e u l g b hl
  have hl : RowIs (lkH (entA as 0 np).2.1 j) e u l g b := hl
  obtain ⟨n, hn, rfl⟩ := hdead j (by intro h0; rw [h0] at hl; cases hl)
  rw [(hM n hn).2] at hl
  exact hpl n hn e u l g b hl
 ·intro j hj'
  have hj' : j < np := hj'
  show j < (entA as 0 np).2.2.2
  omega
 ·intro g u x hg
  have h1 := hG.1 g u x hg
  have h2 := hglp g u x hg
  cases u with
  | ar n v => exact .inr ⟨n, v, rfl, h2, h1⟩
  | _ => exact .inl ⟨h2, h1⟩
end Go.VM

namespace Go.VM
variable [Bor]
open Go.RowKit
section
variable {X : Cx} {M : Mem} {t : List (Nat × AV)} {used : Nat → Prop} {own : Nat → Option Nat} {a : Act} {E : En} {s : St}
def Took1 (own : Nat → Option Nat) (ns F : List Nat) : Prop := (ns.Nodup → F.Nodup) ∧ ∀ b ∈ F, ∃ id ∈ ns, own b = some id
theorem Took1.nil : Took1 own [] [] := ⟨fun _ => List.nodup_nil, by simp⟩
theorem Took1.app {ns ms F G : List Nat} (h1 : Took1 own ns F) (h2 : Took1 own ms G) : Took1 own (ms ++ ns) (F ++ G) := by
 refine ⟨fun hn => ?_, fun b hb => ?_⟩
 ·obtain ⟨n1, n2, n3⟩ := List.nodup_append.1 hn
  rw [List.nodup_append]
  refine ⟨h1.1 n2, h2.1 n1, fun p hp q hq e => ?_⟩
  subst e
  obtain ⟨i, hi, e1⟩ := h1.2 p hp
  obtain ⟨k, hk, e2⟩ := h2.2 p hq
  rw [e1] at e2; cases e2
  exact n3 i hk i hi rfl
 ·rcases List.mem_append.1 hb with hb | hb
  ·obtain ⟨i, hi, e⟩ := h1.2 b hb; exact ⟨i, by simp [hi], e⟩
  ·obtain ⟨i, hi, e⟩ := h2.2 b hb; exact ⟨i, by simp [hi], e⟩
theorem retA_ok (hi : Inv X M s.t used own a) (hh : M.h = lkH s.h) (hty : ∀ t u, lkN E.ty t = some u → TyOK X.P t u) : ∀ {rv : List (ResultVar × U)} {ks ks' : List Nat} {l : List TV}, retA E s rv ks = some (l, ks') →
  ∃ vs F ns, ((rv.map (·.1)).mapM fun x => match x with | .tmp t => pure (a.tmps.getD t undef) | .cell c t => do loadVar t (← asAddr (a.tmps.getD c undef)) : Sem (List Value)).run X.P M.w = .ok vs M.w ∧
   RetRep M.w l vs F ∧ ks' = ns ++ ks ∧ Took1 own ns F ∧ l.length = rv.length ∧ vs.length = rv.length
 | [], ks, ks', l, h => by
  simp only [retA, Option.some.injEq, Prod.mk.injEq] at h
  obtain ⟨rfl, rfl⟩ := h
  exact ⟨[], [], [], rfl, ⟨rfl, rfl⟩, rfl, .nil, rfl, rfl⟩
 | (x, u) :: rv, ks, ks', l, h => by
  simp only [retA] at h
  split at h
  case h_2 => cases h
  case h_1 v hv =>
   split at h
   case h_2 => cases h
   case h_1 y ks1 hy =>
    split at h
    case h_2 => cases h
    case h_1 l2 ks2 hl2 =>
     simp only [Option.some.injEq, Prod.mk.injEq] at h
     obtain ⟨rfl, rfl⟩ := h
     obtain ⟨hc, hy⟩ := sw_some hy
     simp only [Bool.and_eq_true] at hc
     obtain ⟨hp, hf⟩ := hc
     obtain ⟨vs, F2, ns2, h1, h2, h3, h4, h5, h5'⟩ := retA_ok hi hh hty hl2
     have hM : ∀ id, lkH s.h id ≠ .dead → M.h id = lkH s.h id := fun id _ => by rw [hh]
     -- the value
     have hval : ∃ val, (match x with | .tmp t => pure (a.tmps.getD t undef) | .cell c t => do loadVar t (← asAddr (a.tmps.getD c undef)) : Sem Value).run X.P M.w = .ok val M.w ∧ AVRep M v val := by
      cases x with
      | tmp t1 =>
       simp only [Option.some.injEq] at hv
       subst hv
       exact ⟨_, by simp, hi.tm t1⟩
      | cell c t1 =>
       simp only at hv
       split at hv
       case h_2 => cases hv
       case h_1 u' id o hu hpo =>
        split at hv
        case h_2 => cases hv
        case h_1 cs hcs =>
         obtain ⟨hd, hv⟩ := sw_some hv
         obtain rfl : u' = u := by simpa using hd
         obtain ⟨hle, _, rfl⟩ := piece?_some hv
         have ht := hty _ _ hu
         have hMo : M.h id = .obj cs := by rw [hh, hcs]
         have hx := hi.tm c
         rw [hpo] at hx
         simp only [AVRep] at hx
         obtain ⟨ad, ha, hv'⟩ := hx (by rw [hMo]; simp)
         have hrt := hi.rt id
         rw [hMo] at hrt
         obtain ⟨b, cc, t', hb', hw, hcc, _⟩ := hrt
         rw [ha] at hb'
         cases hb'
         have hlen := hcc.length
         refine ⟨_, ?_, pack_rep hp (hcc.piece o u'.az) (by rw [List.length_take, List.length_drop]; omega)⟩
         have hrun := load_run (P := X.P) (t := t1) (W := M.w) (a := (Addr.add ⟨b, 0, none⟩ o)) (cs := (cc.toList.drop o).take u'.az) ht (by rw [List.length_take, List.length_drop, az_sz hp] at *; omega) (fun hA => (sz_one hp hA).1) (by
          intro j v hj
          have hj := list_piece hj
          rw [Addr.add_add _ _ _ rfl]
          simp only [World.cell?, Addr.add_block, hw, Addr.add_off, Addr.add_spot (a := ⟨b, 0, none⟩) rfl, Option.isSome_none, Bool.false_eq_true, if_false, Nat.zero_add]
          rw [← Array.getElem?_toList]; exact hj)
         dsimp only
         rw [hv']
         simp only [asAddr, Sem.run_bind, Sem.run_pure, Result.andThen_ok]
         exact hrun
     obtain ⟨val, hrun, hav⟩ := hval
     obtain ⟨cs0, hr0, hvo⟩ := fits_val hp hf hav
     obtain ⟨c1, v1, v2, F1, ns1, _, hv12, hr2, hrep, hk1, ⟨hT1, hT2, _⟩, _⟩ := asmO_rep hi hM hp hy hr0
     simp only [AVRepL] at hr2
     subst hr2
     rw [List.append_nil] at hv12
     subst hv12
     refine ⟨val :: vs, F1 ++ F2, ns2 ++ ns1, ?_, ?_, ?_, Took1.app ⟨hT1, hT2⟩ h4, by simp [h5], by simp [h5']⟩
     ·simp only [List.map_cons, List.mapM_cons, Sem.run_bind, hrun, Result.andThen_ok, h1, Sem.run_pure]
     ·exact ⟨cs0, vs, F1, F2, by rw [hvo cs0 (Rep.length hrep) rfl], rfl, hp, hrep, h2⟩
     ·rw [h3, hk1]; simp
mutual
theorem jA1_le : ∀ (a : Arg) (j : Nat), j ≤ jA1 a j
 | .v .., j => by simp [jA1]
 | .p .., j => by simp [jA1]
 | .s .., j => by simp [jA1]
 | .g .., j => by simp [jA1]
 | .q .., j => by simp [jA1]
 | .me .., j => by simp [jA1]
 | .fn f cs, j => by simp only [jA1]; exact jA_le cs j
 | .cf f cs, j => by simp only [jA1]; exact jA_le cs j
 | .ag cs, j => by simp only [jA1]; exact jA_le cs j
theorem jA_le : ∀ (as : List Arg) (j : Nat), j ≤ jA as j
 | [], j => by simp [jA]
 | a :: r, j => by simp only [jA]; exact Nat.le_trans (jA1_le a j) (jA_le r _)
end
mutual
theorem out1_ok (hi : Inv X M s.t used own a) (hh : M.h = lkH s.h) : ∀ {b : Arg} {v : Value} {j : Nat}, Pin1 M.w0 X.r0 X.n0 b v j → jA1 b j ≤ X.np → ∀ {rest : List (Option U)} {ks ks' : List Nat} {m : List TV}, outA s (outs1 b ++ rest) j ks = some (m, ks') →
  ∃ m1 m2 ksm ns F, m = m1 ++ m2 ∧ outA s rest (jA1 b j) ksm = some (m2, ks') ∧ ksm = ns ++ ks ∧ OutRep M.w0 M.w b v m1 F ∧ Took1 own ns F ∧ m1.length = (outs1 b).length
 | .v u x, v, j, hp, hj, rest, ks, ks', m, h => by
  simp only [outs1, List.nil_append] at h
  exact ⟨[], m, ks, [], [], rfl, by simpa only [jA1] using h, rfl, by simp [OutRep], .nil, by simp [outs1]⟩
 | .p u x, v, j, hp, hj, rest, ks, ks', m, h => by
  simp only [Pin1] at hp
  obtain ⟨bl, rfl, hr0⟩ := hp
  simp only [jA1] at hj
  simp only [outs1, List.cons_append, List.nil_append, outA] at h
  split at h
  case h_2 => cases h
  case h_1 cs hcs =>
   split at h
   case h_2 => cases h
   case h_1 y ks1 hy =>
    split at h
    case h_2 => cases h
    case h_1 l2 ks2 hl2 =>
     simp only [Option.some.injEq, Prod.mk.injEq] at h
     obtain ⟨rfl, rfl⟩ := h
     obtain ⟨hpl, hy⟩ := sw_some hy
     have hM : ∀ id, lkH s.h id ≠ .dead → M.h id = lkH s.h id := fun id _ => by rw [hh]
     have hMo : M.h j = .obj cs := by rw [hh, hcs]
     have hrt := hi.rt j
     rw [hMo] at hrt
     obtain ⟨b, cc, t', hb', hw, hcc, hob⟩ := hrt
     rw [hi.pin j (by omega), hr0] at hb'
     cases hb'
     obtain ⟨c1, v1, v2, F1, ns1, _, hv12, hr2, hrep, hk1, ⟨hT1, hT2, hT3⟩, _⟩ := asmO_rep hi hM hpl hy hcc
     simp only [AVRepL] at hr2
     subst hr2
     rw [List.append_nil] at hv12
     refine ⟨[⟨u, y⟩], l2, ks1, ns1 ++ [j], bl :: F1, rfl, by simpa only [jA1] using hl2, by rw [hk1]; simp, ?_, ?_, by simp [outs1]⟩
     ·simp only [OutRep]
      exact ⟨y, bl, cc, t', F1, rfl, rfl, hw, by rw [hv12]; exact hrep, rfl⟩
     ·refine ⟨fun hn => ?_, fun p hp' => ?_⟩
      ·obtain ⟨n1, _, n3⟩ := List.nodup_append.1 hn
       refine List.nodup_cons.2 ⟨fun hb => ?_, hT1 n1⟩
       obtain ⟨i, hi', e⟩ := hT2 bl hb
       rw [hob] at e; cases e
       exact n3 j hi' j (by simp) rfl
      ·rcases List.mem_cons.1 hp' with rfl | hp'
       ·exact ⟨j, by simp, hob⟩
       ·obtain ⟨i, hi', e⟩ := hT2 p hp'
        exact ⟨i, by simp [hi'], e⟩
 | .s e u x, v, j, hp, hj, rest, ks, ks', m, h => by
  simp only [Pin1] at hp
  obtain ⟨hpl, hv, hn0⟩ := hp
  simp only [jA1] at hj
  simp only [outs1, List.cons_append, List.nil_append, outA] at h
  split at h
  case h_2 => cases h
  case h_1 e' u' l g hl =>
   split at h
   case h_2 => cases h
   case h_1 l2 ks2 hl2 =>
    simp only [Option.some.injEq, Prod.mk.injEq] at h
    obtain ⟨rfl, rfl⟩ := h
    have hMo : M.h j = .arr e' u' l g := by rw [hh, hl]
    have h1 := hi.pl j (by omega) _ _ _ _ _ (rowA hMo)
    rw [hn0] at h1
    simp only [Prod.mk.injEq] at h1
    obtain ⟨rfl, rfl, hlen⟩ := h1
    have hrt := hi.rt j
    rw [hMo] at hrt
    obtain ⟨_, F, hsl, hF, hob⟩ := hrt
    rw [hi.pin j (by omega), ← hlen, ← hv] at hsl
    refine ⟨[⟨.sl e u, l⟩], l2, j :: ks, [j], F, rfl, by simpa only [jA1] using hl2, rfl, ?_, ⟨fun _ => hF, fun b hb => ⟨j, by simp, hob b hb⟩⟩, by simp [outs1]⟩
    simp only [OutRep]
    exact ⟨l, rfl, hlen.symm, hsl⟩
 | .g u x, v, j, hp, hj, rest, ks, ks', m, h => by
  simp only [outs1, List.nil_append] at h
  exact ⟨[], m, ks, [], [], rfl, by simpa only [jA1] using h, rfl, by simp [OutRep], .nil, by simp [outs1]⟩
 | .me f mm, v, j, hp, hj, rest, ks, ks', m, h => by
  simp only [outs1, List.nil_append] at h
  exact ⟨[], m, ks, [], [], rfl, by simpa only [jA1] using h, rfl, by simp [OutRep], .nil, by simp [outs1]⟩
 | .q u x, v, j, hp, hj, rest, ks, ks', m, h => by
  simp only [outs1, List.nil_append] at h
  exact ⟨[], m, ks, [], [], rfl, by simpa only [jA1] using h, rfl, by simp [OutRep], .nil, by simp [outs1]⟩
 | .ag cs, v, j, hp, hj, rest, ks, ks', m, h => by
  simp only [Pin1] at hp
  obtain ⟨vs, rfl, hp⟩ := hp
  simp only [jA1] at hj
  simp only [outs1] at h
  obtain ⟨m1, m2, ksm, ns, F, h1, h2, h3, h4, h5, h6⟩ := outL_ok hi hh hp hj h
  refine ⟨m1, m2, ksm, ns, F, h1, by simpa only [jA1] using h2, h3, ?_, h5, by simpa only [outs1] using h6⟩
  simp only [OutRep]
  exact ⟨vs, rfl, h4⟩
 | .fn f cs, v, j, hp, hj, rest, ks, ks', m, h => by
  simp only [Pin1] at hp
  obtain ⟨g, vs, rfl, hp⟩ := hp
  simp only [jA1] at hj
  simp only [outs1] at h
  obtain ⟨m1, m2, ksm, ns, F, h1, h2, h3, h4, h5, h6⟩ := outL_ok hi hh hp hj h
  refine ⟨m1, m2, ksm, ns, F, h1, by simpa only [jA1] using h2, h3, ?_, h5, by simpa only [outs1] using h6⟩
  simp only [OutRep]
  exact ⟨g, vs, rfl, h4⟩
 | .cf f cs, v, j, hp, hj, rest, ks, ks', m, h => by
  simp only [Pin1] at hp
  obtain ⟨g, b, t, vs, rfl, hb, hp⟩ := hp
  simp only [jA1] at hj
  simp only [outs1] at h
  obtain ⟨m1, m2, ksm, ns, F, h1, h2, h3, h4, h5, h6⟩ := outL_ok hi hh hp hj h
  refine ⟨m1, m2, ksm, ns, F, h1, by simpa only [jA1] using h2, h3, ?_, h5, by simpa only [outs1] using h6⟩
  simp only [OutRep]
  exact ⟨g, b, t, vs, rfl, hb, h4⟩
theorem outL_ok (hi : Inv X M s.t used own a) (hh : M.h = lkH s.h) : ∀ {as : List Arg} {vs : List Value} {j : Nat}, Pins M.w0 X.r0 X.n0 as vs j → jA as j ≤ X.np → ∀ {rest : List (Option U)} {ks ks' : List Nat} {m : List TV}, outA s (outsL as ++ rest) j ks = some (m, ks') →
  ∃ m1 m2 ksm ns F, m = m1 ++ m2 ∧ outA s rest (jA as j) ksm = some (m2, ks') ∧ ksm = ns ++ ks ∧ OutsRep M.w0 M.w as vs m1 F ∧ Took1 own ns F ∧ m1.length = (outsL as).length
 | [], vs, j, hp, hj, rest, ks, ks', m, h => by
  simp only [outsL, List.nil_append] at h
  exact ⟨[], m, ks, [], [], rfl, by simpa only [jA] using h, rfl, by simp [OutsRep], .nil, by simp [outsL]⟩
 | b :: as, vs, j, hp, hj, rest, ks, ks', m, h => by
  simp only [Pins] at hp
  obtain ⟨v, vr, rfl, hp1, hp2⟩ := hp
  simp only [jA] at hj
  simp only [outsL, List.append_assoc] at h
  obtain ⟨m1, m2, ksm, ns, F, rfl, h2, rfl, h4, h5, h6⟩ := out1_ok hi hh hp1 (Nat.le_trans (jA_le as _) hj) h
  obtain ⟨m3, m4, ksn, ns2, F2, rfl, g2, rfl, g4, g5, g6⟩ := outL_ok hi hh hp2 hj h2
  refine ⟨m1 ++ m3, m4, ns2 ++ (ns ++ ks), ns2 ++ ns, F ++ F2, by simp, by simpa only [jA] using g2, by simp, ?_, Took1.app h5 g5, by simp [outsL, h6, g6]⟩
  simp only [OutsRep]
  exact ⟨v, vr, m1, m3, F, F2, rfl, rfl, rfl, h4, g4⟩
end
end
end Go.VM

namespace Go.VM
variable [Bor]
open Go.RowKit
theorem results_ok {fn : Func} {tmps : Array Value} {P : Program} {w : World} {rv : List ResultVar} {vs : List Value} (hr : fn.results.toList = rv) (hlen : vs.length = rv.length)
  (h : (rv.mapM fun x => match x with | .tmp t => pure (tmps.getD t undef) | .cell c t => do loadVar t (← asAddr (tmps.getD c undef)) : Sem (List Value)).run P w = .ok vs w) : (results fn tmps).run P w = .ok (resV vs) w := by
 have h1 : fn.results = rv.toArray := by rw [← hr]
 have h2 : ((Array.mapM (fun x => match x with | .tmp t => pure (tmps.getD t undef) | .cell c t => do loadVar t (← asAddr (tmps.getD c undef))) fn.results : Sem (Array Value))).run P w = .ok vs.toArray w := by
  rw [h1, List.mapM_toArray]
  simp only [Sem.run_map, h]
  rfl
 unfold results
 rw [Sem.run_bind]
 refine (congrArg (fun r => Result.andThen r _) (Eq.trans ?_ h2)).trans ?_
 ·rfl
 ·simp only [Result.andThen_ok, Sem.run_pure]
  congr 1
  match vs with
  | [] => rfl
  | [v] => rfl
  | a :: b :: r => simp [resV]
theorem tup_tvs : ∀ {us : List U} {l : List TV} {y : Tup us}, tup us l = some y → tvs us y = l
 | [], [], y, h => rfl
 | [u], [⟨v, x⟩], y, h => by
  simp only [tup] at h
  split at h
  ·rename_i e; subst e
   simp only [Option.some.injEq] at h
   subst h
   rfl
  ·cases h
 | u :: w :: r, ⟨v, x⟩ :: l, y, h => by
  simp only [tup] at h
  split at h
  ·rename_i e; subst e
   split at h
   ·rename_i z hz
    simp only [Option.some.injEq] at h
    subst h
    simp only [tvs]
    rw [tup_tvs hz]
   ·cases h
  ·cases h
 | [], _ :: _, _, h => by simp [tup] at h
 | [_], [], _, h => by simp [tup] at h
 | [_], _ :: _ :: _, _, h => by simp [tup] at h
 | _ :: _ :: _, [], _, h => by simp [tup] at h
theorem outA_h {s s' : St} (h : s.h = s'.h) : ∀ {l : List (Option U)} {j : Nat} {ks : List Nat}, outA s l j ks = outA s' l j ks
 | [], j, ks => rfl
 | some u :: r, j, ks => by
  simp only [outA, h]
  congr 1
  funext cs
  congr 1
  funext y ks
  rw [outA_h h]
 | none :: r, j, ks => by
  simp only [outA, h]
  congr 1
  funext e u l g
  rw [outA_h h]
theorem fun_ok {P : Program} {E : Nat → En} {F : Fun} {f : Nat} {fn : Func} {as : List Arg} {ρ : Type} {K : Res → Option ρ} {y : ρ} {res : Res} {m Mx : Nat} (hf : P.funcs[f]? = some fn) (hb : fn.body = some F.c) (hr : fn.results.toList = F.rv.map (·.1)) (hd : dstB fn.ntmps F.c = true)
  (hgl : ∀ m, (E m).gl = (E 0).gl) (hglp : ∀ g u x, lkN (E 0).gl g = some ⟨u, x⟩ → u.good = true) (hty : ∀ m t u, lkN (E m).ty t = some u → TyOK P t u) (hcal : ∀ m < Mx, CalOK P (E 0).gl (E m)) (hmx : P.follows .mixedOrders = true) (hbl : ∀ m g k T t, lkN (E m).md g = some [.bl k T t] → BlK P T t g k)
  (hm : m ≤ Mx) (hnp : F.np = jA as 0) (houts : F.outs = outsL as) (hsz : ∀ w vs S L, ArgsRep w as vs S L → vs.length ≤ fn.ntmps) (hnt : fn.ntmps ≤ panT) (hK : ∀ r, K r = some y → r.pan = none → r.ret.length = F.rv.length → r.ret = res.ret ∧ r.outs = res.outs ∧ ∀ t, res.pan ≠ some (t, true)) (hKp : ∀ t m, K ⟨[], m, some (t, true)⟩ = some y → res.pan = some (t, true) ∧ res.outs = m)
  (hy : run E F.np F.ks (finA (E 0) F.rv F.outs K) F.c m 0 (enter as F.np) = some y) : CallOK P (E 0).gl f as res := by
 intro w vs S L harg hrec hL hSL hG
 obtain ⟨r0, n0, hrel, hpins⟩ := start_rel (P := P) (E := E) (nt := fn.ntmps) (np := F.np) harg hrec hL hSL hG hglp hnp (hsz w vs S L harg)
 have hE : ∀ m < Mx, EnOK (cx P E fn.ntmps F.np r0 n0 m) := fun m hm => ⟨hty m, by show CalOK P (E m).gl (E m); rw [hgl m]; exact hcal m hm, hmx, hbl m⟩
 refine calls_of_wp hf hb (wp_mono (run_ok hgl hE hd hm hrel hy) ?_)
 have key : ∀ a w', (∃ s, Rel (cx P E fn.ntmps F.np r0 n0 0) w (fun b => b < w.heap.size ∧ b ∉ L) s a w' ∧ finA (E 0) F.rv F.outs K s = some y) → a.defers = [] ∧ ∃ v, (results fn a.tmps).run P w' = .ok v w' ∧
   ∃ rv G O, Ending.returned v = endR res.pan rv ∧ RetB w' res.pan res.ret rv G ∧ OutsRep w w' as vs res.outs O ∧ (G ++ O).Nodup ∧ (∀ b ∈ G ++ O, b < w'.heap.size ∧ (b < w.heap.size → b ∈ L)) ∧
   w'.os = w.os ∧ w'.tape = w.tape ∧ w'.output = w.output ∧ w.heap.size ≤ w'.heap.size ∧ ∀ b, b < w.heap.size → b ∉ L → w'.heap[b]? = w.heap[b]? := by
  rintro a w' ⟨s, ⟨M, own, h0, hZ, rfl, hh, hi⟩, hfin⟩
  have hun : ∀ c cs, lkT s.t panT ≠ .tup (c :: cs) := by
   intro c cs hcs
   have h1 := hi.tm panT
   rw [hcs] at h1
   simp only [AVRep] at h1
   obtain ⟨vs', h1, h3⟩ := h1
   have h2 : a.tmps.getD panT undef = undef := by
    have hs : a.tmps.size = fn.ntmps := hi.tn
    have : a.tmps.size ≤ panT := by omega
    simp [Array.getD_eq_getD_getElem?, Array.getElem?_eq_none this]
   rw [h2] at h1
   simp only [undef, Value.tuple.injEq] at h1
   simp only [AVRepL] at h3
   obtain ⟨v, r, rfl, _⟩ := h3
   simp at h1
  unfold finA at hfin
  split at hfin
  case h_1 => rename_i hx; exact absurd hx (hun _ _)
  case h_2 => cases hfin
  case h_3 =>
  split at hfin
  case h_2 => cases hfin
  case h_1 l ks hl =>
   split at hfin
   case h_2 => cases hfin
   case h_1 o ks2 ho =>
    obtain ⟨hnd, hfin2⟩ := sw_some hfin
    clear hfin
    have hnd := nodup_iff.1 hnd
    obtain ⟨rvs, G, ns, hres, hret, hks, hT, hl1, hl2⟩ := retA_ok hi hh (fun t u h => hty 0 t u h) hl
    rw [houts, ← List.append_nil (outsL as)] at ho
    obtain ⟨m1, m2, ksm, ns2, O, hm12, ho2, hks2, hout, hT2, hlo⟩   := outL_ok hi hh (by rw [h0]; exact hpins) (by rw [← hnp]; exact Nat.le_refl _) ho
    simp only [outA, Option.some.injEq, Prod.mk.injEq] at ho2
    obtain ⟨rfl, rfl⟩ := ho2
    rw [List.append_nil] at hm12
    subst hm12
    rw [hks, List.append_nil] at hks2
    subst hks2
    obtain ⟨hr1, hr2, hr3⟩ := hK ⟨l, o, none⟩ hfin2 rfl hl1
    simp only at hr1 hr2
    rw [hr1] at hret
    rw [hr2] at hout
    have hend : endR res.pan rvs = .returned (resV rvs) ∧ RetB M.w res.pan res.ret rvs G := by
     cases hpn : res.pan with
     | none => exact ⟨rfl, hret⟩
     | some p =>
      obtain ⟨pt, b⟩ := p
      cases b with
      | true => exact absurd hpn (hr3 pt)
      | false => exact ⟨rfl, hret⟩
    rw [h0] at hout
    have hboth := Took1.app hT hT2
    have hsub : ∀ b ∈ G ++ O, ∃ id, own b = some id := fun b hb => by obtain ⟨i, _, e⟩ := hboth.2 b hb; exact ⟨i, e⟩
    refine ⟨hi.df, resV rvs, results_ok hr (by rw [hl2]; simp) hres, rvs, G, O, hend.1.symm, hend.2, hout, hboth.1 hnd, fun b hb => ?_, ?_, ?_, ?_, ?_, fun b hb1 hb2 => ?_⟩
    ·obtain ⟨i, e⟩ := hsub b hb
     obtain ⟨h1, h2⟩ := hi.ow b i e
     refine ⟨h1, fun hlt => ?_⟩
     by_cases hbL : b ∈ L
     ·exact hbL
     ·rw [hZ] at h2
      exact absurd ⟨hlt, hbL⟩ h2
    ·rw [hi.os, h0]
    ·rw [hi.tp, h0]
    ·rw [hi.ot, h0]
    ·have := hi.sz; rw [h0] at this; exact this
    ·have := hi.zf b (by rw [hZ]; exact ⟨hb1, hb2⟩)
     rw [h0] at this; exact this
 intro e a w' hp
 cases e with
 | normal => exact key a w' hp
 | ret => exact key a w' hp
 | exit id => exact hp.elim
 | goto l => exact hp.elim
 | panic ch =>
  obtain ⟨pt, hp', rfl, ⟨M, t2, used, own, h0, hZ, rfl, hh, hi⟩, hfin⟩ := hp
  refine ⟨hi.df, ?_⟩
  unfold finA at hfin
  rw [show lkT (panSt pt hp').t panT = .tup [.po pt 0] from rfl] at hfin
  simp only at hfin
  split at hfin
  case h_2 => cases hfin
  case h_1 o ks2 ho =>
   obtain ⟨hnd, hfin2⟩ := sw_some hfin
   have hnd := nodup_iff.1 hnd
   obtain ⟨hrp, hro⟩ := hKp _ _ hfin2
   subst hro
   rw [outA_h (s := panSt pt hp') (s' := ⟨t2, hp', 0⟩) rfl, houts, ← List.append_nil (outsL as)] at ho
   have hpin' : Pins M.w0 r0 n0 as vs 0 := by rw [h0]; exact hpins
   obtain ⟨m1, m2, ksm, ns2, O, hm12, ho2, hks2, hout, hT2, hlo⟩ := outL_ok (s := ⟨t2, hp', 0⟩) hi hh hpin' (by rw [← hnp]; exact Nat.le_refl _) ho
   simp only [outA, Option.some.injEq, Prod.mk.injEq] at ho2
   obtain ⟨rfl, rfl⟩ := ho2
   rw [List.append_nil] at hm12
   subst hm12
   rw [List.append_nil] at hks2
   subst hks2
   rw [h0] at hout
   have hsub : ∀ b ∈ O, ∃ id, own b = some id := fun b hb => by obtain ⟨i, _, e⟩ := hT2.2 b hb; exact ⟨i, e⟩
   refine ⟨[], [], O, by rw [hrp]; rfl, by rw [hrp]; rfl, hout, by rw [List.nil_append]; exact hT2.1 hnd, fun b hb => ?_, ?_, ?_, ?_, ?_, fun b hb1 hb2 => ?_⟩
   ·rw [List.nil_append] at hb
    obtain ⟨i, e⟩ := hsub b hb
    obtain ⟨h1, h2⟩ := hi.ow b i e
    refine ⟨h1, fun hlt => ?_⟩
    by_cases hbL : b ∈ L
    ·exact hbL
    ·rw [hZ] at h2
     exact absurd ⟨hlt, hbL⟩ h2
   ·rw [hi.os, h0]
   ·rw [hi.tp, h0]
   ·rw [hi.ot, h0]
   ·have := hi.sz; rw [h0] at this; exact this
   ·have := hi.zf b (by rw [hZ]; exact ⟨hb1, hb2⟩)
    rw [h0] at this; exact this
 | outgrown => exact hp.elim
end Go.VM

namespace Go.VM
variable [Bor]
open Go.RowKit
mutual
theorem get_arg : ∀ {t : Ty} {a : Arg} {x : t.El}, Ty.get t a = some x → a = Ty.arg t x
 | .v u, .v w y, x, h => by
  simp only [Ty.get] at h
  split at h
  ·rename_i e; subst e; simp only [Option.some.injEq] at h; subst h; rfl
  ·cases h
 | .p u, .p w y, x, h => by
  simp only [Ty.get] at h
  split at h
  ·rename_i e; subst e; simp only [Option.some.injEq] at h; subst h; rfl
  ·cases h
 | .s e u, .s e' w y, x, h => by
  simp only [Ty.get] at h
  split at h
  ·rename_i e; obtain ⟨rfl, rfl⟩ := e; simp only [Option.some.injEq] at h; subst h; rfl
  ·cases h
 | .g u, .g w y, x, h => by
  simp only [Ty.get] at h
  split at h
  ·rename_i e; subst e; simp only [Option.some.injEq] at h; subst h; rfl
  ·cases h
 | .q u, .q w y, x, h => by
  simp only [Ty.get] at h
  split at h
  ·rename_i e; subst e; simp only [Option.some.injEq] at h; subst h; rfl
  ·cases h
 | .fn f cs, .fn g as, x, h => by
  simp only [Ty.get] at h
  obtain ⟨e, h2⟩ := sw_some h
  have e : f = g := by simpa using e
  have h3 := gets_args h2
  simp only [Ty.arg]
  rw [← h3, e]
 | .me f m, .me g n, x, h => by
  simp only [Ty.get] at h
  obtain ⟨e, _⟩ := sw_some h
  simp only [Bool.and_eq_true, Nat.beq_eq] at e
  simp only [Ty.arg]
  rw [e.1, e.2]
 | .ag cs, .ag as, x, h => by
  simp only [Ty.get] at h
  have h3 := gets_args h
  simp only [Ty.arg]
  rw [← h3]
 | .cf f cs, .cf g as, x, h => by
  simp only [Ty.get] at h
  obtain ⟨e, h2⟩ := sw_some h
  have e : f = g := by simpa using e
  have h3 := gets_args h2
  simp only [Ty.arg]
  rw [← h3, e]
 | .cf .., .v .., _, h => by simp [Ty.get] at h
 | .v .., .cf .., _, h => by simp [Ty.get] at h
 | .cf .., .p .., _, h => by simp [Ty.get] at h
 | .p .., .cf .., _, h => by simp [Ty.get] at h
 | .cf .., .s .., _, h => by simp [Ty.get] at h
 | .s .., .cf .., _, h => by simp [Ty.get] at h
 | .cf .., .g .., _, h => by simp [Ty.get] at h
 | .g .., .cf .., _, h => by simp [Ty.get] at h
 | .cf .., .q .., _, h => by simp [Ty.get] at h
 | .q .., .cf .., _, h => by simp [Ty.get] at h
 | .cf .., .fn .., _, h => by simp [Ty.get] at h
 | .fn .., .cf .., _, h => by simp [Ty.get] at h
 | .cf .., .me .., _, h => by simp [Ty.get] at h
 | .me .., .cf .., _, h => by simp [Ty.get] at h
 | .cf .., .ag .., _, h => by simp [Ty.get] at h
 | .ag .., .cf .., _, h => by simp [Ty.get] at h
 | .ag .., .v .., _, h => by simp [Ty.get] at h
 | .v .., .ag .., _, h => by simp [Ty.get] at h
 | .ag .., .p .., _, h => by simp [Ty.get] at h
 | .p .., .ag .., _, h => by simp [Ty.get] at h
 | .ag .., .s .., _, h => by simp [Ty.get] at h
 | .s .., .ag .., _, h => by simp [Ty.get] at h
 | .ag .., .g .., _, h => by simp [Ty.get] at h
 | .g .., .ag .., _, h => by simp [Ty.get] at h
 | .ag .., .q .., _, h => by simp [Ty.get] at h
 | .q .., .ag .., _, h => by simp [Ty.get] at h
 | .ag .., .fn .., _, h => by simp [Ty.get] at h
 | .fn .., .ag .., _, h => by simp [Ty.get] at h
 | .ag .., .me .., _, h => by simp [Ty.get] at h
 | .me .., .ag .., _, h => by simp [Ty.get] at h
 | .me .., .v .., _, h => by simp [Ty.get] at h
 | .v .., .me .., _, h => by simp [Ty.get] at h
 | .me .., .p .., _, h => by simp [Ty.get] at h
 | .p .., .me .., _, h => by simp [Ty.get] at h
 | .me .., .q .., _, h => by simp [Ty.get] at h
 | .q .., .me .., _, h => by simp [Ty.get] at h
 | .me .., .s .., _, h => by simp [Ty.get] at h
 | .s .., .me .., _, h => by simp [Ty.get] at h
 | .me .., .g .., _, h => by simp [Ty.get] at h
 | .g .., .me .., _, h => by simp [Ty.get] at h
 | .me .., .fn .., _, h => by simp [Ty.get] at h
 | .fn .., .me .., _, h => by simp [Ty.get] at h
 | .v .., .p .., _, h => by simp [Ty.get] at h
 | .v .., .s .., _, h => by simp [Ty.get] at h
 | .v .., .g .., _, h => by simp [Ty.get] at h
 | .v .., .fn .., _, h => by simp [Ty.get] at h
 | .p .., .v .., _, h => by simp [Ty.get] at h
 | .p .., .s .., _, h => by simp [Ty.get] at h
 | .p .., .g .., _, h => by simp [Ty.get] at h
 | .p .., .fn .., _, h => by simp [Ty.get] at h
 | .s .., .v .., _, h => by simp [Ty.get] at h
 | .s .., .p .., _, h => by simp [Ty.get] at h
 | .s .., .g .., _, h => by simp [Ty.get] at h
 | .s .., .fn .., _, h => by simp [Ty.get] at h
 | .g .., .v .., _, h => by simp [Ty.get] at h
 | .g .., .p .., _, h => by simp [Ty.get] at h
 | .g .., .s .., _, h => by simp [Ty.get] at h
 | .g .., .fn .., _, h => by simp [Ty.get] at h
 | .fn .., .v .., _, h => by simp [Ty.get] at h
 | .fn .., .p .., _, h => by simp [Ty.get] at h
 | .fn .., .s .., _, h => by simp [Ty.get] at h
 | .fn .., .g .., _, h => by simp [Ty.get] at h
 | .q .., .v .., _, h => by simp [Ty.get] at h
 | .v .., .q .., _, h => by simp [Ty.get] at h
 | .q .., .p .., _, h => by simp [Ty.get] at h
 | .p .., .q .., _, h => by simp [Ty.get] at h
 | .q .., .s .., _, h => by simp [Ty.get] at h
 | .s .., .q .., _, h => by simp [Ty.get] at h
 | .q .., .g .., _, h => by simp [Ty.get] at h
 | .g .., .q .., _, h => by simp [Ty.get] at h
 | .q .., .fn .., _, h => by simp [Ty.get] at h
 | .fn .., .q .., _, h => by simp [Ty.get] at h
theorem gets_args : ∀ {l : List Ty} {as : List Arg} {x : Ty.Els l}, Ty.gets l as = some x → as = Ty.args l x
 | [], [], x, _ => rfl
 | t :: l, a :: as, x, h => by
  simp only [Ty.gets] at h
  split at h
  ·rename_i y hy
   split at h
   ·rename_i z hz
    simp only [Option.some.injEq] at h
    subst h
    simp only [Ty.args]
    rw [get_arg hy, gets_args hz]
   ·cases h
  ·cases h
 | [], _ :: _, _, h => by simp [Ty.gets] at h
 | _ :: _, [], _, h => by simp [Ty.gets] at h
end
def FnHere (P : Program) (f : Nat) : Prop := ∃ fn, P.funcs[f]? = some fn ∧ fn.body.isSome ∧ fn.name ≠ "runtime.NumGoroutine"
def CtrAt (P : Program) (gl : List (Nat × TV)) (e : Ctr) (n : Nat) : Prop := FnHere P e.f ∧ ∀ (B : Bor) x y, e.fn n x = some y → @CallOK B P gl e.f (Ty.args e.ins x) (e.res y)
def CtrOK (P : Program) (gl : List (Nat × TV)) (e : Ctr) : Prop := ∀ n, CtrAt P gl e n
theorem calOf_ok {P : Program} {gl : List (Nat × TV)} {ρ : Type} {n f : Nat} {as : List Arg} {K : Res → Option ρ} {y : ρ} : ∀ {T : List Ctr}, (∀ e ∈ T, CtrAt P gl e n) → calOf T n ρ f as K = some y → FnHere P f ∧ ∃ res, K res = some y ∧ ∀ B : Bor, @CallOK B P gl f as res
 | [], _, h => by cases h
 | e :: T, hT, h => by
  simp only [calOf] at h
  cases hb : Nat.beq e.f f with
  | true =>
   rw [hb, sw_true rfl] at h
   obtain rfl : e.f = f := by simpa using hb
   split at h
   ·rename_i x hx
    cases hf : e.fn n x with
    | none => rw [hf] at h; cases h
    | some z =>
     rw [hf] at h
     obtain ⟨h1, h2⟩ := hT e (by simp)
     exact ⟨h1, _, h, by rw [gets_args hx]; exact fun B => h2 B x z hf⟩
   ·exact calOf_ok (fun e he => hT e (by simp [he])) h
  | false =>
   rw [hb, sw_false rfl] at h
   exact calOf_ok (fun e he => hT e (by simp [he])) h
theorem args_len {w : World} : ∀ {as : List Arg} {vs : List Value} {S L : List Nat}, ArgsRep w as vs S L → vs.length = as.length
 | [], vs, S, L, h => by unfold ArgsRep at h; rw [h.1]; rfl
 | a :: as, vs, S, L, h => by
  unfold ArgsRep at h
  obtain ⟨v, vr, S1, S2, L1, L2, rfl, _, _, _, h⟩ := h
  simp [args_len h]
theorem tyArgs_len : ∀ {l : List Ty} {x : Ty.Els l}, (Ty.args l x).length = l.length
 | [], _ => rfl
 | t :: l, x => by simp only [Ty.args, List.length_cons, tyArgs_len]
structure Text (P : Program) (F : Fun) (e : Ctr) : Prop where
 fn : ∃ fn, P.funcs[e.f]? = some fn ∧ fn.body = some F.c ∧ fn.name ≠ "runtime.NumGoroutine" ∧ fn.results.toList = F.rv.map (·.1) ∧ dstB fn.ntmps F.c = true ∧ e.ins.length ≤ fn.ntmps ∧ fn.ntmps ≤ panT
 np : ∀ x, F.np = jA (Ty.args e.ins x) 0
 outs : ∀ x, F.outs = outsL (Ty.args e.ins x)
 rv : F.rv.length + (match e.pan with | none => 0 | some _ => 1) = e.ret.length
structure Tabs (P : Program) (ty : List (Nat × U)) (gl : List (Nat × TV)) : Prop where
 ty : ∀ t u, lkN ty t = some u → TyOK P t u
 gl : ∀ g u x, lkN gl g = some ⟨u, x⟩ → u.good = true
 mx : P.follows .mixedOrders = true
theorem run_goRec {α ρ : Type} {E : Nat → En} {np : Nat} {ks : List (Nat × Keep)} {fin : St → Option ρ} {c : Code} {lb : α → Nat} {st : α → St} {step : Nat → (α → Option ρ) → α → Option ρ}
  (h : ∀ n (goto : Nat → St → Option ρ) y, seg (E n) np ks goto fin c (lb y) (st y) = step n (fun z => goto (lb z) (st z)) y) : ∀ n y, run E np ks fin c n (lb y) (st y) = goRec step n y
 | 0, y => rfl
 | n + 1, y => by
  simp only [run, goRec]
  rw [h]
  congr 1
  funext z
  exact run_goRec h n z
def BlsOK (P : Program) (md : List (Nat × List Md)) : Prop := ∀ g k T t, lkN md g = some [.bl k T t] → BlK P T t g k
theorem blsNo {P : Program} {md : List (Nat × List Md)} (h : md.all (fun x => match x.2 with | [.bl ..] => false | _ => true) = true) : BlsOK P md := by
 intro g k T t hl
 have : ∀ {l : List (Nat × List Md)}, l.all (fun x => match x.2 with | [.bl ..] => false | _ => true) = true → lkN l g = some [.bl k T t] → False := by
  intro l
  induction l with
  | nil => intro _ h; simp [lkN] at h
  | cons x l ih =>
   intro h1 h2
   obtain ⟨i, v⟩ := x
   simp only [List.all_cons, Bool.and_eq_true] at h1
   simp only [lkN] at h2
   cases hb : Nat.beq i g with
   | true => rw [hb] at h2; simp only [sw, Option.some.injEq] at h2; subst h2; simp at h1
   | false => rw [hb] at h2; exact ih h1.2 h2
 exact (this h hl).elim
theorem blsMap {P : Program} {md : List (Nat × List Md)} (Ts : List Nat) (hT : Ts.all (mapTB P) = true) (h : md.all (fun x => match x.2 with | [.bl k T _] => Nat.beq k 9 && Ts.any (Nat.beq T) | _ => true) = true) : BlsOK P md := by
 intro g k T t hl
 have : ∀ {l : List (Nat × List Md)}, l.all (fun x => match x.2 with | [.bl k T _] => Nat.beq k 9 && Ts.any (Nat.beq T) | _ => true) = true → lkN l g = some [.bl k T t] → k = 9 ∧ T ∈ Ts := by
  intro l
  induction l with
  | nil => intro _ h; simp [lkN] at h
  | cons x l ih =>
   intro h1 h2
   obtain ⟨i, v⟩ := x
   simp only [List.all_cons, Bool.and_eq_true] at h1
   simp only [lkN] at h2
   cases hb : Nat.beq i g with
   | true =>
    rw [hb] at h2; simp only [sw, Option.some.injEq] at h2; subst h2
    have h1 := h1.1
    simp only [Bool.and_eq_true, Nat.beq_eq, List.any_eq_true] at h1
    obtain ⟨h9, y, hy, rfl⟩ := h1
    exact ⟨h9, hy⟩
   | false => rw [hb] at h2; exact ih h1.2 h2
 obtain ⟨h9, hm⟩ := this h hl
 exact ⟨fun _ => mapTB_ok (List.all_eq_true.1 hT _ hm), fun h => absurd h9 h⟩
theorem ctr_run {P : Program} {ty : List (Nat × U)} {gl : List (Nat × TV)} {md : List (Nat × List Md)} {T : List Ctr} {F : Fun} {e : Ctr} {α : Type} {lb : α → Nat} {st : α → St} {step : Nat → (α → Option (Tup (e.ret ++ e.outs))) → α → Option (Tup (e.ret ++ e.outs))}
  (ht : Tabs P ty gl) (hx : Text P F e) (hrun : ∀ n y, run (fun n => (⟨ty, gl, md, calOf T n⟩ : En)) F.np F.ks (F.fin ⟨ty, gl, md, calOf T 0⟩ (e.ret ++ e.outs) e.pan) F.c n (lb y) (st y) = goRec step n y)
  (hent : ∀ n x, ∃ p, lb p = 0 ∧ st p = enter (Ty.args e.ins x) F.np ∧ e.fn n x = goRec step n p) {n : Nat} (hT : ∀ m < n, ∀ c ∈ T, CtrAt P gl c m) (hbl : BlsOK P md) : CtrAt P gl e n := by
 obtain ⟨fn, h1, h2, h3, h4, h5, h6, h7⟩ := hx.fn
 refine ⟨⟨fn, h1, by rw [h2]; rfl, h3⟩, fun B x y hy => ?_⟩
 obtain ⟨p, hp1, hp2, hp3⟩ := hent n x
 rw [hp3, ← hrun, hp1, hp2] at hy
 have hrv := hx.rv
 refine fun_ok (E := fun n => ⟨ty, gl, md, calOf T n⟩) (F := F) (K := packR e.pan (F.rv.map (·.2)) (e.ret ++ e.outs)) (m := n) (Mx := n) h1 h2 h4 h5 (fun _ => rfl) ht.gl (fun _ => ht.ty) ?_ ht.mx (fun _ => hbl) (Nat.le_refl _) (hx.np x) (hx.outs x) ?_ h7 ?_ ?_ hy
 ·intro m hm ρ f args K z hz
  exact calOf_ok (hT m hm) hz
 ·intro w vs S L h
  rw [args_len h, tyArgs_len]; exact h6
 ·intro r hr hn hl
  obtain ⟨ret, outs, pan⟩ := r
  simp only at hn hl
  subst hn
  unfold packR at hr
  unfold Ctr.res
  cases hp : e.pan with
  | none =>
   rw [hp] at hr hrv
   simp only at hr
   have hrv : F.rv.length + 0 = e.ret.length := hrv
   have := tup_tvs hr
   simp only [this]
   rw [Nat.add_zero] at hrv
   rw [← hrv, ← hl]
   exact ⟨by simp, by simp, by simp⟩
  | some t =>
   rw [hp] at hr hrv
   simp only at hr
   have hrv : F.rv.length + 1 = e.ret.length := hrv
   have := tup_tvs hr
   simp only [this]
   rw [← hrv, ← hl]
   exact ⟨by simp, by simp, by simp⟩
 ·intro t m hr
  unfold packR at hr
  unfold Ctr.res
  cases hp : e.pan with
  | none => rw [hp] at hr; cases hr
  | some t' =>
   rw [hp] at hr hrv
   simp only at hr
   obtain ⟨hb, hr2⟩ := sw_some hr
   clear hr
   obtain rfl : t' = t := by simpa using hb
   have hrv : F.rv.length + 1 = e.ret.length := hrv
   have := tup_tvs hr2
   simp only [this]
   rw [← hrv]
   exact ⟨trivial, by simp⟩
theorem ctr_at {P : Program} {ty : List (Nat × U)} {gl : List (Nat × TV)} {md : List (Nat × List Md)} {T : List Ctr} {F : Fun} {e : Ctr} {α : Type} {lb : α → Nat} {st : α → St} {step : Nat → (α → Option (Tup (e.ret ++ e.outs))) → α → Option (Tup (e.ret ++ e.outs))}
  (ht : Tabs P ty gl) (hx : Text P F e) (hseg : ∀ n goto y, seg (⟨ty, gl, md, calOf T n⟩ : En) F.np F.ks goto (F.fin ⟨ty, gl, md, calOf T 0⟩ (e.ret ++ e.outs) e.pan) F.c (lb y) (st y) = step n (fun z => goto (lb z) (st z)) y)
  (hent : ∀ n x, ∃ p, lb p = 0 ∧ st p = enter (Ty.args e.ins x) F.np ∧ e.fn n x = goRec step n p) {n : Nat} (hT : ∀ m < n, ∀ c ∈ T, CtrAt P gl c m) (hbl : BlsOK P md) : CtrAt P gl e n :=
 ctr_run ht hx (fun n y => run_goRec hseg n y) hent hT hbl
theorem ctr_ok {P : Program} {ty : List (Nat × U)} {gl : List (Nat × TV)} {md : List (Nat × List Md)} {T : List Ctr} {F : Fun} {e : Ctr} {α : Type} {lb : α → Nat} {st : α → St} {step : Nat → (α → Option (Tup (e.ret ++ e.outs))) → α → Option (Tup (e.ret ++ e.outs))}
  (ht : Tabs P ty gl) (hx : Text P F e) (hseg : ∀ n goto y, seg (⟨ty, gl, md, calOf T n⟩ : En) F.np F.ks goto (F.fin ⟨ty, gl, md, calOf T 0⟩ (e.ret ++ e.outs) e.pan) F.c (lb y) (st y) = step n (fun z => goto (lb z) (st z)) y)
  (hent : ∀ n x, ∃ p, lb p = 0 ∧ st p = enter (Ty.args e.ins x) F.np ∧ e.fn n x = goRec step n p) (hT : ∀ c ∈ T, CtrOK P gl c) (hbl : BlsOK P md := by exact blsNo (by kernel_rfl)) : CtrOK P gl e :=
 fun n => ctr_at ht hx hseg hent (fun m _ c hc => hT c hc m) hbl
def SegEq {α : Type} (ty : List (Nat × U)) (gl : List (Nat × TV)) (F : Fun) (md : List (Nat × List Md)) (T : List Ctr) (e : Ctr) (lb : α → Nat) (st : α → St) (step : Nat → (α → Option (Tup (e.ret ++ e.outs))) → α → Option (Tup (e.ret ++ e.outs))) : Prop :=
 ∀ n goto y, seg (⟨ty, gl, md, calOf T n⟩ : En) F.np F.ks goto (F.fin ⟨ty, gl, md, calOf T 0⟩ (e.ret ++ e.outs) e.pan) F.c (lb y) (st y) = step n (fun z => goto (lb z) (st z)) y
theorem ctr_okS {P : Program} {ty : List (Nat × U)} {gl : List (Nat × TV)} {md : List (Nat × List Md)} {T : List Ctr} {F : Fun} {e : Ctr} {α : Type} {lb : α → Nat} {st : α → St} {step : Nat → (α → Option (Tup (e.ret ++ e.outs))) → α → Option (Tup (e.ret ++ e.outs))}
  (ht : Tabs P ty gl) (hx : Text P F e) (hseg : SegEq ty gl F md T e lb st step) (hent : ∀ n x, ∃ p, lb p = 0 ∧ st p = enter (Ty.args e.ins x) F.np ∧ e.fn n x = goRec step n p) (hT : ∀ c ∈ T, CtrOK P gl c) (hbl : BlsOK P md := by exact blsNo (by kernel_rfl)) : CtrOK P gl e := ctr_ok ht hx hseg hent hT hbl
theorem textOf {P : Program} {F : Fun} {e : Ctr} (fn : Func) (h1 : P.funcs[e.f]? = some fn := by kernel_rfl) (h2 : fn.body = some F.c := by kernel_rfl) (h3 : fn.name ≠ "runtime.NumGoroutine" := by decide +kernel) (h4 : fn.results.toList = F.rv.map (·.1) := by kernel_rfl) (h5 : dstB fn.ntmps F.c = true := by kernel_rfl) (h6 : decide (e.ins.length ≤ fn.ntmps ∧ fn.ntmps ≤ panT) = true := by kernel_rfl)
  (np : ∀ x, F.np = jA (Ty.args e.ins x) 0 := by intro _; rfl) (outs : ∀ x, F.outs = outsL (Ty.args e.ins x) := by intro _; rfl) (rv : F.rv.length + (match e.pan with | none => 0 | some _ => 1) = e.ret.length := by rfl) : Text P F e := ⟨⟨fn, h1, h2, h3, h4, h5, of_decide_eq_true h6⟩, np, outs, rv⟩
theorem calOf_at {e : Ctr} {T : List Ctr} {n : Nat} : calOf (e :: T) n = calOf (e.at (e.fn n) :: T) n := by
 funext ρ f as K
 simp only [calOf, Ctr.at]
 cases Ty.gets e.ins as <;> rfl
theorem retA_ty {E E' : En} (h : E.ty = E'.ty) {s : St} : ∀ (rv : List (ResultVar × U)) (ks : List Nat), retA E s rv ks = retA E' s rv ks
 | [], _ => rfl
 | (x, u) :: rv, ks => by
  unfold retA
  simp only [h, retA_ty h rv]
theorem fin_ty {F : Fun} {E E' : En} (h : E.ty = E'.ty) {us : List U} {pan : Option Nat} : F.fin E us pan = F.fin E' us pan := by
 funext s
 unfold Fun.fin finA
 rw [retA_ty h]
theorem ctr_rec {P : Program} {ty : List (Nat × U)} {gl : List (Nat × TV)} {md : List (Nat × List Md)} {T : List Ctr} {F : Fun} {e : Ctr} {α : Type} {lb : α → Nat} {st : α → St} {ent : Ty.Els e.ins → α} {stp : Nat → (Ty.Els e.ins → Option (Tup (e.ret ++ e.outs))) → (α → Option (Tup (e.ret ++ e.outs))) → α → Option (Tup (e.ret ++ e.outs))}
  (ht : Tabs P ty gl) (hx : Text P F e) (hseg : ∀ n φ goto y, seg (⟨ty, gl, md, calOf (e.at φ :: T) n⟩ : En) F.np F.ks goto (F.fin ⟨ty, gl, md, calOf T 0⟩ (e.ret ++ e.outs) e.pan) F.c (lb y) (st y) = stp n φ (fun z => goto (lb z) (st z)) y)
  (hent : ∀ x, lb (ent x) = 0 ∧ st (ent x) = enter (Ty.args e.ins x) F.np) (hfn : ∀ n x, e.fn n x = goRec (fun n K => stp n (fun x => K (ent x)) K) n (ent x)) (hT : ∀ c ∈ T, CtrOK P gl c) (hbl : BlsOK P md := by exact blsNo (by kernel_rfl)) : CtrOK P gl e := by
 have hf : F.fin ⟨ty, gl, md, calOf T 0⟩ (e.ret ++ e.outs) e.pan = F.fin ⟨ty, gl, md, calOf (e :: T) 0⟩ (e.ret ++ e.outs) e.pan := fin_ty (E := ⟨ty, gl, md, calOf T 0⟩) (E' := ⟨ty, gl, md, calOf (e :: T) 0⟩) rfl
 rw [hf] at hseg
 have hrun : ∀ n y, run (fun n => (⟨ty, gl, md, calOf (e :: T) n⟩ : En)) F.np F.ks (F.fin ⟨ty, gl, md, calOf (e :: T) 0⟩ (e.ret ++ e.outs) e.pan) F.c n (lb y) (st y) = goRec (fun n K => stp n (fun x => K (ent x)) K) n y := by
  intro n
  induction n with
  | zero => intro y; rfl
  | succ n ih =>
   intro y
   have h1 := hseg n (e.fn n) (run (fun n => (⟨ty, gl, md, calOf (e :: T) n⟩ : En)) F.np F.ks (F.fin ⟨ty, gl, md, calOf (e :: T) 0⟩ (e.ret ++ e.outs) e.pan) F.c n) y
   rw [← calOf_at] at h1
   simp only [run, goRec]
   refine Eq.trans h1 ?_
   have h2 : (fun z => run (fun n => (⟨ty, gl, md, calOf (e :: T) n⟩ : En)) F.np F.ks (F.fin ⟨ty, gl, md, calOf (e :: T) 0⟩ (e.ret ++ e.outs) e.pan) F.c n (lb z) (st z)) = goRec (fun n K => stp n (fun x => K (ent x)) K) n := funext ih
   have h3 : e.fn n = fun x => goRec (fun n K => stp n (fun x => K (ent x)) K) n (ent x) := funext (hfn n)
   rw [h2, h3]
 intro n
 induction n using Nat.strongRecOn with
 | ind n ih =>
  refine ctr_run (T := e :: T) ht hx hrun (fun n x => ⟨ent x, (hent x).1, (hent x).2, hfn n x⟩) (fun m hm c hc => ?_) hbl
  rcases List.mem_cons.1 hc with rfl | hc
  ·exact ih m hm
  ·exact hT c hc m
theorem nilC {P : Program} {gl : List (Nat × TV)} : ∀ c ∈ ([] : List Ctr), CtrOK P gl c := by simp
theorem consC {P : Program} {gl : List (Nat × TV)} {e : Ctr} {T : List Ctr} (h : CtrOK P gl e) (hs : ∀ c ∈ T, CtrOK P gl c) : ∀ c ∈ e :: T, CtrOK P gl c := by
 intro c hc
 rcases List.mem_cons.1 hc with rfl | hc
 ·exact h
 ·exact hs c hc
theorem lkN_mem {α : Type} {l : List (Nat × α)} {t : Nat} {u : α} (h : lkN l t = some u) : (t, u) ∈ l := by
 induction l with
 | nil => cases h
 | cons x l ih =>
  obtain ⟨i, v⟩ := x
  simp only [lkN] at h
  cases hb : Nat.beq i t with
  | true => rw [hb] at h; simp only [sw, Option.some.injEq] at h; subst h; simp [Nat.eq_of_beq_eq_true hb]
  | false => rw [hb] at h; exact List.mem_cons_of_mem _ (ih h)
theorem tabs_of {P : Program} {ty : List (Nat × U)} (h : ty.all (fun x => tyB P x.1 x.2) = true) (hm : P.follows .mixedOrders = true) : Tabs P ty [] :=
 ⟨fun t u hl => tyB_ok (List.all_eq_true.1 h _ (lkN_mem hl)), fun g u x h => by simp [lkN] at h, hm⟩
end Go.VM

namespace Go.VM
variable [Bor]
open Go.RowKit
section
variable {P : Program} {ops : Array Oper} {o : Oper} {a : Act} {Q : Exit → Act → World → Prop} {Kc : Act → World → Prop}
theorem event_step {W w1 : World} {v : Value} (hw : Region.wanted o (yielded ops a.tmps) = true) (hrun : (execOp a.eval o).run P W = .ok (.value v) w1) (h : Kc (a.put o.dst v) w1) : if Region.wanted o (yielded ops a.tmps) = true then Oper.wp P o a W Kc Q else Kc (a.put o.dst undef) W := by
 rw [if_pos hw]
 unfold Oper.wp
 rw [hrun]
 exact h
theorem append_op {W w1 : World} {v : Value} {t : TypeId} {x y : Operand} (ho : o.op = .call { callee := .builtin .append, args := #[x, y], argTypes := #[t, t] }) (hr : (Builtin.append_ #[t, t] o.type #[a.eval x, a.eval y]).run P W = .ok v w1) : (execOp a.eval o).run P W = .ok (.value v) w1 := by
 simp only [execOp, ho, resolve, invoke, builtin, List.map_toArray, List.map_cons, List.map_nil, Sem.run_bind, Sem.run_pure, Result.andThen_ok, hr]
theorem skip_step {W w1 : World} (hw : Region.wanted o (yielded ops a.tmps) = true) (hN : o.dst = none) (hrun : (execOp a.eval o).run P W = .ok .skip w1) (h : Kc a w1) : if Region.wanted o (yielded ops a.tmps) = true then Oper.wp P o a W Kc Q else Kc (a.put none undef) W := by
 rw [if_pos hw]
 unfold Oper.wp
 rw [hrun]
 show Kc (a.put o.dst undef) w1
 rw [hN]
 exact h
end
theorem cell_row {w : World} {g i : Nat} {cs : Array Value} {t : TypeId} {fz : Nat × Nat} (h : w.heap[g]? = some (.cells cs t fz)) : w.cell? ⟨g, i, none⟩ = cs[i]? := by
 simp [World.cell?, h]
theorem frozen_row {w : World} {g i : Nat} {cs : Array Value} {t : TypeId} {fz : Nat × Nat} (h : w.heap[g]? = some (.cells cs t fz)) (hf : ¬ (fz.1 ≤ i ∧ i < fz.2)) : w.frozen? ⟨g, i, none⟩ = false := by
 simp [World.frozen?, h]; omega
end Go.VM

namespace Go.VM
variable [Bor]
open Go.RowKit Go.ChangeShapes Go.WideShapes Go.Deep
class LawBor (w : World) : Prop where
 bor : ∀ (u : U) (x : List u.El) (v : Value) (F : List Nat), u.nobs = true → Rep w false (.sl false u) x [v] F → Bor.ok u x v
def Wf : (u : U) → u.El → Prop
 | .int k, x => (Lit.int k x).wf = true | .str, s => s.size ≤ maxLen | .sl _ u, l => l.length ≤ maxLen ∧ ∀ x ∈ l, Wf u x | .pair a b, x => Wf a x.1 ∧ Wf b x.2 | .bs u, l => l.length ≤ maxLen ∧ ∀ x ∈ l, Wf u x | _, _ => True
mutual
def opB (P : Program) : U → TypeId → Bool
 | .bool, t => (match P.underlying t with | some .bool => true | _ => false)
 | .int k, t => (match P.underlying t with | some (.int k') => decide (k' = k) | _ => false)
 | .str, t => (match P.underlying t with | some .string => true | _ => false)
 | .sl e u, t => !e && (match P.underlying t with | some (.slice el) => Nat.beq (P.cellsOf el) u.sz && Nat.blt 0 u.sz && opB P u el | _ => false)
 | .bs u, t => u.nobs && (match P.underlying t with | some (.slice el) => Nat.beq (P.cellsOf el) u.sz && Nat.blt 0 u.sz && opB P u el | _ => false)
 | .unit, t => (match P.underlying t with | some (.struct fs) => Nat.beq (P.cellsOf t) 0 && fs.toList.isEmpty | _ => false)
 | .pair a b, t => (match P.underlying t with
  | some (.struct fs) => Nat.beq (P.cellsOf t) (a.sz + b.sz) && (match fs.toList with | f :: r => Nat.beq f.offset 0 && Nat.beq (P.cellsOf f.type) a.sz && opB P a f.type && opF P b r a.sz | [] => false)
  | _ => false)
 | _, _ => false
def opF (P : Program) : U → List Field → Nat → Bool
 | .unit, fs, _ => fs.isEmpty
 | .pair a b, fs, o => (match fs with | f :: r => Nat.beq f.offset o && Nat.beq (P.cellsOf f.type) a.sz && opB P a f.type && opF P b r (o + a.sz) | [] => false)
 | _, _, _ => false
end
variable {H : Type} {enc : TypeId × Value → H} {P : Program} {w : World} {base : Nat} {spare : Nat → Bool} {held : Bool}
theorem cells_got {a : Addr} {n : Nat} {cs : List Value} (h : w.cells? base a n = some cs) : cs.length = n ∧ ∀ j u, cs[j]? = some u → w.cell? (a.add j) = some u := by
 obtain ⟨_, hl, hc⟩ := World.cells?_some h
 refine ⟨hl, fun j u hj => ?_⟩
 have hlt : j < n := by
  rcases List.getElem?_eq_some_iff.mp hj with ⟨hj', _⟩
  omega
 rw [hc j hlt]; exact hj
theorem cell_is {a : Addr} {v : Value} (h : w.cell? a = some v) : a.spot = none ∧ ∃ c t fz, w.heap[a.block]? = some (.cells c t fz) ∧ c[a.off]? = some v := by
 unfold World.cell? at h
 split at h
 ·rename_i c t fz hh
  split at h
  ·cases h
  ·rename_i hs
   exact ⟨by simpa using hs, c, t, fz, hh, h⟩
 ·cases h
theorem rows {α : Type} {R : α → List Value → List Nat → Prop} {G : α → Prop} {sz : Nat} {a : Addr} (hR : ∀ x c F, R x c F → c.length = sz) (n : Nat) (h : ∀ i, i < n → ∃ x c F, R x c F ∧ G x ∧ ∀ j v, c[j]? = some v → w.cell? (a.add (i * sz + j)) = some v) :
  ∃ l m F, l.length = n ∧ RepL R l m F ∧ m.length = n * sz ∧ (∀ x ∈ l, G x) ∧ ∀ j v, m[j]? = some v → w.cell? (a.add j) = some v := by
 induction n with
 | zero => exact ⟨[], [], [], rfl, ⟨rfl, rfl⟩, by simp, by simp, by simp⟩
 | succ n ih =>
  obtain ⟨l, m, F, h1, h2, h3, h4, h5⟩ := ih fun i hi => h i (by omega)
  obtain ⟨x, c, F', h6, h7, h8⟩ := h n (by omega)
  have hc := hR _ _ _ h6
  refine ⟨l ++ [x], m ++ (c ++ []), F ++ (F' ++ []), by simp [h1], RepL.append h2 ⟨c, [], F', [], rfl, rfl, h6, rfl, rfl⟩, ?_, ?_, ?_⟩
  ·simp [h3, hc, Nat.add_mul]
  ·intro y hy
   rcases List.mem_append.1 hy with hy | hy
   ·exact h4 y hy
   ·simp at hy; subst hy; exact h7
  ·intro j v hj
   rw [List.append_nil] at hj
   by_cases hjm : j < m.length
   ·rw [List.getElem?_append_left hjm] at hj; exact h5 j v hj
   ·rw [List.getElem?_append_right (by omega)] at hj
    have := h8 (j - m.length) v hj
    rwa [show n * sz + (j - m.length) = j by omega] at this
theorem open_sl {u : U} {t el : TypeId} {fuel : Nat} {cs : List Value} {x : DataW H × List MemPlace} (hu : P.underlying t = some (.slice el)) (hz : P.cellsOf el = u.sz) (hpos : 0 < u.sz)
  (hrec : ∀ {fuel : Nat} {cs : List Value} {x : DataW H × List MemPlace}, DataW.trod enc P w base spare held fuel el cs = some x → ∃ y F, Rep w false u y cs F ∧ Wf u y) (h : DataW.trod enc P w base spare held fuel t cs = some x) :
  ∃ (l : List u.El) (v : Value) (F : List Nat), cs = [v] ∧ Rep w false (.sl false u) l [v] F ∧ Wf (.sl false u) l := by
 rcases open_slice hu h with ⟨rfl, _⟩ | ⟨a, len, cap, m, n, D, Pl, rfl, _, hl, hm, hmm, _, hi⟩
 ·exact ⟨[], _, [], rfl, ⟨_, rfl, .inl (.inl ⟨rfl, rfl, rfl⟩)⟩, by simp [Wf]⟩
 ·have hlm : len ≤ m := by rw [hmm]; split <;> omega
  obtain ⟨l, mc, F, h1, h2, h3, h4, h5⟩ := rows (w := w) (a := a) (R := Rep w false u) (G := Wf u) (sz := u.sz) (fun _ _ _ => Rep.length) len (fun i hi0 => by
   obtain ⟨cs', hc, ht'⟩ := hi i (by omega)
   obtain ⟨y, F, hy, hyw⟩ := hrec ht'
   obtain ⟨g1, g2⟩ := cells_got hc
   refine ⟨y, cs', F, hy, hyw, fun j v hj => ?_⟩
   have := g2 j v hj
   rw [hz, Go.Deep.add_add] at this
   exact this)
  have hwf : Wf (.sl false u) l := ⟨by rw [h1]; omega, h4⟩
  cases l with
  | nil =>
   have h0 : len = 0 := h1.symm
   subst h0
   exact ⟨[], _, [], rfl, ⟨_, rfl, .inr ⟨rfl, rfl, rfl, rfl, a, cap, rfl⟩⟩, hwf⟩
  | cons y0 l0 =>
   have hlen : 0 < len := by rw [← h1]; simp
   have hmpos : 0 < mc.length := by rw [h3]; exact Nat.mul_pos hlen hpos
   obtain ⟨hs0, c, ct, fz, hh, _⟩ := cell_is (h5 0 mc[0] (by simp [hmpos]))
   rw [Addr.add_block] at hh
   have hs : a.spot = none := by
    rw [Addr.add_zero] at hs0
    exact hs0
   have hcell : ∀ j v, mc[j]? = some v → c[a.off + j]? = some v := by
    intro j v hj
    obtain ⟨_, c', ct', fz', hh', hv⟩ := cell_is (h5 j v hj)
    rw [Addr.add_block, hh] at hh'
    cases hh'
    rwa [Addr.add_off] at hv
   have hmid : (c.toList.drop a.off).take mc.length = mc := by
    refine List.ext_getElem? fun j => ?_
    by_cases hj : j < mc.length
    ·have := hcell j mc[j] (by simp [hj])
     rw [List.getElem?_take, if_pos hj, List.getElem?_drop, Array.getElem?_toList, this]
     simp [hj]
    ·rw [List.getElem?_eq_none (by rw [List.length_take]; omega), List.getElem?_eq_none (by omega)]
   have hoff : a.off ≤ c.toList.length := by
    have := hcell 0 mc[0] (by simp [hmpos])
    have := (Array.getElem?_eq_some_iff.1 this).1
    rw [Array.length_toList]; omega
   refine ⟨y0 :: l0, _, a.block :: F, rfl, ⟨_, rfl, .inl (.inr ⟨a, cap, c, ct, fz, c.toList.take a.off, mc, c.toList.drop (a.off + mc.length), F, by rw [h1], hs, (fun h => by cases h), by rw [h1]; exact hl, hh, ?_, ?_, h2, rfl, (fun h => by cases h)⟩)⟩, hwf⟩
   ·have e1 := List.take_append_drop a.off c.toList
    have e2 := List.take_append_drop mc.length (c.toList.drop a.off)
    rw [hmid, List.drop_drop] at e2
    rw [List.append_assoc, e2, e1]
   ·rw [List.length_take]; omega
mutual
theorem open_rep [LawBor w] : ∀ {u : U} {t : TypeId} {fuel : Nat} {cs : List Value} {x : DataW H × List MemPlace}, opB P u t = true → DataW.trod enc P w base spare held fuel t cs = some x → ∃ y F, Rep w false u y cs F ∧ Wf u y
 | .bool, t, fuel, cs, x, hb, h => by
  simp only [opB] at hb
  split at hb
  ·rename_i hu
   obtain ⟨b, rfl, _⟩ := DataW.trod_bool hu h
   exact ⟨b, [], ⟨rfl, rfl⟩, trivial⟩
  ·cases hb
 | .int k, t, fuel, cs, x, hb, h => by
  simp only [opB] at hb
  split at hb
  ·rename_i k' hu
   obtain rfl : k' = k := by simpa using hb
   obtain ⟨n, rfl, _, hw⟩ := DataW.trod_int hu h
   exact ⟨n, [], ⟨rfl, rfl⟩, hw⟩
  ·cases hb
 | .str, t, fuel, cs, x, hb, h => by
  simp only [opB] at hb
  split at hb
  ·rename_i hu
   obtain ⟨s, rfl, _, hs⟩ := DataW.trod_string hu h
   exact ⟨s, [], ⟨rfl, rfl⟩, hs⟩
  ·cases hb
 | .oth, t, fuel, cs, x, hb, h => by simp [opB] at hb
 | .ar _ _, t, fuel, cs, x, hb, h => by simp [opB] at hb
 | .unit, t, fuel, cs, x, hb, h => by
  simp only [opB] at hb
  split at hb
  ·rename_i fs hu
   simp only [Bool.and_eq_true, Nat.beq_eq] at hb
   obtain ⟨xs, n, _, _, hlen, _⟩ := DataW.trod_struct hu h
   rw [hb.1] at hlen
   exact ⟨(), [], ⟨List.eq_nil_of_length_eq_zero hlen, rfl⟩, trivial⟩
  ·cases hb
 | .pair a b, t, fuel, cs, x, hb, h => by
  simp only [opB] at hb
  split at hb
  ·rename_i fs hu
   simp only [Bool.and_eq_true, Nat.beq_eq] at hb
   obtain ⟨hsz, hb⟩ := hb
   obtain ⟨xs, n, _, _, hlen, hxl, hf⟩ := DataW.trod_struct hu h
   have hall : ∀ (i : Nat) (f : Field), fs.toList[i]? = some f → ∃ n y, DataW.trod enc P w base spare held n f.type ((cs.drop f.offset).take (P.cellsOf f.type)) = some y := by
    intro i f hi
    have hi' : fs[i]? = some f := by simpa using hi
    have h1 := hf i f hi'
    have hlt : i < xs.length := by rw [hxl]; exact (Array.getElem?_eq_some_iff.1 hi').1
    rw [List.getElem?_eq_getElem hlt] at h1
    exact ⟨n, _, h1⟩
   split at hb
   ·rename_i f r hfs
    simp only [Bool.and_eq_true, Nat.beq_eq] at hb
    obtain ⟨⟨⟨h1, h2⟩, h3⟩, h4⟩ := hb
    obtain ⟨m, y, hy⟩ := hall 0 f (by rw [hfs]; rfl)
    rw [h1, h2, List.drop_zero] at hy
    obtain ⟨z, F, hz, hzw⟩ := open_rep h3 hy
    obtain ⟨z2, F2, hz2, hzw2⟩ := open_fields h4 (fun i f hi => hall (i + 1) f (by rw [hfs]; simpa using hi)) (by rw [hlen, hsz])
    exact ⟨(z, z2), F ++ F2, ⟨_, _, F, F2, (List.take_append_drop a.sz cs).symm, rfl, hz, hz2⟩, hzw, hzw2⟩
   ·cases hb
  ·cases hb
 | .sl e u, t, fuel, cs, x, hb, h => by
  simp only [opB, Bool.and_eq_true, Bool.not_eq_true'] at hb
  obtain ⟨rfl, hb⟩ := hb
  split at hb
  ·rename_i el hu
   simp only [Bool.and_eq_true, Nat.beq_eq, Nat.blt_eq] at hb
   obtain ⟨⟨hz, hpos⟩, hel⟩ := hb
   obtain ⟨l, v, F, rfl, h1, h2⟩ := open_sl hu hz hpos (fun h => open_rep hel h) h
   exact ⟨l, F, h1, h2⟩
  ·cases hb
 | .bs u, t, fuel, cs, x, hb, h => by
  simp only [opB, Bool.and_eq_true] at hb
  obtain ⟨hn, hb⟩ := hb
  split at hb
  ·rename_i el hu
   simp only [Bool.and_eq_true, Nat.beq_eq, Nat.blt_eq] at hb
   obtain ⟨⟨hz, hpos⟩, hel⟩ := hb
   obtain ⟨l, v, F, rfl, h1, h2⟩ := open_sl hu hz hpos (fun h => open_rep hel h) h
   exact ⟨l, [], ⟨rfl, v, rfl, LawBor.bor u l v F hn h1⟩, h2⟩
  ·cases hb
theorem open_fields [LawBor w] : ∀ {u : U} {fs : List Field} {o : Nat} {cs : List Value}, opF P u fs o = true → (∀ (i : Nat) (f : Field), fs[i]? = some f → ∃ n y, DataW.trod enc P w base spare held n f.type ((cs.drop f.offset).take (P.cellsOf f.type)) = some y) → cs.length = o + u.sz →
  ∃ y F, Rep w false u y (cs.drop o) F ∧ Wf u y
 | .unit, fs, o, cs, hb, h, hl => by
  refine ⟨(), [], ⟨?_, rfl⟩, trivial⟩
  exact List.drop_eq_nil_of_le (by rw [hl]; simp [U.sz])
 | .pair a b, fs, o, cs, hb, h, hl => by
  simp only [opF] at hb
  split at hb
  ·rename_i f r
   simp only [Bool.and_eq_true, Nat.beq_eq] at hb
   obtain ⟨⟨⟨h1, h2⟩, h3⟩, h4⟩ := hb
   obtain ⟨m, y, hy⟩ := h 0 f rfl
   rw [h1, h2] at hy
   obtain ⟨z, F, hz, hzw⟩ := open_rep h3 hy
   obtain ⟨z2, F2, hz2, hzw2⟩ := open_fields h4 (fun i f hi => h (i + 1) f (by simpa using hi)) (by rw [hl]; simp only [U.sz]; omega)
   rw [← List.drop_drop] at hz2
   exact ⟨(z, z2), F ++ F2, ⟨_, _, F, F2, (List.take_append_drop a.sz _).symm, rfl, hz, hz2⟩, hzw, hzw2⟩
  ·cases hb
 | .bool, _, _, _, hb, _, _ => by simp [opF] at hb
 | .int _, _, _, _, hb, _, _ => by simp [opF] at hb
 | .str, _, _, _, hb, _, _ => by simp [opF] at hb
 | .oth, _, _, _, hb, _, _ => by simp [opF] at hb
 | .ar _ _, _, _, _, hb, _, _ => by simp [opF] at hb
 | .sl _ _, _, _, _, hb, _, _ => by simp [opF] at hb
 | .bs _, _, _, _, hb, _, _ => by simp [opF] at hb
end
end Go.VM

