/- The machine over typed values, part 3. -/
import Derived.Test.YthlinnbamejmaabV1
import Derived.Test.YthlinnbamejmaabV2
set_option linter.unusedSimpArgs false
set_option linter.unusedVariables false
namespace Go.VM
namespace Ev
variable {α β P σ τ : Type}
theorem pure' {a v : α} (h : a = v) : Ev (fun _ => some a) v := of_eq pure h
theorem held {v : α} {x : Option α} (h : x = some v) : Ev (fun n => hold n x) v := ⟨1, fun n hn => by match n, hn with | n + 1, _ => exact h⟩
/-- a loop that goes on while p holds -/
theorem allN {step : Nat → (P → Option Bool) → P → Option Bool} {n : Nat} {p : Nat → Bool} {pt : Nat → P}
    (hs : ∀ i, i < n → (p i = true → ∀ v, Ev (fun m => goRec step m (pt (i + 1))) v → Ev (fun m => goRec step m (pt i)) v) ∧ (p i = false → Ev (fun m => goRec step m (pt i)) false))
    (he : Ev (fun m => goRec step m (pt n)) true) : Ev (fun m => goRec step m (pt 0)) ((List.range n).all p) := by
  have key : ∀ d i, i + d = n → Ev (fun m => goRec step m (pt i)) ((List.range' i d).all p) := by
    intro d
    induction d with
    | zero => intro i h; rw [Nat.add_zero] at h; subst h; exact he
    | succ d ih =>
      intro i h
      obtain ⟨h1, h2⟩ := hs i (by omega)
      rw [List.range'_succ, List.all_cons]
      cases hp : p i with
      | false => rw [Bool.false_and]; exact h2 hp
      | true => rw [Bool.true_and]; exact h1 hp _ (ih (i + 1) (by omega))
  have := key n 0 (by omega)
  rwa [List.range_eq_range']
/-- the same, where more is known behind each turn -/
theorem loop {step : Nat → (P → Option β) → P → Option β} {n : Nat} {pt : Nat → σ → P} (I : Nat → σ → Prop) (f : Nat → σ → β)
    (hs : ∀ i s, i < n → I i s → (∃ s', I (i + 1) s' ∧ f i s = f (i + 1) s' ∧ ∀ v, Ev (fun m => goRec step m (pt (i + 1) s')) v → Ev (fun m => goRec step m (pt i s)) v) ∨ Ev (fun m => goRec step m (pt i s)) (f i s))
    (he : ∀ s, I n s → Ev (fun m => goRec step m (pt n s)) (f n s)) : ∀ d i s, i + d = n → I i s → Ev (fun m => goRec step m (pt i s)) (f i s) := by
  intro d
  induction d with
  | zero => intro i s h hi; rw [Nat.add_zero] at h; subst h; exact he s hi
  | succ d ih =>
    intro i s h hi
    rcases hs i s (by omega) hi with ⟨s', h1, h2, h3⟩ | h1
    · rw [h2]; exact h3 _ (ih (i + 1) s' (by omega) h1)
    · exact h1
end Ev
theorem i64_ok {x : Int} (h1 : -9223372036854775808 ≤ x) (h2 : x ≤ 9223372036854775807) : IntKind.wrap .i64 x = x := wrap_id ⟨h1, h2⟩
theorem i64_nat {n : Nat} (h : n ≤ 4611686018427387904) : IntKind.wrap .i64 ((n : Int) + 1) = ((n + 1 : Nat) : Int) := by rw [i64_ok] <;> omega
theorem inB_nat {i n : Nat} (h : i < n) : inB (i : Int) n = true := by simp only [inB, decide_eq_true_eq]; omega
theorem inB_zero {n : Nat} (h : 0 < n) : inB 0 n = true := by simp only [inB, decide_eq_true_eq]; omega
theorem inC_nat {i j n : Nat} (h : i ≤ j) (h' : j ≤ n) : inC (i : Int) (j : Int) n = true := by simp only [inC, decide_eq_true_eq]; omega
theorem lt_yes {i n : Nat} (h : i < n) : decide ((i : Int) < (n : Int)) = true := by simp only [decide_eq_true_eq]; omega
theorem lt_no {n : Nat} : decide ((n : Int) < (n : Int)) = false := by simp
theorem room_ok {n : Nat} (h : n ≤ 1000000000) : room n = true := by simpa [room] using h
/-- slices and texts no longer than k -/
def Sm (k : Nat) : (u : U) → u.El → Prop
  | .str, s => ByteArray.size s ≤ k | .sl _ u, l => List.length l ≤ k ∧ ∀ x ∈ l, Sm k u x | .pair a b, x => Sm k a x.1 ∧ Sm k b x.2 | _, _ => True
theorem Sm.mono {k k' : Nat} (h : k ≤ k') : ∀ {u : U} {x : u.El}, Sm k u x → Sm k' u x
  | .str, s, hs => Nat.le_trans hs h
  | .sl _ u, l, hs => ⟨Nat.le_trans hs.1 h, fun x hx => Sm.mono h (hs.2 x hx)⟩
  | .pair a b, x, hs => ⟨Sm.mono h hs.1, Sm.mono h hs.2⟩
  | .bool, _, _ => trivial | .int _, _, _ => trivial | .unit, _, _ => trivial | .ar _ _, _, _ => trivial | .oth, _, _ => trivial
theorem getD_mem {α : Type} {l : List α} {i : Nat} {d : α} (h : i < l.length) : l.getD i d ∈ l := by
  rw [List.getD_eq_getElem?_getD, List.getElem?_eq_getElem h]; exact List.getElem_mem h
theorem toNat_cast (i : Nat) : Int.toNat (i : Int) = i := Int.toNat_natCast i
theorem seq_iff {a b : ByteArray} : seq a b = decide (a = b) := rfl
theorem octs_len {s : ByteArray} : (octs s).length = s.size := by simp [octs]
theorem octs_drop {s : ByteArray} {i : Nat} (h : i < s.size) : (octs s).drop i = bt s i :: (octs s).drop (i + 1) := by
  have h' : i < (octs s).length := by rw [octs_len]; exact h
  rw [List.drop_eq_getElem_cons h']
  congr 1
  have h2 : i < s.data.size := h
  simp only [octs, bt, Array.getD_eq_getD_getElem?, toNat_cast, List.getElem_map, Array.getElem_toList, Array.getElem?_eq_getElem h2, Option.getD_some]
theorem bt_range {s : ByteArray} {i : Int} : 0 ≤ bt s i ∧ bt s i ≤ 255 := by
  unfold bt
  have := (s.data.getD i.toNat 0).toNat_lt
  omega
end Go.VM
namespace Go.VM
/-- what a size function gives: no more than it was given; from 0 on only if all is short -/
def Sz (f : Nat → Option Int) (left : Int) (Q : Prop) : Prop := ∃ r, Ev f r ∧ r ≤ left ∧ (0 ≤ r → Q)
namespace Sz
variable {P : Type} {left l2 : Int} {Q Q' : Prop} {f g : Nat → Option Int}
theorem step {s : Nat → (P → Option Int) → P → Option Int} {p : P} (h : Sz (fun n => s n (goRec s n) p) left Q) : Sz (fun n => goRec s n p) left Q := by
  obtain ⟨r, h1, h2⟩ := h; exact ⟨r, Ev.step h1, h2⟩
theorem yes {c : Bool} (hc : c = true) (h : Sz f left Q) : Sz (fun n => cond c (f n) (g n)) left Q := by subst hc; exact h
theorem no {c : Bool} (hc : c = false) (h : Sz g left Q) : Sz (fun n => cond c (f n) (g n)) left Q := by subst hc; exact h
theorem bind {α : Type} {f : Nat → Option α} {g : Nat → α → Option Int} {a : α} (h : Ev f a) (h' : Sz (fun n => g n a) left Q) : Sz (fun n => (f n).bind (g n)) left Q := by
  obtain ⟨r, h1, h2⟩ := h'; exact ⟨r, Ev.bind h h1, h2⟩
theorem neg (h : 0 ≤ left) : Sz (fun _ => some (-(1 : Int))) left Q := ⟨-1, Ev.pure, by omega, by omega⟩
theorem imp (h : Sz f left Q) (hq : Q → Q') : Sz f left Q' := by obtain ⟨r, h1, h2, h3⟩ := h; exact ⟨r, h1, h2, fun h => hq (h3 h)⟩
theorem le (h : Sz f left Q) (hl : left ≤ l2) : Sz f l2 Q := by obtain ⟨r, h1, h2, h3⟩ := h; exact ⟨r, h1, by omega, h3⟩
end Sz
theorem ext_getD {α : Type} {d : α} {l m : List α} (h1 : m.length = l.length) (h2 : ∀ j, j < l.length → m.getD j d = l.getD j d) : m = l := by
  refine List.ext_getElem? fun j => ?_
  rcases Nat.lt_or_ge j l.length with h | h
  · have := h2 j h
    rw [List.getD_eq_getElem?_getD, List.getD_eq_getElem?_getD, List.getElem?_eq_getElem h, List.getElem?_eq_getElem (by omega)] at this
    rw [List.getElem?_eq_getElem h, List.getElem?_eq_getElem (by omega)]
    simpa using this
  · rw [List.getElem?_eq_none h, List.getElem?_eq_none (by omega)]
theorem getD_set_same {α : Type} {l : List α} {i : Nat} {d x : α} (h : i < l.length) : (l.set i x).getD i d = x := by
  rw [List.getD_eq_getElem?_getD]; simp [h]
theorem getD_set_other {α : Type} {l : List α} {i j : Nat} {d x : α} (h : j ≠ i) : (l.set i x).getD j d = l.getD j d := by
  rw [List.getD_eq_getElem?_getD, List.getD_eq_getElem?_getD, List.getElem?_set_ne (Ne.symm h)]
/-- equality, as a Bool -/
noncomputable def eqB {α : Type} (x y : α) : Bool := @decide (x = y) (Classical.propDecidable _)
theorem eqB_yes {α : Type} {x y : α} (h : x = y) : eqB x y = true := @decide_eq_true _ (Classical.propDecidable _) h
theorem eqB_no {α : Type} {x y : α} (h : x ≠ y) : eqB x y = false := @decide_eq_false _ (Classical.propDecidable _) h
theorem Ev.find {P : Type} {step : Nat → (P → Option Int) → P → Option Int} {n : Nat} {p : Nat → Bool} {pt : Nat → P}
    (hs : ∀ i, i < n → (p i = false → ∀ v, Ev (fun m => goRec step m (pt (i + 1))) v → Ev (fun m => goRec step m (pt i)) v) ∧ (p i = true → Ev (fun m => goRec step m (pt i)) (i : Int)))
    (he : Ev (fun m => goRec step m (pt n)) (-1)) : Ev (fun m => goRec step m (pt 0)) (match (List.range n).find? p with | some i => (i : Int) | none => -1) := by
  have key : ∀ d i, i + d = n → Ev (fun m => goRec step m (pt i)) (match (List.range' i d).find? p with | some i => (i : Int) | none => -1) := by
    intro d
    induction d with
    | zero => intro i h; rw [Nat.add_zero] at h; subst h; exact he
    | succ d ih =>
      intro i h
      obtain ⟨h1, h2⟩ := hs i (by omega)
      rw [List.range'_succ, List.find?_cons]
      cases hp : p i with
      | true => exact h2 hp
      | false => exact h1 hp _ (ih (i + 1) (by omega))
  have := key n 0 (by omega)
  rwa [List.range_eq_range']
theorem find_any {n : Nat} {p : Nat → Bool} : decide ((0 : Int) ≤ (match (List.range n).find? p with | some i => (i : Int) | none => -1)) = (List.range n).any p := by
  cases h : (List.range n).find? p with
  | none =>
    rw [List.find?_eq_none] at h
    have : (List.range n).any p = false := by rw [List.any_eq_false]; exact h
    rw [this]; decide
  | some i =>
    have h1 := List.find?_some h
    have h2 := List.mem_of_find?_eq_some h
    have : (List.range n).any p = true := List.any_eq_true.2 ⟨i, h2, h1⟩
    rw [this]; simp
end Go.VM

namespace Go.VM
def digitB (b : Int) : Bool := decide (48 ≤ b) && decide (b ≤ 57)
def letterB (b : Int) : Bool := decide (97 ≤ b) && decide (b ≤ 122) || decide (65 ≤ b) && decide (b ≤ 90)
def wordB (b : Int) : Bool := letterB b || digitB b || decide (b = 95)
/-- all bytes -/
def allB (p : Int → Bool) (s : ByteArray) : Bool := (List.range s.size).all fun i => p (bt s i)
def nameB (s : ByteArray) : Bool := decide (1 ≤ s.size) && decide (s.size ≤ 40) && !digitB (bt s 0) && allB wordB s
def printB (s : ByteArray) : Bool := allB (fun b => decide (32 ≤ b) && decide (b ≤ 126)) s
def timeB (n : Int) : Bool := decide (0 ≤ n) && decide (n ≤ 1000000000000)
theorem size_empty : ByteArray.size (⟨#[]⟩ : ByteArray) = 0 := rfl
theorem seq_empty {s : ByteArray} : seq s ⟨#[]⟩ = decide (s.size = 0) := by
  obtain ⟨⟨l⟩⟩ := s
  cases l <;> simp [seq, ByteArray.size]
end Go.VM
namespace Go.VM
def cmpN (a b : Int) : Int := if a < b then -1 else if b < a then 1 else 0
def cmpL : List Int → List Int → Int
  | [], [] => 0 | [], _ :: _ => -1 | _ :: _, [] => 1
  | x :: a, y :: b => if x < y then -1 else if y < x then 1 else cmpL a b
/-- which of two texts is ahead -/
def cmpT (a b : ByteArray) : Int := cmpL (octs a) (octs b)
theorem bytes_cmp : ∀ (a b : List UInt8), Op.bytesLess a b = decide (cmpL (a.map fun x => (x.toNat : Int)) (b.map fun x => (x.toNat : Int)) < 0)
  | [], [] => by simp [Op.bytesLess, cmpL]
  | [], _ :: _ => by simp [Op.bytesLess, cmpL]
  | _ :: _, [] => by simp [Op.bytesLess, cmpL]
  | x :: a, y :: b => by
    have ih := bytes_cmp a b
    simp only [Op.bytesLess, List.map_cons, cmpL, ih]
    have h1 : x < y ↔ (x.toNat : Int) < (y.toNat : Int) := by rw [UInt8.lt_iff_toNat_lt]; omega
    have h2 : x = y ↔ (x.toNat : Int) = (y.toNat : Int) := by rw [← UInt8.toNat_inj]; omega
    by_cases c1 : (x.toNat : Int) < (y.toNat : Int)
    · simp [h1, c1]
    · by_cases c2 : (y.toNat : Int) < (x.toNat : Int)
      · have : ¬ x = y := by rw [h2]; omega
        simp [h1, c1, c2, this]
      · have : x = y := by rw [h2]; omega
        simp [h1, c1, c2, this]
theorem slt_cmp {a b : ByteArray} : slt a b = decide (cmpT a b < 0) := bytes_cmp _ _
/-- what a pattern's alternatives are: bytes, -1 for any bytes, -2 for one -/
def pat : List Int → List (List Int) → List Int → Option (List (List Int))
  | [], out, now => some (out ++ [now])
  | c :: r, out, now =>
    if c = 124 then pat r (out ++ [now]) [] else if c = 42 then pat r out (now ++ [-1]) else if c = 63 then pat r out (now ++ [-2])
    else if c = 92 then (match r with | [] => none | e :: r' => if e = 42 ∨ e = 63 ∨ e = 124 ∨ e = 92 then pat r' out (now ++ [e]) else none)
    else pat r out (now ++ [c])
  termination_by l => l.length
def alts (s : ByteArray) : Option (List (List Int)) := if s.size ≤ 100 ∧ printB s = true then pat (octs s) [] [] else none
def altR (x : Option (List (List Int))) : List (List Int) × Bool := match x with | some l => (l, true) | none => ([], false)
def toP (c : Int) : Int × Bool × Bool × Unit := if c = -1 then (0, false, true, ()) else if c = -2 then (0, true, false, ()) else (c, false, false, ())
def altP (x : Option (List (List Int))) : List (List (Int × Bool × Bool × Unit)) × Bool := match x with | some l => (l.map (List.map toP), true) | none => ([], false)
theorem pat_nil {out now} : pat [] out now = some (out ++ [now]) := by rw [pat.eq_def]
theorem pat_cons {c r out now} : pat (c :: r) out now = if c = 124 then pat r (out ++ [now]) [] else if c = 42 then pat r out (now ++ [-1]) else if c = 63 then pat r out (now ++ [-2])
    else if c = 92 then (match r with | [] => none | e :: r' => if e = 42 ∨ e = 63 ∨ e = 124 ∨ e = 92 then pat r' out (now ++ [e]) else none)
    else pat r out (now ++ [c]) := by conv => lhs; rw [pat.eq_def]
theorem i64_pred {k : Nat} (h : k ≤ 4611686018427387904) : IntKind.wrap .i64 (((k + 1 : Nat) : Int) - 1) = (k : Int) := by rw [i64_ok] <;> omega
theorem octs_nil {s : ByteArray} : (octs s).drop s.size = [] := by rw [List.drop_eq_nil_of_le]; rw [octs_len]; exact Nat.le_refl _
theorem i64_bt {s : ByteArray} {i : Int} : IntKind.wrap .i64 (bt s i) = bt s i := by have := bt_range (s := s) (i := i); rw [i64_ok] <;> omega
end Go.VM

