/- The machine over typed values, part 1. -/
import Derived.KernelRfl
import Derived.Below
import Derived.WalkKit
import Derived.Laws.AppendOwn
import Derived.Laws.Strings
import Derived.Laws.MakeOwn
set_option linter.unusedSimpArgs false
set_option linter.unusedVariables false
set_option linter.unusedSectionVars false
namespace Go.VM
abbrev sw {α : Type} (b : Bool) (x y : α) : α := match b with | true => x | false => y
inductive Tr (α : Type) where
 | nil | node (x : α) (kids : List (Tr α))
instance {α : Type} : Inhabited (Tr α) := ⟨.nil⟩
def Tr.val {α : Type} (d : α) : Tr α → α | .nil => d | .node x _ => x
def Tr.kids {α : Type} : Tr α → List (Tr α) | .nil => [] | .node _ l => l
def Tr.is {α : Type} : Tr α → Bool | .nil => false | .node _ _ => true
inductive U where
 | bool | int (k : IntKind) | str | sl (e : Bool) (u : U) | unit | pair (a b : U) | ar (n : Nat) (u : U) | oth | bs (u : U) | pt (u : U) | tr (u : U)
 deriving DecidableEq, Inhabited
abbrev U.El : U → Type
 | .bool => Bool | .int _ => Int | .str => ByteArray | .sl _ u => List u.El | .unit => Unit | .pair a b => a.El × b.El | .ar _ u => List u.El | .oth => Unit | .bs u => List u.El | .pt u => Tr u.El | .tr u => Tr u.El
def U.dflt : (u : U) → u.El
 | .bool => false | .int _ => (0 : Int) | .str => ByteArray.empty | .sl _ _ => [] | .unit => () | .pair a b => (a.dflt, b.dflt) | .ar n u => List.replicate n u.dflt | .oth => () | .bs _ => [] | .pt _ => .nil | .tr _ => .nil
def U.sz : U → Nat
 | .unit => 0 | .pair a b => a.sz + b.sz | .ar n u => n * u.sz | .tr u => u.sz + 1 | _ => 1
def U.flat : U → Bool
 | .sl _ _ => false | .pair a b => a.flat && b.flat | .ar _ u => u.flat | .pt _ | .tr _ => false | _ => true
def U.data : U → Bool
 | .sl _ u => u.data | .pair a b => a.data && b.data | .ar _ _ => false | .bs u => u.data | .pt u => u.data && u.flat | .tr u => u.data && u.flat | _ => true
def U.plain : U → Bool
 | .sl _ u => u.plain | .pair a b => a.plain && b.plain | .ar _ _ => false | .bs u => u.plain | .pt u => u.plain && u.flat | .tr u => u.plain && u.flat | _ => true
def U.good : U → Bool | .ar _ u => u.plain | u => u.plain
def U.nobs : U → Bool
 | .bs _ => false | .sl _ u => u.nobs | .pair a b => a.nobs && b.nobs | .ar _ u => u.nobs | .pt u => u.nobs | .tr u => u.nobs | _ => true
def U.isAgg : U → Bool | .unit | .pair .. | .ar .. | .tr _ => true | _ => false
abbrev U.nd (p : Bool) (u : U) : U := .pair u (.pair (.sl false (match p with | true => .pt u | false => .tr u)) .unit)
def Tr.ptn (u : U) (t : Tr u.El) : (U.nd true u).El := (t.val u.dflt, t.kids, ())
def Tr.trn (u : U) (t : Tr u.El) : (U.nd false u).El := (t.val u.dflt, t.kids, ())
structure TV where
 u : U
 x : u.El
inductive AV where
 | dead | und
 | im (u : U) (x : u.El)
 | nil
 | hs (id : Nat) (p : List (Nat × Nat)) (w : Option (Nat × Nat)) (g : Nat)
 | po (id o : Nat)
 | pe (id : Nat) (p : List (Nat × Nat)) (g i o : Nat)
 | pi (u : U) (l : List u.El) (i o : Nat)
 | nilptr | nilfn
 | tp (id : Nat)
 | mp (id : Nat)
 | fn (f : Nat) (cs : List AV)
 | px (f : Nat) (cs : List AV) (k : Nat)
 | agg (cs : List AV)
 | tup (cs : List AV)
inductive Root where
 | dead
 | obj (cs : List AV)
 | arr (e : Bool) (u : U) (l : List u.El) (g : Nat)
 | imm (u : U) (x : u.El)
 | bld (T t : Nat) (f : Bool) (l : List Int)
 | hol (e : Bool) (u : U) (l : List u.El) (g i o : Nat) (w : U)
 | tre (u : U) (t : Tr u.El)
 | mpt (T : Nat) (l : List (ByteArray × ByteArray))
inductive Arg where
 | v (u : U) (x : u.El)
 | p (u : U) (x : u.El)
 | s (e : Bool) (u : U) (x : List u.El)
 | g (u : U) (x : u.El)
 | q (u : U) (x : u.El)
 | fn (f : Nat) (cs : List Arg)
 | cf (f : Nat) (cs : List Arg)
 | me (f m : Nat)
 | ag (cs : List Arg)
structure Res where
 ret : List TV
 outs : List TV
 pan : Option (Nat × Bool)
abbrev Hp := List (Nat × Root)
structure St where
 t : List (Nat × AV)
 h : Hp
 c : Nat
def lkT : List (Nat × AV) → Nat → AV
 | [], _ => .dead
 | (i, v) :: e, j => sw (Nat.beq i j) v (lkT e j)
def lkH : Hp → Nat → Root
 | [], _ => .dead
 | (i, v) :: e, j => sw (Nat.beq i j) v (lkH e j)
def lkN {α : Type} : List (Nat × α) → Nat → Option α
 | [], _ => none
 | (i, v) :: e, j => sw (Nat.beq i j) (some v) (lkN e j)
def putT (t : List (Nat × AV)) (d : Option Nat) (v : AV) : List (Nat × AV) := match d with | none => t | some d => (d, v) :: t
inductive Md where
 | v | c (u : U) | p (u : U) | q (u : U) | s | g (u : U) | fn | me (f m : Nat) | ag (g : Nat) | cf | b (u : U) | bl (k T t : Nat)
structure En where
 ty : List (Nat × U)
 gl : List (Nat × TV)
 md : List (Nat × List Md)
 cal : (ρ : Type) → Nat → List Arg → (Res → Option ρ) → Option ρ
section
variable (E : En) {ρ : Type}
def En.code (t : Nat) : U := match lkN E.ty t with | some u => u | none => .oth
def En.cd (t : Nat) (K : U → Option ρ) : Option ρ := match lkN E.ty t with | some u => K u | none => none
def ofV : Value → AV
 | .bool b => .im .bool b | .int k n => .im (.int k) n | .string s => .im .str s | .slice none 0 0 => .nil | .pointer none => .nilptr | .nilFunc => .nilfn | _ => .dead
def evA (t : List (Nat × AV)) : Operand → AV
 | .tmp i => lkT t i | .const v => ofV v | .func f => .fn f []
 | .global g => match lkN E.gl g with | some ⟨u, x⟩ => .pi u [x] 0 0 | none => .dead
def U.az : U → Nat
 | .unit => 0 | .pair a b => a.az + b.az | .tr u => u.az + 1 | _ => 1
def cellsOf (mk : Nat → Bool → (u : U) → List u.El → AV) : (u : U) → u.El → Nat → List AV
 | .bool, x, _ => [.im .bool x] | .int k, x, _ => [.im (.int k) x] | .str, x, _ => [.im .str x]
 | .sl e u, x, o => [mk o e u x] | .unit, _, _ => [] | .pair a b, x, o => cellsOf mk a x.1 o ++ cellsOf mk b x.2 (o + a.sz)
 | .ar n u, x, _ => [.im (.ar n u) x] | .oth, _, _ => [.dead] | .bs u, x, _ => [.im (.bs u) x]
 | .pt u, x, o => [match mk o false .unit [] with | .im .. => .im (.pt u) x | .nil => .nilptr | _ => .dead]
 | .tr u, x, o => cellsOf mk u (x.val u.dflt) o ++ [mk (o + u.az) false (.tr u) x.kids]
def pack (u : U) (cs : List AV) : AV := match u with | .unit | .pair .. | .tr _ => .agg cs | _ => match cs with | [c] => c | _ => .dead
def unpack : AV → List AV | .agg cs => cs | v => [v]
def imSl (_ : Nat) (e : Bool) (u : U) (l : List u.El) : AV := .im (.sl e u) l
def slAt : (u : U) → u.El → Nat → Option (Bool × (u' : U) × List u'.El)
 | .sl e u, x, 0 => some ⟨e, u, x⟩
 | .pair a b, x, o => sw (Nat.blt o a.az) (slAt a x.1 o) (slAt b x.2 (o - a.az))
 | .tr u, x, o => sw (Nat.beq o u.az) (some ⟨false, .tr u, x.kids⟩) none
 | _, _, _ => none
def atP : Bool → (u : U) → List u.El → List (Nat × Nat) → Option (Bool × (u' : U) × List u'.El)
 | e, u, l, [] => some ⟨e, u, l⟩
 | _, u, l, (i, o) :: p => match slAt u (l.getD i u.dflt) o with | some ⟨e', u', l'⟩ => atP e' u' l' p | none => none
def castL (u v : U) (l : List u.El) : Option (List v.El) := if h : u = v then some (h ▸ l) else none
def win {α : Type} (w : Option (Nat × Nat)) (l : List α) : List α := match w with | none => l | some (a, n) => (l.drop a).take n
def wOff : Option (Nat × Nat) → Nat | none => 0 | some (a, _) => a
def okG (p : List (Nat × Nat)) (g g' : Nat) : Bool := match p with | [] => true | _ => Nat.beq g g'
def slice? (h : Hp) : AV → Option (Bool × (u : U) × List u.El)
 | .im (.sl e u) l => some ⟨e, u, l⟩
 | .im (.bs u) l => some ⟨false, u, l⟩
 | .hs id p w g => match lkH h id with
  | .arr e u l g' => sw (okG p g g') (match atP e u l p with | some ⟨e', u', l'⟩ => some ⟨(match w with | none => e' | some _ => false), u', win w l'⟩ | none => none) none
  | _ => none
 | _ => none
def sliceAs (h : Hp) (e : Bool) (u : U) : AV → Option (List u.El)
 | .nil => some []
 | v => match slice? h v with | some ⟨e', u', l⟩ => sw (e' || !e) (castL u' u l) none | none => none
def asm (h : Hp) : (u : U) → List AV → Option (u.El × List AV)
 | .bool, c :: r => (match c with | .im .bool b => some (b, r) | _ => none)
 | .int k, c :: r => (match c with | .im (.int k') n => sw (decide (k = k')) (some (n, r)) none | _ => none)
 | .str, c :: r => (match c with | .im .str b => some (b, r) | _ => none)
 | .sl e u, c :: r => (match sliceAs h e u c with | some l => some (l, r) | none => none)
 | .bs u, c :: r => (match c with | .im (.bs u') l => (match castL u' u l with | some l => some (l, r) | none => none) | .nil => some ([], r) | _ => none)
 | .oth, c :: r => (match c with | .im (.sl _ _) _ => some ((), r) | _ => none)
 | .unit, r => some ((), r)
 | .pair a b, r => match asm h a r with | some (x, r) => (match asm h b r with | some (y, r) => some ((x, y), r) | none => none) | none => none
 | .ar n u, c :: r => (match c with | .im (.ar m u') l => sw (Nat.beq n m) (match castL u' u l with | some l => some (l, r) | none => none) none | _ => none)
 | .pt u, c :: r => (match c with
  | .im (.pt u') t => (match castL (.pt u') (.pt u) [t] with | some l => some (l.headD .nil, r) | none => none)
  | .nilptr => some (.nil, r)
  | .tp id => (match lkH h id with | .tre u' t => (match castL (.pt u') (.pt u) [t] with | some l => some (l.headD .nil, r) | none => none) | _ => none)
  | _ => none)
 | .tr u, r => (match asm h u r with | some (x, k :: r) => (match sliceAs h false (.tr u) k with | some l => some (.node x l, r) | none => none) | _ => none)
 | _, _ => none
def fitsU : U → AV → Bool
 | .unit, .agg _ | .pair .., .agg _ | .tr _, .agg _ => true
 | .unit, _ | .pair .., _ | .tr _, _ => false
 | .ar .., _ => false
 | _, .agg _ | _, .tup _ | _, .und | _, .dead => false
 | _, _ => true
def asmV (h : Hp) (u : U) (v : AV) : Option u.El := match asm h u (unpack v) with | some (x, []) => some x | _ => none
def bsv : U → U | .sl _ u => .bs u | .pair a b => .pair (bsv a) (bsv b) | u => u
theorem bsv_El : (u : U) → (bsv u).El = u.El
 | .sl _ u => rfl
 | .pair a b => by show ((bsv a).El × (bsv b).El) = (a.El × b.El); rw [bsv_El a, bsv_El b]
 | .bool => rfl | .int _ => rfl | .str => rfl | .unit => rfl | .oth => rfl | .ar _ _ => rfl | .bs _ => rfl | .pt _ => rfl | .tr _ => rfl
def castB {u w : U} (e : bsv u = w) (l : List u.El) : List w.El := cast (by rw [← e, bsv_El]) l
def asmB (h : Hp) : (u : U) → List AV → Option (u.El × List AV)
 | .bs u, c :: r => (match sliceAs h false u c with | some l => some (l, r) | none => none)
 | .unit, r => some ((), r)
 | .sl false w, c :: r => (match asm h (.sl false w) (c :: r) with | some y => some y | none => (match slice? h c with | some ⟨_, u, l⟩ => if e : bsv u = w then some (castB e l, r) else none | none => none))
 | .pair a b, r => match asmB h a r with | some (x, r) => (match asmB h b r with | some (y, r) => some ((x, y), r) | none => none) | none => none
 | u, r => asm h u r
def bwId : Nat := 4294967296
def asmF (h : Hp) (u : U) (r : List AV) (ks : List Nat) : Option (u.El × List AV × List Nat) := sw u.flat (match asm h u r with | some (x, r) => some (x, r, ks) | none => none) none
def ownL (h : Hp) (u : U) (c : AV) (ks : List Nat) : Option (List u.El × List Nat) := match c with
 | .nil => some ([], ks)
 | .hs id [] none _ => (match lkH h id with | .arr _ u' l _ => (match castL u' u l with | some l => some (l, id :: ks) | none => none) | _ => none)
 | _ => none
def asmO (h : Hp) : (u : U) → List AV → List Nat → Option (u.El × List AV × List Nat)
 | .sl e u, c :: r, ks => (match c with
  | .nil => some ([], r, ks)
  | .hs id [] none _ => (match lkH h id with | .arr e' u' l _ => sw (e' || !e) (match castL u' u l with | some l => some (l, r, id :: ks) | none => none) none | _ => none)
  | _ => none)
 | .pair a b, r, ks => match asmO h a r ks with | some (x, r, ks) => (match asmO h b r ks with | some (y, r, ks) => some ((x, y), r, ks) | none => none) | none => none
 | .unit, r, ks => some ((), r, ks)
 | .pt u, c :: r, ks => (match c with
  | .nilptr => some (.nil, r, ks)
  | .tp id => (match lkH h id with | .tre u' t => (match castL (.pt u') (.pt u) [t] with | some l => some (l.headD .nil, r, id :: ks) | none => none) | _ => none)
  | .po id 0 => (match lkH h id with
   | .obj cs => (match asm h u cs with | some (x, [k]) => (match ownL h (.pt u) k ks with | some (l, ks) => some (.node x l, r, id :: ks) | none => none) | _ => none)
   | _ => none)
  | _ => none)
 | .tr u, r, ks => (match asm h u r with | some (x, k :: r) => (match ownL h (.tr u) k ks with | some (l, ks) => some (.node x l, r, ks) | none => none) | _ => none)
 | u, r, ks => asmF h u r ks
def nodup : List Nat → Bool | [] => true | i :: r => !(r.any (Nat.beq i)) && nodup r
def asmOV (h : Hp) (u : U) (v : AV) : Option (u.El × List Nat) := match asmO h u (unpack v) [] with | some (x, [], ks) => sw (nodup ks) (some (x, ks)) none | _ => none
def setAt (w : U) (y : w.El) : (u : U) → u.El → Nat → Option u.El
 | .pair a b, x, o => if h : Nat.beq o 0 = true ∧ w = .pair a b then some (h.2 ▸ y) else
   sw (Nat.blt o a.az) (match setAt w y a x.1 o with | some z => some (z, x.2) | none => none) (match setAt w y b x.2 (o - a.az) with | some z => some (x.1, z) | none => none)
 | .tr u, x, o => if h : Nat.beq o 0 = true ∧ w = .tr u then some (h.2 ▸ y) else
   if h : Nat.beq o u.az = true ∧ w = .sl false (.tr u) then some (.node (x.val u.dflt) (show (U.sl false (.tr u)).El from h.2 ▸ y)) else none
 | u, _, o => if h : Nat.beq o 0 = true ∧ w = u then some (h.2 ▸ y) else none
def modP (w : U) (g : List w.El → List w.El) : Bool → (u : U) → List u.El → List (Nat × Nat) → Option (List u.El)
 | _, u, l, [] => if h : w = u then some (h ▸ g (h ▸ l)) else none
 | _, u, l, (i, o) :: p => match slAt u (l.getD i u.dflt) o with
    | some ⟨e', u', l'⟩ => (match modP w g e' u' l' p with
       | some l'' => (match setAt (.sl e' u') l'' u (l.getD i u.dflt) o with | some x => some (l.set i x) | none => none)
       | none => none)
    | none => none
def room (n : Nat) : Bool := decide (n ≤ 1000000000)
def inB (i : Int) (n : Nat) : Bool := decide (0 ≤ i ∧ i < (n : Int))
def inC (i j : Int) (n : Nat) : Bool := decide (0 ≤ i ∧ i ≤ j ∧ j ≤ (n : Int))
def bt (s : ByteArray) (i : Int) : Int := ((s.data.getD i.toNat 0).toNat : Int)
def slt (a b : ByteArray) : Bool := Op.bytesLess a.data.toList b.data.toList
def seq (a b : ByteArray) : Bool := decide (a = b)
def octs (s : ByteArray) : List Int := s.data.toList.map fun b => (b.toNat : Int)
def ofOcts (l : List Int) : ByteArray := ⟨(l.map fun n => UInt8.ofNat n.toNat).toArray⟩
def band (k : IntKind) (x y : Int) : Int := k.wrap ((BitVec.ofInt k.bits x &&& BitVec.ofInt k.bits y).toNat : Int)
def bor (k : IntKind) (x y : Int) : Int := k.wrap ((BitVec.ofInt k.bits x ||| BitVec.ofInt k.bits y).toNat : Int)
def bxor (k : IntKind) (x y : Int) : Int := k.wrap ((BitVec.ofInt k.bits x ^^^ BitVec.ofInt k.bits y).toNat : Int)
def bandn (k : IntKind) (x y : Int) : Int := k.wrap ((BitVec.ofInt k.bits x &&& ~~~(BitVec.ofInt k.bits y)).toNat : Int)
def shl (k : IntKind) (x y : Int) : Int := k.wrap (x * 2 ^ (min y.toNat k.bits))
def shr (k : IntKind) (x y : Int) : Int := x.fdiv (2 ^ (min y.toNat k.bits))
def mulI (k : IntKind) (x y : Int) : Int := match k with | .u64 => y * x | _ => x * y
def binI (op : BinOp) (k : IntKind) (x y : Int) (K : AV → Option ρ) : Option ρ :=
 match op with
 | .add => K (.im (.int k) (k.wrap (x + y))) | .sub => K (.im (.int k) (k.wrap (x - y))) | .mul => K (.im (.int k) (k.wrap (mulI k x y)))
 | .quo => cond (decide (y = 0)) none (K (.im (.int k) (k.wrap (x.tdiv y)))) | .rem => cond (decide (y = 0)) none (K (.im (.int k) (x.tmod y)))
 | .eql => K (.im .bool (decide (x = y))) | .neq => K (.im .bool (!decide (x = y))) | .lss => K (.im .bool (decide (x < y))) | .leq => K (.im .bool (decide (x ≤ y)))
 | .gtr => K (.im .bool (decide (y < x))) | .geq => K (.im .bool (decide (y ≤ x)))
 | .and => K (.im (.int k) (band k x y)) | .or => K (.im (.int k) (bor k x y)) | .xor => K (.im (.int k) (bxor k x y)) | .andNot => K (.im (.int k) (bandn k x y))
 | .shl | .shr => none
def binS (op : BinOp) (x y : ByteArray) (K : AV → Option ρ) : Option ρ :=
 match op with
 | .add => cond (room (x.size + y.size)) (K (.im .str (x ++ y))) none
 | .eql => K (.im .bool (seq x y)) | .neq => K (.im .bool (!seq x y)) | .lss => K (.im .bool (slt x y)) | .geq => K (.im .bool (!slt x y))
 | .leq => K (.im .bool (!slt y x)) | .gtr => K (.im .bool (slt y x)) | _ => none
def isNil (h : Hp) : AV → Option Bool
 | .nil => some true
 | .im (.sl true _) l => some l.isEmpty
 | .hs id [] none _ => (match lkH h id with | .arr true _ l _ => some l.isEmpty | _ => none)
 | _ => none
def eqL : U → List AV → List AV → Option Bool
 | .unit, [], [] => some true
 | .pair (.int k) b, .im (.int k1) x :: cs, .im (.int k2) y :: ds => sw (decide (k = k1) && decide (k = k2)) (match eqL b cs ds with | some r => some (decide (x = y) && r) | none => none) none
 | .pair .str b, .im .str x :: cs, .im .str y :: ds => (match eqL b cs ds with | some r => some (seq x y && r) | none => none)
 | .pair .bool b, .im .bool x :: cs, .im .bool y :: ds => (match eqL b cs ds with | some r => some ((x == y) && r) | none => none)
 | _, _, _ => none
def binA (h : Hp) (cd : Option U) (op : BinOp) (x y : AV) (K : AV → Option ρ) : Option ρ :=
 match x, y with
 | .im (.int k) x, .im (.int k') y => (match op with
  | .shl => cond (decide (0 ≤ y)) (K (.im (.int k) (shl k x y))) none
  | .shr => cond (decide (0 ≤ y)) (K (.im (.int k) (shr k x y))) none
  | op => sw (decide (k = k')) (binI op k x y K) none)
 | .im .str x, .im .str y => binS op x y K
 | .im .bool x, .im .bool y => (match cd, op with | some .bool, .eql => K (.im .bool (x == y)) | some .bool, .neq => K (.im .bool (x != y)) | _, _ => none)
 | .agg cs, .agg ds => (match cd, op with
  | some (.pair a b), .eql => (match eqL (.pair a b) cs ds with | some r => K (.im .bool r) | none => none)
  | some (.pair a b), .neq => (match eqL (.pair a b) cs ds with | some r => K (.im .bool (!r)) | none => none)
  | _, _ => none)
 | .im (.pt _) t, .nilptr => (match cd, op with | some (.pt _), .eql => K (.im .bool (!t.is)) | some (.pt _), .neq => K (.im .bool t.is) | _, _ => none)
 | .tp id, .nilptr => (match lkH h id, cd, op with | .tre _ t, some (.pt _), .eql => K (.im .bool (!t.is)) | .tre _ t, some (.pt _), .neq => K (.im .bool t.is) | _, _, _ => none)
 | x, .nil => (match cd, isNil h x, op with
  | some (.sl _ _), some b, .eql => K (.im .bool b) | some (.sl _ _), some b, .neq => K (.im .bool (!b))
  | some (.sl _ _), none, .eql => (match slice? h x with | some ⟨_, _, l⟩ => cond l.isEmpty none (K (.im .bool false)) | none => none)
  | some (.sl _ _), none, .neq => (match slice? h x with | some ⟨_, _, l⟩ => cond l.isEmpty none (K (.im .bool true)) | none => none)
  | _, _, _ => none)
 | _, _ => none
def fieldOff : U → Nat → Option (Nat × U)
 | .pair a _, 0 => some (0, a)
 | .pair a b, n + 1 => (match fieldOff b n with | some (o, u) => some (a.az + o, u) | none => none)
 | .tr u, 0 => some (0, u)
 | .tr u, 1 => some (u.az, .sl false (.tr u))
 | _, _ => none
def zeroA (u : U) : List AV := cellsOf (fun _ _ _ _ => .nil) u u.dflt 0
def lenA (h : Hp) (u : U) (v : AV) : Option Int := match u, v with
 | .sl _ _, .nil => some 0
 | .str, .im .str x => some (x.size : Int)
 | .ar n _, _ => some (n : Int)
 | .sl _ _, v => (match slice? h v with | some ⟨_, _, l⟩ => some (l.length : Int) | none => none)
 | _, _ => none
def piece (u : U) (cs : List AV) (o : Nat) : AV := pack u ((cs.drop o).take u.az)
def piece? (u : U) (cs : List AV) (o : Nat) : Option AV := sw (Nat.ble (o + u.az) cs.length && u.plain) (some (piece u cs o)) none
def insK {α : Type} (v : α) (l : List α) : Nat → List α | 0 => l | k + 1 => l.take k ++ v :: l.drop k
def loadA (h : Hp) (u : U) : AV → Option AV
 | .po id o => match lkH h id with
    | .obj cs => piece? u cs o
    | .imm v x => sw v.plain (piece? u (cellsOf imSl v x 0) o) none
    | .tre v t => sw u.flat (piece? u (cellsOf imSl v (t.val v.dflt) 0) o) none
    | _ => none
 | .px f cs k => sw (decide (u = .oth)) (some (.fn f (insK (.px f cs k) cs k))) none
 | .pi v l i o => sw v.plain (piece? u (cellsOf imSl v (l.getD i v.dflt) 0) o) none
 | .pe id p g i o => match lkH h id with
    | .arr e v l g' => sw (okG p g g') (match atP e v l p with | some ⟨_, v', l'⟩ => piece? u (cellsOf (fun c _ _ _ => .hs id (p ++ [(i, c)]) none g') v' (l'.getD i v'.dflt) 0) o | none => none) none
    | _ => none
 | _ => none
def cellA (h : Hp) : AV → Bool
 | .dead | .und | .agg _ | .tup _ | .px .. | .mp _ => false
 | .im u _ => !u.isAgg
 | .hs id p _ g | .pe id p g _ _ => (match lkH h id with | .arr _ _ _ g' => okG p g g' | _ => false)
 | .po id _ | .tp id => (match lkH h id with | .dead => false | _ => true)
 | .nil | .nilptr | .nilfn | .pi .. | .fn .. => true
def splice {α : Type} (l : List α) (o : Nat) (m : List α) : List α := l.take o ++ m ++ l.drop (o + m.length)
def killed (ks : List Nat) : Hp := ks.map fun i => (i, .dead)
def storeA (h : Hp) (u : U) (a v : AV) : Option Hp := match a with
 | .po id o => match lkH h id with
    | .obj cs => sw ((unpack v).all (cellA h) && Nat.beq (unpack v).length u.az && u.plain && Nat.ble (o + u.az) cs.length) (some [(id, .obj (splice cs o (unpack v)))]) none
    | _ => none
 | .pe id p g i o => match lkH h id with
    | .arr e w l g' => sw (okG p g g') (match atP e w l p with
       | some ⟨_, w', l'⟩ => (match sw (u.plain && (unpack v).all (cellA h)) (asmOV h u v) none with
          | some (y, ks) => (match setAt u y w' (l'.getD i w'.dflt) o with
             | some x => (match modP w' (fun l => l.set i x) e w l p with
                | some m => sw (ks.any (Nat.beq id)) none (some ((id, .arr e w m (sw w.flat g' (g' + 1))) :: killed ks))
                | none => none)
             | none => none)
          | none => none)
       | none => none) none
    | _ => none
 | _ => none
def fillA (h : Hp) (u : U) (a v : AV) : Option (Bool × Hp) := match a with
 | .pe id [] _ i o => match lkH h id with
    | .hol e w l g' i' o' wc => sw (Nat.beq o o' && decide (u = wc) && (unpack v).all (cellA h)) (match asmOV h u v with
       | some (y, ks) => (match setAt u y w (l.getD i' w.dflt) o with
          | some x => sw (ks.any (Nat.beq id)) none (some (Nat.beq i i', (id, .arr e w (l.set i' x) (g' + 1)) :: killed ks))
          | none => none)
       | none => none) none
    | _ => none
 | _ => none
def findX (id g : Nat) : Hp → Option Nat
 | [] => none
 | (o, .obj [.hs i1 [(0, 0)] none g1, .hs i2 [(0, 1)] none g2]) :: h => sw (Nat.beq i1 id && Nat.beq i2 id && Nat.beq g1 g && Nat.beq g2 g) (some o) (findX id g h)
 | _ :: h => findX id g h
def swapA (base : Nat) (h : Hp) (u : U) (a v : AV) : Option (Bool × Option (Bool × Hp)) := match a, u, unpack v with
 | .pe id [] _ i 0, .pair (.sl false u1) (.pair (.sl false u2) .unit), [.hs i1 [(j1, 0)] none g1, .hs i2 [(j2, 1)] none g2] => (match lkH h id with
    | .arr e w l g => sw (Nat.beq i1 id && Nat.beq i2 id && Nat.beq g1 g && Nat.beq g2 g && u1.plain && u2.plain && decide (w = .pair (.sl false u1) (.pair (.sl false u2) .unit)))
       (some (Nat.beq j1 i && Nat.beq j2 i, match castL w (.pair (.sl false u1) (.pair (.sl false u2) .unit)) l, findX id g h with
        | some l, some o => (match lkH h o with
           | .obj [.hs k1 [(0, 0)] none f1, .hs k2 [(0, 1)] none f2] => sw (Nat.beq k1 id && Nat.beq k2 id && Nat.beq f1 g && Nat.beq f2 g)
              (some (Nat.beq i 0 && Nat.blt 0 j1 && Nat.beq j1 j2, [(id, .hol e (.pair (.sl false u1) (.pair (.sl false u2) .unit)) (l.set 0 (l.getD j1 (U.dflt (.pair (.sl false u1) (.pair (.sl false u2) .unit))))) (g + 1) j1 0 (.pair (.sl false u1) (.pair (.sl false u2) .unit))),
                 (base + 32, .arr false u1 (l.getD 0 (U.dflt (.pair (.sl false u1) (.pair (.sl false u2) .unit)))).1 0), (base + 33, .arr false u2 (l.getD 0 (U.dflt (.pair (.sl false u1) (.pair (.sl false u2) .unit)))).2.1 0), (o, .obj [.hs (base + 32) [] none 0, .hs (base + 33) [] none 0])] ++ killed [id, o])) none
           | _ => none)
        | _, _ => none)) none
    | _ => none)
 | _, _, _ => none
def shiftL {α : Type} (l : List α) (b : Nat) (d : α) : List α := l.take b ++ d :: (l.drop b).dropLast
def copyA (h : Hp) (c : U) (d s : AV) (K : AV → Hp → Option ρ) : Option ρ := match d, s with
 | .hs id [] (some (a, n)) _, .hs id' [] (some (b, m)) _ => sw (Nat.beq id id') (match lkH h id with
    | .arr e u l g => sw (decide (c = u) && u.plain) (cond (Nat.beq a (b + 1) && Nat.beq (a + n) l.length && Nat.beq (b + m) l.length && Nat.blt b l.length) (K (.im (.int .i64) (n : Int)) [(id, .hol e u (shiftL l b u.dflt) g b 0 u)]) none) none
    | _ => none) none
 | _, _ => none
def indexAddrA (h : Hp) (c : U) (x : AV) (i : Int) (K : AV → Option ρ) : Option ρ := match c, x with
 | .sl _ w, .im (.sl _ u) l => sw (decide (w = u)) (cond (inB i l.length) (K (.pi u l i.toNat 0)) none) none
 | .sl _ w, .im (.bs u) l => sw (decide (w = u)) (cond (inB i l.length) (K (.pi u l i.toNat 0)) none) none
 | .sl _ w', .hs id p w g => (match slice? h (.hs id p w g) with | some ⟨_, u, l⟩ => sw (decide (w' = u)) (cond (inB i l.length) (K (.pe id p g (wOff w + i.toNat) 0)) none) none | none => (match p, w, lkH h id with
    | [], none, .hol _ u l _ _ _ _ => sw (decide (w' = u)) (cond (inB i l.length) (K (.pe id [] g i.toNat 0)) none) none
    | _, _, _ => none))
 | .ar n w, .po id 0 => (match lkH h id with | .arr _ u l _ => sw (decide (w = u) && decide (1 < n)) (cond (inB i n) (cond (inB i l.length) (K (.pe id [] 0 i.toNat 0)) none) none) none | _ => none)
 | .ar n w, .pi (.ar m u) l j 0 => sw (decide (w = u) && Nat.beq n m && decide (1 < n)) (cond (inB i n) (K (.pi u (l.getD j []) i.toNat 0)) none) none
 | _, _ => none
def fieldAddrA (h : Hp) (o : Nat) : AV → Option AV
 | .po id p => (match lkH h id with | .obj _ => some (.po id (p + o)) | .imm .. => some (.po id (p + o)) | .tre .. => some (.po id (p + o)) | _ => none)
 | .pe id p g i q => (match lkH h id with | .arr _ _ _ g' => sw (okG p g g') (some (.pe id p g i (q + o))) none | .hol .. => sw p.isEmpty (some (.pe id p g i (q + o))) none | _ => none)
 | .pi u l i q => some (.pi u l i (q + o)) | _ => none
def orZ (x : Option Int) (d : Int) : Int := x.getD d
def sliceA (h : Hp) (c : U) (x : AV) (lo hi : Option Int) (K : AV → Option ρ) : Option ρ := match c, x with
 | .str, .im .str s => cond (inC (orZ lo 0) (orZ hi s.size) s.size) (K (.im .str (s.extract (orZ lo 0).toNat (orZ hi s.size).toNat))) none
 | .sl _ w, .im (.sl _ u) l => sw (decide (w = u)) (cond (inC (orZ lo 0) (orZ hi l.length) l.length) (K (.im (.sl false u) ((l.take (orZ hi l.length).toNat).drop (orZ lo 0).toNat))) none) none
 | .sl _ w', .hs id p w g => (match slice? h (.hs id p w g) with
    | some ⟨_, u, l⟩ => sw (decide (w' = u)) (cond (inC (orZ lo 0) (orZ hi l.length) l.length) (K (.hs id p (some (wOff w + (orZ lo 0).toNat, (orZ hi l.length).toNat - (orZ lo 0).toNat)) g)) none) none
    | none => none)
 | _, _ => none
def rooted : (u : U) → u.El → Nat → (List AV × Hp)
 | .sl e u, x, base => ([.hs base [] none 0], [(base, .arr e u x 0)])
 | .pair a b, x, base => let r := rooted a x.1 base; let q := rooted b x.2 (base + a.az); (r.1 ++ q.1, r.2 ++ q.2)
 | .unit, _, _ => ([], [])
 | .pt u, x, base => ([.tp base], [(base, .tre u x)])
 | .tr u, x, base => ((rooted u (x.val u.dflt) base).1 ++ [.hs (base + u.az) [] none 0], (rooted u (x.val u.dflt) base).2 ++ [(base + u.az, .arr false (.tr u) x.kids 0)])
 | u, x, _ => ([.im u x], [])
def rootedL : List TV → Nat → (List AV × Hp)
 | [], _ => ([], [])
 | ⟨u, x⟩ :: r, base => let a := rooted u x base; let b := rootedL r (base + u.az); (pack u a.1 :: b.1, a.2 ++ b.2)
mutual
def refs : AV → List Nat
 | .hs id .. => [id] | .po id _ => [id] | .tp id | .mp id => [id] | .pe id .. => [id] | .px _ cs _ => refsL cs | .fn _ cs | .agg cs | .tup cs => refsL cs | _ => []
def refsL : List AV → List Nat
 | [] => [] | v :: r => refs v ++ refsL r
end
def clos (h : Hp) : Nat → List Nat → List Nat
 | 0, l => l
 | n + 1, l => clos h n (l ++ l.flatMap fun i => match lkH h i with | .obj cs => (refsL cs).filter fun j => !(l.any (Nat.beq j)) | _ => [])
def restrict (h : Hp) (l : List Nat) : Hp := l.map fun i => (i, lkH h i)
def meets (a b : List Nat) : Bool := a.any fun i => b.any (Nat.beq i)
inductive Lent where
 | p (id : Nat) (u : U) | s (id : Nat) (p : List (Nat × Nat)) (g : Nat) | sp (id : Nat) (p : List (Nat × Nat)) (g : Nat) (e : Bool) (u : U) (l : List u.El) | ho (id g i c : Nat) (e : Bool) (u : U) (l : List u.El) (w : U)
structure Args where
 as : List Arg
 lent : List Lent
 taken : List Nat
 seen : List Nat
def takeP (h : Hp) (w : U) (v : AV) : Option (Nat × Nat × Nat × Nat × (Bool × (u : U) × List u.El) × U × w.El) := match w, v with
 | .sl ew uw, .hs id [(i, c)] none gg => (match lkH h id with
    | .arr e u l g => sw (Nat.beq gg g && u.plain && uw.plain) (match slAt u (l.getD i u.dflt) c with
       | some ⟨e', u', l'⟩ => sw (e' || !ew) (match castL u' uw l' with | some x => some (id, g, i, c, ⟨e, u, l⟩, .sl e' u', x) | none => none) none
       | none => none) none
    | _ => none)
 | _, _ => none
def argsG (fnc : Nat → List AV → Option Args) (h : Hp) : List (U × AV) → List Md → Option Args
 | [], _ => some ⟨[], [], [], []⟩
 | (u, v) :: r, md => match argsG fnc h r md.tail with
  | none => none
  | some ⟨as, lt, tk, sn⟩ => match md.headD .v with
   | .v => (match sw (u.plain && fitsU u v) (asmV h u v) none with | some x => some ⟨.v u x :: as, lt, tk, refs v ++ sn⟩ | none => none)
   | .c w => (match sw (w.plain && fitsU w v) (asmV h w v) none with | some x => some ⟨.v w x :: as, lt, tk, refs v ++ sn⟩ | none => none)
   | .b w => (match sw (w.plain && fitsU w v) (match asmB h w (unpack v) with | some (x, []) => some x | _ => none) none with | some x => some ⟨.v w x :: as, lt, tk, (bwId :: refs v) ++ sn⟩ | none => none)
   | .p w => (match v with
      | .po id 0 => (match lkH h id with
         | .obj cs => (match sw (w.plain && cs.all (cellA h) && Nat.beq cs.length w.az) (asmOV h w (.agg cs)) none with | some (x, ks) => some ⟨.p w x :: as, .p id w :: lt, id :: (ks ++ tk), sn⟩ | none => none)
         | _ => none)
      | _ => none)
   | .q w => (match v with
      | .po id 0 => (match lkH h id with | .obj cs => (match sw w.plain (asm h w cs) none with | some (x, []) => some ⟨.q w x :: as, lt, tk, id :: (refsL cs ++ sn)⟩ | _ => none) | .imm u x => (match sw w.plain (castL u w [x]) none with | some l => some ⟨.q w (l.getD 0 w.dflt) :: as, lt, tk, sn⟩ | none => none) | _ => none)
      | .pi u l i 0 => (match sw w.plain (castL u w l) none with | some l => some ⟨.q w (l.getD i w.dflt) :: as, lt, tk, sn⟩ | none => none)
      | _ => none)
   | .s => (match v with
      | .hs id [] none _ => (match lkH h id with | .arr e w l g => some ⟨.s e w l :: as, .s id [] g :: lt, id :: tk, sn⟩ | _ => none)
      | .hs id (q :: p) none gg => (match lkH h id with | .arr e0 u0 l0 g => sw (Nat.beq gg g) (match atP e0 u0 l0 (q :: p) with | some ⟨e, w, l⟩ => some ⟨.s e w l :: as, .sp id (q :: p) g e0 u0 l0 :: lt, id :: tk, sn⟩ | none => none) none | _ => none)
      | _ => none)
   | .g w => (match sw (w.plain && fitsU w v) (asmOV h w v) none with | some (x, ks) => some ⟨.g w x :: as, lt, ks ++ tk, sn⟩ | none => (match takeP h w v with | some (id, g, i, c, ⟨e, u, l⟩, w', x) => some ⟨.g w x :: as, .ho id g i c e u l w' :: lt, id :: tk, sn⟩ | none => none))
   | .fn => (match v with | .fn f cs => (match fnc f cs with | some A => some ⟨.fn f A.as :: as, A.lent ++ lt, A.taken ++ tk, A.seen ++ sn⟩ | none => none) | _ => none)
   | .ag g => (match v with | .agg cs => (match fnc g cs with | some A => some ⟨.ag A.as :: as, A.lent ++ lt, A.taken ++ tk, A.seen ++ sn⟩ | none => none) | _ => none)
   | .cf => (match v with
      | .px f cs 0 => (match fnc f cs with | some A => some ⟨.cf f A.as :: as, A.lent ++ lt, A.taken ++ tk, A.seen ++ sn⟩ | none => none)
      | .po id 0 => (match lkH h id with | .obj [.fn f cs] => (match fnc f cs with | some A => some ⟨.cf f A.as :: as, A.lent ++ lt, A.taken ++ tk, id :: (A.seen ++ sn)⟩ | none => none) | _ => none)
      | _ => none)
   | .me f m => (match v with | .px .. => some ⟨.me f m :: as, lt, tk, sn⟩ | .po id 0 => (match lkH h id with | .obj _ => some ⟨.me f m :: as, lt, tk, id :: sn⟩ | _ => none) | _ => none)
   | .bl .. => none
def argsOf (h : Hp) (cm : Nat → List Md) (as : List (U × AV)) (md : List Md) : Option Args :=
 argsG (fun f cs => argsG (fun f cs => argsG (fun _ _ => none) h (cs.map fun c => (.oth, c)) (cm f)) h (cs.map fun c => (.oth, c)) (cm f)) h as md
def backA : List Lent → List TV → Nat → Option Hp
 | [], [], _ => some []
 | .p id u :: lt, ⟨w, x⟩ :: r, base => (match backA lt r (base + u.az) with
    | some q => if h : w = u then (let a := rooted u (h ▸ x) base; some ((id, .obj a.1) :: (a.2 ++ q))) else none
    | none => none)
 | .s id _ g :: lt, ⟨.sl e u, x⟩ :: r, base => (match backA lt r base with | some q => some ((id, .arr e u x (g + 1)) :: q) | none => none)
 | .ho id g i c e0 u0 l0 w :: lt, r, base => (match backA lt r base with | some q => some ((id, .hol e0 u0 l0 g i c w) :: q) | none => none)
 | .sp id p g e0 u0 l0 :: lt, ⟨.sl _ u, x⟩ :: r, base => (match backA lt r base, modP u (fun _ => x) e0 u0 l0 p with | some q, some m => some ((id, .arr e0 u0 m (g + 1)) :: q) | _, _ => none)
 | _, _, _ => none
def same (h : Hp) : List AV → List AV → Bool
 | [], [] => true
 | .po i o :: r, .po j q :: s => Nat.beq i j && Nat.beq o q && (match lkH h i with | .dead => false | _ => true) && same h r s
 | _, _ => false
def okX (h : Hp) (avs : List AV) (i f m : Nat) : Bool := Nat.ble m i && (match avs[i]? with
 | some (.px f' cs k) => Nat.beq f' f && Nat.beq k (i - m + 1) && same h ((avs.drop m).eraseIdx (i - m)) cs
 | some (.po id 0) => (match lkH h id with | .obj [.fn f' cs] => Nat.beq f' f && same h (avs.drop m) cs | _ => false)
 | _ => false)
def recA (h : Hp) (avs : List AV) : List Arg → Nat → Bool
 | [], _ => true
 | .me f m :: r, i => okX h avs i f m && recA h avs r (i + 1)
 | _ :: r, i => recA h avs r (i + 1)
def azL : List TV → Nat | [] => 0 | ⟨u, _⟩ :: r => u.az + azL r
def nobsL : List TV → Bool | [] => true | ⟨u, _⟩ :: r => u.nobs && nobsL r
def resA : List AV → AV | [v] => v | c => .tup c
def callA (base : Nat) (h : Hp) (f : Nat) (as : List (U × AV)) (PK : Nat → Hp → Option ρ) (K : AV → Hp → Option ρ) : Option ρ :=
 match argsOf h (fun f => (lkN E.md (f + 1000000)).getD []) as ((lkN E.md f).getD []) with
 | some a => sw (nodup a.taken && !meets a.taken a.seen && recA h (as.map (·.2)) a.as 0) (E.cal ρ f a.as fun r =>
   let c := rootedL r.ret base
   sw (Nat.ble (azL r.ret) 32 && Nat.ble (azL r.outs) 32 && (!a.seen.any (Nat.beq bwId) || (nobsL r.ret && nobsL r.outs))) (match backA a.lent r.outs (base + 32) with
   | some q => (match r.pan with
      | none => K (resA c.1) (q ++ c.2 ++ killed a.taken)
      | some (t, b) => cond b (PK t (q ++ killed a.taken)) (K (resA c.1) (q ++ c.2 ++ killed a.taken)))
   | none => none) none) none
 | none => none
def buildF (h : Hp) (u : U) : List (Nat × AV) → List AV → Option (List AV)
 | [], cs => some cs
 | (i, c) :: r, cs => (match fieldOff u i with | some (o, w) => sw ((unpack c).all (cellA h) && Nat.beq (unpack c).length w.az) (buildF h u r (splice cs o (unpack c))) none | none => none)
def buildR (h : Hp) (u : U) : List (Nat × AV) → List u.El → Option (List u.El)
 | [], l => some l
 | (i, c) :: r, l => (match sw ((unpack c).all (cellA h) && Nat.blt i l.length) (asmV h u c) none with | some x => buildR h u r (l.set i x) | none => none)
def buildA (u : U) (h : Hp) (parts : List (Nat × AV)) : Option AV := match u with
 | .ar n w => sw (w.flat && w.data) (match buildR h w parts (List.replicate n w.dflt) with | some l => some (.im (.ar n w) l) | none => none) none
 | .pair .. | .unit | .tr _ => (match buildF h u parts (zeroA u) with | some cs => some (.agg cs) | none => none)
 | _ => none
def buildL (h : Hp) (u : U) : List (Nat × AV) → Nat → Option (List u.El × List Nat)
 | _, 0 => some ([], [])
 | (_, v) :: r, n + 1 => (match sw ((unpack v).all (cellA h)) (asmOV h u v) none, buildL h u r n with | some (x, ks), some (l, js) => some (x :: l, ks ++ js) | _, _ => none)
 | [], _ => none
def seqN : List (Nat × AV) → Nat → Bool | [], _ => true | (i, _) :: r, n => Nat.beq i n && seqN r (n + 1)
def srcA (h : Hp) (u : U) : AV → Option (Bool × List u.El × List Nat)
 | .nil => some (true, [], [])
 | .hs id [] none _ => (match lkH h id with | .arr e v l _ => (match castL v u l with | some l => some (e, l, [id]) | none => none) | _ => none)
 | .hs id [] (some (0, n)) _ => (match lkH h id with | .arr _ v l _ => (match castL v u l with | some l => sw u.flat (some (false, l.take n, [id])) none | none => none) | _ => none)
 | _ => none
def addA (h : Hp) (u : U) : AV → Option (List u.El × List Nat)
 | .hs id [] none g => sw u.flat (match sliceAs h false u (.hs id [] none g) with | some l => some (l, []) | none => none)
   (match lkH h id with | .arr _ v l _ => (match castL v u l with | some l => some (l, [id]) | none => none) | _ => none)
 | v => sw u.flat (match sliceAs h false u v with | some l => some (l, []) | none => none) none
def appendA (base : Nat) (h : Hp) (u : U) (s x : AV) (K : AV → Hp → Option ρ) : Option ρ :=
 match srcA h u s, addA h u x with
 | some (e', l, ks), some (m, js) => sw (nodup (ks ++ js) && u.data) (cond (room (l.length + m.length)) (K (.hs base [] none 0) ((base, .arr e' u (l ++ m) 0) :: killed (ks ++ js))) none) none
 | _, _ => none
def bldSrc (h : Hp) (T t : Nat) : AV → Option (Nat × Bool × List Int)
 | .po id 0 => (match lkH h id with | .bld T' t' f l => sw (Nat.beq T' T && Nat.beq t' t) (some (id, f, l)) none | _ => none)
 | _ => none
def bldA (h : Hp) (k T t : Nat) (vs : List AV) (K : AV → Hp → Option ρ) : Option ρ := match vs with
 | [b] => (match k, bldSrc h T t b with
    | 2, some (id, _, l) => cond (room l.length) (K (.im .str (ofOcts l)) [(id, .dead)]) none
    | 3, some (id, _, l) => cond (room l.length) (K (.im (.int .i64) (l.length : Int)) [(id, .bld T t false l)]) none
    | _, _ => none)
 | [b, x] => (match k, bldSrc h T t b, x with
    | 0, some (id, _, l), .im (.int .u8) c => cond (room (l.length + 1)) (K .dead [(id, .bld T t false (l ++ [c]))]) none
    | 1, some (id, _, l), .im .str s => cond (room (l.length + s.size)) (K .dead [(id, .bld T t false (l ++ octs s))]) none
    | 4, some (id, true, _), .im (.int .i64) n => cond (inC 0 n 1000000000) (K .dead [(id, .bld T t false [])]) none
    | _, _, _ => none)
 | _ => none
def freshM (l : List (ByteArray × ByteArray)) (k : ByteArray) : Bool := l.all fun x => !(x.1.data.toList == k.data.toList)
def mget (l : List (ByteArray × ByteArray)) (k : ByteArray) : ByteArray := match l with | [] => ByteArray.empty | x :: r => sw (seq k x.1) x.2 (mget r k)
def isMapT (md : List (Nat × List Md)) (t : Nat) : Bool := match lkN md (9000000 + t) with | some [.bl 9 T _] => Nat.beq T t | _ => false
def bldTy (md : List (Nat × List Md)) (T : Nat) : Nat := match md with
 | [] => 0
 | (_, [.bl _ T' t]) :: r => sw (Nat.beq T' T) t (bldTy r T)
 | _ :: r => bldTy r T
def isBld : U → Bool | .pair .oth (.pair (.sl false (.int .u8)) .unit) => true | _ => false
def opA (base : Nat) (op : Op) (vs : List AV) (h : Hp) (PK : Nat → Hp → Option ρ) (K : AV → Hp → Option ρ) : Option ρ :=
 let one (v : Option AV) : Option ρ := match v with | some v => K v [] | none => none
 match op, vs with
 | .move _, [x] | .assign _, [x] => K x []
 | .pick .., [c, a, b] => (match c with | .im .bool x => cond x (K a []) (K b []) | _ => none)
 | .alloc t, _ => E.cd t fun u => (match u with
    | .ar _ _ => none
    | u => sw (isBld u) (K (.po base 0) [(base, .bld t (bldTy E.md t) true [])]) (K (.po base 0) [(base, .obj (zeroA u))]))
 | .box t _, [x] => E.cd t fun u => (match u with
    | .ar _ _ => none
    | u => sw ((unpack x).all (cellA h) && Nat.beq (unpack x).length u.az) (K (.po base 0) [(base, .obj (unpack x))]) none)
 | .load t _, [a] => E.cd t fun u => one (loadA h u a)
 | .store t _ _, [a, x] => E.cd t fun u => (match storeA h u a x with | some q => K .und q | none => (match fillA h u a x with | some (c, q) => cond c (K .und q) none | none => (match swapA base h u a x with | some (c, r) => cond c (K .und []) (match r with | some (z, q) => cond z (K .und q) none | none => none) | none => none)))
 | .binOp op t .., [x, y] => binA h (lkN E.ty t) op x y fun v => K v []
 | .unOp .not _ _, [x] => (match x with | .im .bool b => K (.im .bool (!b)) [] | _ => none)
 | .unOp .neg _ _, [x] => (match x with | .im (.int k) n => K (.im (.int k) (k.wrap (0 - n))) [] | _ => none)
 | .convert s t _, [x] => E.cd s fun a => E.cd t fun b => (match a, b, x with
    | .int _, .int k, .im (.int _) n => K (.im (.int k) (k.wrap n)) []
    | .str, .str, .im .str s => K (.im .str s) []
    | .str, .sl _ (.int .u8), .im .str s => cond (room s.size) (K (.hs base [] none 0) [(base, .arr false (.int .u8) (octs s) 0)]) none
    | .sl _ (.int .u8), .str, v => (match sliceAs h false (.int .u8) v with | some l => K (.im .str (ofOcts l)) [] | none => none)
    | _, _, _ => none)
 | .fieldAddr t _ f, [x] => E.cd t fun u => sw u.plain (match fieldOff u f with | some (o, w) => sw (Nat.beq w.sz 0) none (one (fieldAddrA h o x)) | none => none) none
 | .field t _ f, [.agg cs] => E.cd t fun u => sw u.plain (match fieldOff u f with | some (o, w) => one (piece? w cs o) | none => none) none
 | .indexAddr t .., [x, i] => E.cd t fun u => (match i with | .im (.int _) n => indexAddrA h u x n fun v => K v [] | _ => none)
 | .index t .., [x, i] => E.cd t fun u => (match u, x, i with
  | .str, .im .str a, .im (.int _) n => cond (inB n a.size) (K (.im (.int .u8) (bt a n)) []) none
  | .ar m w, .im (.ar m' v) l, .im (.int _) n => sw (Nat.beq m m' && decide (w = v) && v.plain && v.flat) (cond (inB n m) (K (pack v (cellsOf imSl v (l.getD n.toNat v.dflt) 0)) []) none) none
  | _, _, _ => none)
 | .extract _ i, [x] => (match x with | .tup cs => one cs[i]? | _ => none)
 | .nilCheck _, [x] => (match x with | .pi .. | .fn .. => K x [] | .im (.pt u) t => cond t.is (K (.pi (U.nd true u) [t.ptn u] 0 0) []) none | .tp id => (match lkH h id with | .tre _ t => cond t.is (K (.po id 0) []) none | _ => none) | .po id _ => (match lkH h id with | .dead => none | _ => K x []) | .pe id p g _ _ => (match lkH h id with | .arr _ _ _ g' => sw (okG p g g') (K x []) none | .hol .. => sw p.isEmpty (K x []) none | _ => none) | _ => none)
 | .build t ps, vs => E.cd t fun u => one (buildA u h ((ps.toList.map (·.1)).zip vs))
 | .buildSlice t n ps, vs => E.cd t fun u => (match u with
    | .sl _ u => sw (Nat.beq vs.length n && Nat.beq ps.size n && seqN ((ps.toList.map (·.1)).zip vs) 0) (match buildL h u ((ps.toList.map (·.1)).zip vs) n with | some (l, ks) => sw (nodup ks && Nat.ble (n * u.sz) 16777216) (K (.hs base [] none 0) ((base, .arr false u l 0) :: killed ks)) none | none => none) none
    | _ => none)
 | .makeSlice t .., [l, c] => E.cd t fun u => (match u, l, c with
  | .sl _ u, .im (.int _) m, .im (.int _) n => sw u.data (cond (inC m n 1000000000) (K (.hs base [] none 0) [(base, .arr false u (List.replicate m.toNat u.dflt) 0)]) none) none
  | _, _, _ => none)
 | .makeMap t none, [] => sw (isMapT E.md t) (K (.mp base) [(base, .mpt t [])]) none
 | .insert t .., [.mp id, .im .str k, .im .str x] => (match lkH h id with | .mpt T l => sw (isMapT E.md t && Nat.beq T t && freshM l k) (K .und [(id, .mpt T (l ++ [(k, x)]))]) none | _ => none)
 | .lookup t _ _ false, [.mp id, .im .str k] => (match lkH h id with | .mpt T l => sw (isMapT E.md t && Nat.beq T t) (K (.im .str (mget l k)) []) none | _ => none)
 | .makeFunc (.func f) first _, cs => sw first.isEmpty (K (.fn f cs) []) none
 | .slice t _ lo hi none, x :: r => E.cd t fun u => (match lo, hi, r with
    | none, none, [] => sliceA h u x none none fun v => K v []
    | some _, none, [.im (.int _) a] => sliceA h u x (some a) none fun v => K v []
    | none, some _, [.im (.int _) b] => sliceA h u x none (some b) fun v => K v []
    | some _, some _, [.im (.int _) a, .im (.int _) b] => sliceA h u x (some a) (some b) fun v => K v []
    | _, _, _ => none)
 | .call { callee := .builtin b, argTypes, .. }, vs => (match b, vs with
    | .len, [x] => (match argTypes.toList with
       | [t] => E.cd t fun u => (match lenA h u x with | some n => K (.im (.int .i64) n) [] | none => none)
       | _ => none)
    | .copy, [d, s] => (match argTypes.toList with
       | [t, t'] => sw (Nat.beq t t') (E.cd t fun u => (match u with | .sl _ w => copyA h w d s K | _ => none)) none
       | _ => none)
    | .append, [s, x] => (match argTypes.toList with
       | [t, t'] => sw (Nat.beq t t') (E.cd t fun u => (match u with | .sl _ u => appendA base h u s x K | _ => none)) none
       | _ => none)
    | .min, [.im (.int k) x, .im (.int k') y] => sw (decide (k = k')) (K (.im (.int k) (min x y)) []) none
    | .max, [.im (.int k) x, .im (.int k') y] => sw (decide (k = k')) (K (.im (.int k) (max x y)) []) none
    | _, _ => none)
 | .call { callee := .value _, argTypes, .. }, f :: vs => (match f with | .fn g cs => sw (Nat.beq argTypes.size vs.length) (match lkN E.md g with
    | some [.bl k T t] => sw cs.isEmpty (bldA h k T t vs K) none
    | _ => callA E base h g ((argTypes.toList.map E.code).zip vs ++ cs.map fun c => (.oth, c)) PK K) none | _ => none)
 | _, _ => none
def guardA (ops : Array Oper) (g : Option (Nat × Bool)) (t : List (Nat × AV)) (K : Bool → List (Nat × AV) → Option ρ) : Option ρ := match g with
 | none => K true t
 | some (j, want) => match ops[j]? with
  | some o => match o.dst with
   | some d => match lkT t d with
    | .im .bool b => cond b (K want ((d, .im .bool true) :: t)) (K (!want) ((d, .im .bool false) :: t))
    | .und => K false t
    | _ => none
   | none => none
  | none => none
def seesT (all : Array Oper) (o : Oper) : List Nat := (o.op.operands.toList.filterMap fun x => match x with | .tmp t => some t | _ => none) ++
 (match o.guard with | some (g, _) => (match all[g]? with | some x => x.dst.toList | none => []) | none => [])
abbrev Foot := List (List Nat × List Nat × List Nat × List Nat)
def clash (x y : List Nat × List Nat × List Nat × List Nat) : Bool := meets x.2.1 y.1 || meets x.2.1 y.2.1 || meets x.1 y.2.1 || meets x.2.2.2 y.2.2.1 || meets x.2.2.2 y.2.2.2 || meets x.2.2.1 y.2.2.2
def calmAt (bj : Nat) (x : List Nat × List Nat × List Nat × List Nat) : Foot → Nat → Bool
 | [], _ => true
 | y :: r, i => (Nat.testBit bj i || !clash x y) && calmAt bj x r (i + 1)
def calmL : List Nat → Foot → Foot → Bool
 | bj :: b, x :: r, seen => calmAt bj x seen 0 && calmL b r (seen ++ [x])
 | [], [], _ => true
 | _, _, _ => false
def befE (acc : List Nat) : List Edge → Nat → Nat
 | [], s => s
 | e :: r, s => befE acc r (sw (Region.binds .any e) (s ||| 2 ^ e.on ||| acc.getD e.on 0) s)
def befL : List Oper → List Nat → List Nat
 | [], acc => acc
 | o :: r, acc => befL r (acc ++ [befE acc o.after.toList 0])
def edgesB : List Oper → Nat → Bool
 | [], _ => true
 | o :: r, i => o.after.toList.all (fun e => !Region.binds .any e || Nat.blt e.on i) && edgesB r (i + 1)
def calm (ops : Array Oper) (tr : Foot) : Bool := edgesB ops.toList 0 && calmL (befL ops.toList []) tr []
def lookA (h : Hp) (op : Op) (vs : List AV) : List Nat := match op with
 | .move _ | .assign _ => []
 | .store .. => clos h 3 (refsL vs) ++ (match vs with
    | [.pe id [] _ _ _, v] => (match unpack v with | [.hs _ [(_, 0)] none g, .hs _ [(_, 1)] none _] => (match findX id g h with | some o => [o] | none => []) | _ => [])
    | _ => [])
 | _ => clos h 3 (refsL vs)
def tailB (i : Nat) : List Nat → Nat → Bool
 | [], _ => true
 | b :: r, k => (Nat.ble k i || Nat.testBit b i) && tailB i r (k + 1)
def headB (b : Nat) : Foot → Nat → Bool
 | [], _ => true
 | y :: r, k => (Nat.testBit b k || y.2.1.isEmpty) && headB b r (k + 1)
def panOK (all : Array Oper) (draw : Bool) (i : Nat) (tr : Foot) : Bool :=
 !draw || (edgesB all.toList 0 && calmL ((befL all.toList []).take (i + 1)) tr [] && tailB i (befL all.toList []) 0 && headB ((befL all.toList []).getD i 0) (tr.take i) 0)
def opsA (base : Nat) (all : Array Oper) (draw : Bool) (PK : Nat → Hp → Option ρ) : List Oper → Nat → List (Nat × AV) → Hp → Foot → (List (Nat × AV) → Hp → Option ρ) → Option ρ
 | [], _, t, h, tr, K => sw (!draw || calm all tr.reverse) (K t h) none
 | o :: r, i, t, h, tr, K => guardA all o.guard t fun w t =>
    sw w (let vs := o.op.operands.toList.map (evA E t)
          let ids := lookA h o.op vs
          opA E (base + 64 * i) o.op vs (restrict h ids) (fun t' q => sw (panOK all draw i (((ids, q.map (·.1), seesT all o, o.dst.toList) :: tr).reverse)) (PK t' (q ++ h)) none)
           fun v q => opsA base all draw PK r (i + 1) (putT t o.dst v) (q ++ h) ((ids, q.map (·.1), seesT all o, o.dst.toList) :: tr) K)
     (opsA base all draw PK r (i + 1) (putT t o.dst .und) h (([], [], seesT all o, o.dst.toList) :: tr) K)
structure Keep where
 slots : List Nat
 nils : List (Nat × U)
 cells : List (Nat × Nat × U)
 weak : Bool
def weakR (np i : Nat) : Root → Root | .arr e u l g => .arr (e && !Nat.ble np i) u l g | .bld T t _ l => .bld T t false l | r => r
def weakH (np : Nat) : Hp → Hp | [] => [] | (i, r) :: h => (i, weakR np i r) :: weakH np h
def promT : List (Nat × U) → St → St
 | [], s => s
 | (d, u) :: r, s => promT r (match lkT s.t d with | .nil => sw u.plain ⟨(d, .hs s.c [] none 0) :: s.t, (s.c, .arr true u [] 0) :: s.h, s.c + 1⟩ s | _ => s)
def promC : List (Nat × Nat × U) → St → St
 | [], s => s
 | (d, j, u) :: r, s => promC r (match lkT s.t d with
    | .po id _ => (match lkH s.h id with
       | .obj cs => (match cs[j]?, u with
          | some .nil, .bs w => sw w.plain ⟨s.t, (id, .obj (cs.set j (.im (.bs w) []))) :: s.h, s.c⟩ s
          | some .nil, u => sw u.plain ⟨s.t, (id, .obj (cs.set j (.hs s.c [] none 0))) :: (s.c, .arr true u [] 0) :: s.h, s.c + 1⟩ s
          | _, _ => s)
       | _ => s)
    | _ => s)
def dd : List Nat → List Nat → List Nat
 | [], _ => []
 | i :: r, seen => sw (seen.any (Nat.beq i)) (dd r seen) (i :: dd r (i :: seen))
def posn (i : Nat) : List Nat → Nat → Option Nat
 | [], _ => none
 | j :: r, n => sw (Nat.beq i j) (some n) (posn i r (n + 1))
mutual
def ren (m : List Nat) : AV → AV
 | .hs id [] w _ => (match posn id m 0 with | some j => .hs j [] w 0 | none => .dead)
 | .hs .. => .dead
 | .po id o => (match posn id m 0 with | some j => .po j o | none => .dead)
 | .tp id => (match posn id m 0 with | some j => .tp j | none => .dead)
 | .mp _ => .dead
 | .pe id [] _ i o => (match posn id m 0 with | some j => .pe j [] 0 i o | none => .dead)
 | .pe .. => .dead
 | .fn f cs => .fn f (renL m cs)
 | .px f cs k => .px f (renL m cs) k
 | .agg cs => .agg (renL m cs)
 | .tup cs => .tup (renL m cs)
 | v => v
def renL (m : List Nat) : List AV → List AV
 | [] => [] | v :: r => ren m v :: renL m r
end
def renR (m : List Nat) : Root → Root | .obj cs => .obj (renL m cs) | .arr e u l _ => .arr e u l 0 | .imm u x => .imm u x | .bld T t f l => .bld T t f l | .hol .. => .dead | .tre u t => .tre u t | .mpt .. => .dead | .dead => .dead
def renH (m : List Nat) (h : Hp) : List Nat → Nat → Hp | [], _ => [] | i :: r, n => (n, renR m (lkH h i)) :: renH m h r (n + 1)
def canon (np : Nat) (k : Keep) (s : St) : St :=
 let s := promC k.cells (promT k.nils s)
 let m := dd (List.range np ++ clos s.h 3 (List.range np ++ refsL (k.slots.map (lkT s.t)))) []
 ⟨k.slots.map fun d => (d, ren m (lkT s.t d)), sw k.weak (weakH np (renH m s.h m 0)) (renH m s.h m 0), m.length⟩
def szC : Code → Nat
 | .seq a b | .cond _ a b | .rangeFunc _ _ a b => szC a + szC b + 1 | .block _ b | .loop b | .scope b => szC b + 1 | _ => 1
def panT : Nat := 4294967295
def panSt (t : Nat) (h : Hp) : St := ⟨[(panT, .tup [.po t 0])], h, 0⟩
def panR (ops : Array Oper) (draw : Bool) : Option Nat := match draw, ops.toList with
 | false, [a, b, c] => (match a.op, a.dst, a.guard, b.op, b.dst, b.guard, c.op, c.guard with
    | .build t ⟨[]⟩, some d, none, .makeInterface t' (.tmp d'), some e, none, .panic (.tmp e'), none =>
       (match lkN E.ty t with | some .unit => sw (Nat.beq t t' && Nat.beq d d' && Nat.beq e e') (some t) none | _ => none)
    | _, _, _, _, _, _, _, _ => none)
 | _, _ => none
variable (np : Nat) (ks : List (Nat × Keep)) (goto : Nat → St → Option ρ) (fin : St → Option ρ)
def cutA (p : Nat) (N : St → Option ρ) (s : St) : Option ρ := match lkN ks p with | some k => goto p (canon np k s) | none => N s
def ex : Code → Nat → St → (St → Option ρ) → (Nat → St → Option ρ) → Option ρ
 | .skip, _, s, N, _ => N s
 | .region _ ops draw, _, s, N, _ => match panR E ops draw with
  | some t => fin (panSt t s.h)
  | none => opsA E s.c ops draw (fun t h => fin (panSt t h)) ops.toList 0 s.t s.h [] fun t h => N ⟨t, h, s.c + 64 * ops.size⟩
 | .seq a b, p, s, N, B => ex a (p + 1) s (cutA np ks goto p fun s => ex b (p + 1 + szC a) s N B) B
 | .cond c a b, p, s, N, B => match evA E s.t c with
  | .im .bool x => cond x (ex a (p + 1) s N B) (ex b (p + 1 + szC a) s N B)
  | _ => none
 | .block id c, p, s, N, B => ex c (p + 1) s (cutA np ks goto p N) fun j s => sw (Nat.beq j id) (cutA np ks goto p N s) (B j s)
 | .loop _, p, s, _, _ => cutA np ks goto p (fun _ => none) s
 | .exit id, _, s, _, B => B id s
 | .ret, _, s, _, _ => fin s
 | _, _, _, _, _ => none
def rs (q : Nat) : Code → Nat → St → (St → Option ρ) → (Nat → St → Option ρ) → Option ρ
 | .seq a b, p, s, N, B => sw (Nat.beq q p) (ex E np ks goto fin b (p + 1 + szC a) s N B)
   (sw (Nat.blt q (p + 1 + szC a)) (rs q a (p + 1) s (cutA np ks goto p fun s => ex E np ks goto fin b (p + 1 + szC a) s N B) B) (rs q b (p + 1 + szC a) s N B))
 | .cond _ a b, p, s, N, B => sw (Nat.blt q (p + 1 + szC a)) (rs q a (p + 1) s N B) (rs q b (p + 1 + szC a) s N B)
 | .block id c, p, s, N, B => sw (Nat.beq q p) (N s) (rs q c (p + 1) s (cutA np ks goto p N) fun j s => sw (Nat.beq j id) (cutA np ks goto p N s) (B j s))
 | .loop c, p, s, _, B => sw (Nat.beq q p) (ex E np ks goto fin c (p + 1) s (cutA np ks goto p fun _ => none) B) (rs q c (p + 1) s (cutA np ks goto p fun _ => none) B)
 | _, _, _, _, _ => none
def seg (c : Code) (q : Nat) (s : St) : Option ρ := match q with
 | 0 => ex E np ks goto fin c 1 s fin fun _ _ => none
 | q => rs E np ks goto fin q c 1 s fin fun _ _ => none
end
def run {ρ : Type} (E : Nat → En) (np : Nat) (ks : List (Nat × Keep)) (fin : St → Option ρ) (c : Code) : Nat → Nat → St → Option ρ
 | 0, _, _ => none
 | n + 1, q, s => seg (E n) np ks (run E np ks fin c n) fin c q s
-- the arguments as they stand when a call begins
mutual
def entA1 : Arg → Nat → Nat → (AV × Hp × Nat × Nat)
 | .v u x, j, b => (pack u (cellsOf imSl u x 0), [], j, b)
 | .p u x, j, b => let a := rooted u x b; (.po j 0, (j, .obj a.1) :: a.2, j + 1, b + u.az)
 | .s e u x, j, b => (.hs j [] none 0, [(j, .arr e u x 0)], j + 1, b)
 | .g u x, j, b => let a := rooted u x b; (pack u a.1, a.2, j, b + u.az)
 | .q u x, j, b => (.po b 0, [(b, .imm u x)], j, b + 1)
 | .fn f cs, j, b => let a := entA cs j b; (.fn f a.1, a.2)
 | .ag cs, j, b => let a := entA cs j b; (.agg a.1, a.2)
 | .me _ _, j, b => (.dead, [], j, b)
 | .cf f cs, j, b => let a := entA cs j b; (.px f a.1 0, a.2)
def entA : List Arg → Nat → Nat → (List AV × Hp × Nat × Nat)
 | [], j, b => ([], [], j, b)
 | a :: r, j, b => let x := entA1 a j b; let q := entA r x.2.2.1 x.2.2.2; (x.1 :: q.1, x.2.1 ++ q.2.1, q.2.2)
end
def meP (all : List AV) : List Arg → List AV → Nat → List AV
 | .me f m :: r, _ :: s, i => .px f ((all.drop m).eraseIdx (i - m)) (i - m + 1) :: meP all r s (i + 1)
 | _ :: r, v :: s, i => v :: meP all r s (i + 1)
 | _, s, _ => s
def enter (as : List Arg) (np : Nat) : St := let q := entA as 0 np; ⟨(meP q.1 as q.1 0).zipIdx.map fun (v, i) => (i, v), q.2.1, q.2.2.2⟩
def retA (E : En) (s : St) : List (ResultVar × U) → List Nat → Option (List TV × List Nat)
 | [], ks => some ([], ks)
 | (x, u) :: r, ks => match (match x with | .tmp t => some (lkT s.t t) | .cell a t => (match lkN E.ty t, lkT s.t a with | some u', .po id o => (match lkH s.h id with | .obj cs => sw (decide (u' = u)) (piece? u cs o) none | _ => none) | _, _ => none)) with
  | some v => (match sw (u.plain && fitsU u v) (asmO s.h u (unpack v) ks) none with
     | some (y, [], ks) => (match retA E s r ks with | some (l, ks) => some (⟨u, y⟩ :: l, ks) | none => none)
     | _ => none)
  | none => none
def outA (s : St) : List (Option U) → Nat → List Nat → Option (List TV × List Nat)
 | [], _, ks => some ([], ks)
 | some u :: r, j, ks => (match lkH s.h j with
    | .obj cs => (match sw u.plain (asmO s.h u cs (j :: ks)) none with | some (y, [], ks) => (match outA s r (j + 1) ks with | some (l, ks) => some (⟨u, y⟩ :: l, ks) | none => none) | _ => none)
    | _ => none)
 | none :: r, j, ks => (match lkH s.h j with
    | .arr e u l _ => (match outA s r (j + 1) (j :: ks) with | some (m, ks) => some (⟨.sl e u, l⟩ :: m, ks) | none => none)
    | _ => none)
def finA {ρ : Type} (E : En) (rv : List (ResultVar × U)) (outs : List (Option U)) (K : Res → Option ρ) (s : St) : Option ρ :=
 match lkT s.t panT with
 | .tup [.po t _] => (match outA s outs 0 [] with | some (m, ks) => sw (nodup ks) (K ⟨[], m, some (t, true)⟩) none | none => none)
 | .tup _ => none
 | _ => match retA E s rv [] with
  | some (l, ks) => (match outA s outs 0 ks with | some (m, ks) => sw (nodup ks) (K ⟨l, m, none⟩) none | none => none)
  | none => none
abbrev Tup : List U → Type | [] => Unit | [u] => u.El | u :: r => u.El × Tup r
def tup : (us : List U) → List TV → Option (Tup us)
 | [], [] => some ()
 | [u], [⟨v, x⟩] => if h : v = u then some (h ▸ x) else none
 | u :: w :: r, ⟨v, x⟩ :: l => if h : v = u then (match tup (w :: r) l with | some y => some (h ▸ x, y) | none => none) else none
 | _, _ => none
def tvs : (us : List U) → Tup us → List TV
 | [], _ => []
 | [u], x => [⟨u, x⟩]
 | u :: w :: r, x => ⟨u, x.1⟩ :: tvs (w :: r) x.2
inductive Ty where
 | v (u : U) | p (u : U) | q (u : U) | s (e : Bool) (u : U) | g (u : U) | fn (f : Nat) (cs : List Ty) | me (f m : Nat) | ag (cs : List Ty) | cf (f : Nat) (cs : List Ty)
mutual
abbrev Ty.El : Ty → Type
 | .v u => u.El | .p u => u.El | .q u => u.El | .s _ u => List u.El | .g u => u.El | .fn _ cs => Ty.Els cs | .me _ _ => Unit | .ag cs => Ty.Els cs | .cf _ cs => Ty.Els cs
abbrev Ty.Els : List Ty → Type
 | [] => Unit | t :: r => t.El × Ty.Els r
end
mutual
def Ty.arg : (t : Ty) → t.El → Arg
 | .v u, x => .v u x | .p u, x => .p u x | .q u, x => .q u x | .s e u, x => .s e u x | .g u, x => .g u x | .fn f cs, x => .fn f (Ty.args cs x) | .me f m, _ => .me f m | .ag cs, x => .ag (Ty.args cs x) | .cf f cs, x => .cf f (Ty.args cs x)
def Ty.args : (l : List Ty) → Ty.Els l → List Arg
 | [], _ => [] | t :: r, x => Ty.arg t x.1 :: Ty.args r x.2
end
mutual
def Ty.get : (t : Ty) → Arg → Option t.El
 | .v u, .v w x => if h : w = u then some (h ▸ x) else none
 | .p u, .p w x => if h : w = u then some (h ▸ x) else none
 | .q u, .q w x => if h : w = u then some (h ▸ x) else none
 | .s e u, .s e' w x => if h : w = u ∧ e' = e then some (h.1 ▸ x) else none
 | .g u, .g w x => if h : w = u then some (h ▸ x) else none
 | .fn f cs, .fn g2 as => sw (Nat.beq f g2) (Ty.gets cs as) none
 | .me f m, .me f2 m2 => sw (Nat.beq f f2 && Nat.beq m m2) (some ()) none
 | .ag cs, .ag as => Ty.gets cs as
 | .cf f cs, .cf g2 as => sw (Nat.beq f g2) (Ty.gets cs as) none
 | _, _ => none
def Ty.gets : (l : List Ty) → List Arg → Option (Ty.Els l)
 | [], [] => some () | t :: r, a :: as => (match Ty.get t a with | some x => (match Ty.gets r as with | some y => some (x, y) | none => none) | none => none) | _, _ => none
end
structure Ctr where
 f : Nat
 ins : List Ty
 ret : List U
 outs : List U
 pan : Option Nat
 fn : Nat → Ty.Els ins → Option (Tup (ret ++ outs))
def Ctr.at (e : Ctr) (φ : Ty.Els e.ins → Option (Tup (e.ret ++ e.outs))) : Ctr := ⟨e.f, e.ins, e.ret, e.outs, e.pan, fun _ x => φ x⟩
def Ctr.res (e : Ctr) (y : Tup (e.ret ++ e.outs)) : Res := let l := tvs (e.ret ++ e.outs) y
 match e.pan with
 | none => ⟨l.take e.ret.length, l.drop e.ret.length, none⟩
 | some t => (match l with | ⟨.bool, b⟩ :: l => ⟨l.take (e.ret.length - 1), l.drop (e.ret.length - 1), some (t, b)⟩ | _ => ⟨[], [], none⟩)
def calOf (T : List Ctr) (n : Nat) (ρ : Type) (f : Nat) (as : List Arg) (K : Res → Option ρ) : Option ρ := match T with
 | [] => none
 | e :: T => sw (Nat.beq e.f f) (match Ty.gets e.ins as with | some x => Option.bind (e.fn n x) fun y => K (e.res y) | none => calOf T n ρ f as K) (calOf T n ρ f as K)
structure Fun where
 c : Code
 ins : List Ty
 rv : List (ResultVar × U)
 outs : List (Option U)
 np : Nat
 ks : List (Nat × Keep)
def packR (pan : Option Nat) (rv : List U) (us : List U) (r : Res) : Option (Tup us) := match pan, r.pan with
 | none, none => tup us (r.ret ++ r.outs)
 | some _, none => tup us (⟨.bool, false⟩ :: (r.ret ++ r.outs))
 | some t, some (t', _) => sw (Nat.beq t t') (tup us (⟨.bool, true⟩ :: (rv.map (fun u => ⟨u, u.dflt⟩) ++ r.outs))) none
 | none, some _ => none
def Fun.fin (F : Fun) (E : En) (us : List U) (pan : Option Nat) : St → Option (Tup us) := finA E F.rv F.outs (packR pan (F.rv.map (·.2)) us)
def goRec {α β : Type} (step : Nat → (α → Option β) → α → Option β) : Nat → α → Option β
 | 0, _ => none
 | n + 1, y => step n (goRec step n) y
def hold {β : Type} (n : Nat) (x : Option β) : Option β := match n with | 0 => none | _ + 1 => x
theorem hold_some {β : Type} {n : Nat} {x : Option β} {y : β} (h : hold n x = some y) : x = some y := by cases n with | zero => cases h | succ n => exact h
end Go.VM

namespace Go.VM
section
variable {α : Type}
def RepL (R : α → List Value → List Nat → Prop) : List α → List Value → List Nat → Prop
 | [], cs, F => cs = [] ∧ F = []
 | x :: l, cs, F => ∃ c d G H, cs = c ++ d ∧ F = G ++ H ∧ R x c G ∧ RepL R l d H
theorem RepL.length {R : α → List Value → List Nat → Prop} {n : Nat} (hR : ∀ x c F, R x c F → c.length = n) : ∀ {l cs F}, RepL R l cs F → cs.length = l.length * n
 | [], _, _, h => by rw [h.1]; simp
 | x :: l, _, _, h => by
  obtain ⟨c, d, G, H, rfl, rfl, h1, h2⟩ := h
  rw [List.length_append, hR _ _ _ h1, RepL.length hR h2, List.length_cons, Nat.add_mul]; omega
theorem RepL.imp {R S : α → List Value → List Nat → Prop} : ∀ {l cs F}, (∀ x c G, (∀ b ∈ G, b ∈ F) → R x c G → S x c G) → RepL R l cs F → RepL S l cs F
 | [], _, _, _, h => h
 | x :: l, _, _, hi, h => by
  obtain ⟨c, d, G, H, rfl, rfl, h1, h2⟩ := h
  exact ⟨c, d, G, H, rfl, rfl, hi _ _ _ (fun b hb => List.mem_append.2 (.inl hb)) h1, RepL.imp (fun x c K hk => hi x c K (fun b hb => List.mem_append.2 (.inr (hk b hb)))) h2⟩
theorem RepL.append {R : α → List Value → List Nat → Prop} : ∀ {l m cs ds F G}, RepL R l cs F → RepL R m ds G → RepL R (l ++ m) (cs ++ ds) (F ++ G)
 | [], m, _, _, _, _, h, k => by rw [h.1, h.2]; exact k
 | x :: l, m, _, ds, _, G', h, k => by
  obtain ⟨c, d, G, H, rfl, rfl, h1, h2⟩ := h
  exact ⟨c, d ++ ds, G, H ++ G', by simp, by simp, h1, RepL.append h2 k⟩
theorem RepL.at {R : α → List Value → List Nat → Prop} {n : Nat} (hR : ∀ x c F, R x c F → c.length = n) (z : α) : ∀ {l cs F} (i : Nat), RepL R l cs F → i < l.length →
  ∃ c1 c2 c3 F1 F2 F3, cs = c1 ++ c2 ++ c3 ∧ F = F1 ++ F2 ++ F3 ∧ c1.length = i * n ∧ R (l.getD i z) c2 F2 ∧
   RepL R (l.take i) c1 F1 ∧ RepL R (l.drop (i + 1)) c3 F3 ∧
   ∀ y d G, R y d G → RepL R (l.set i y) (c1 ++ d ++ c3) (F1 ++ G ++ F3)
 | [], _, _, i, _, hi => by simp at hi
 | x :: l, _, _, 0, h, _ => by
  obtain ⟨c, d, G, H, rfl, rfl, h1, h2⟩ := h
  exact ⟨[], c, d, [], G, H, by simp, by simp, by simp, h1, ⟨rfl, rfl⟩, by simpa using h2, fun y e K hy => ⟨e, d, K, H, by simp, by simp, hy, h2⟩⟩
 | x :: l, _, _, i + 1, h, hi => by
  obtain ⟨c, d, G, H, rfl, rfl, h1, h2⟩ := h
  obtain ⟨c1, c2, c3, F1, F2, F3, rfl, rfl, hl, hr, ht, hd, hs⟩ := RepL.at hR z i h2 (by simpa using hi)
  refine ⟨c ++ c1, c2, c3, G ++ F1, F2, F3, by simp, by simp, ?_, hr, ⟨c, c1, G, F1, rfl, rfl, h1, ht⟩, by simpa using hd, fun y e K hy => ⟨c, c1 ++ e ++ c3, G, F1 ++ K ++ F3, by simp, by simp, h1, hs y e K hy⟩⟩
  rw [List.length_append, hR _ _ _ h1, hl, Nat.add_mul]; omega
theorem RepL.of_append {R : α → List Value → List Nat → Prop} : ∀ {l m cs F}, RepL R (l ++ m) cs F → ∃ c d G H, cs = c ++ d ∧ F = G ++ H ∧ RepL R l c G ∧ RepL R m d H
 | [], m, cs, F, h => ⟨[], cs, [], F, rfl, rfl, ⟨rfl, rfl⟩, h⟩
 | x :: l, m, _, _, h => by
  obtain ⟨c, d, G, H, rfl, rfl, h1, h2⟩ := h
  obtain ⟨c', d', G', H', rfl, rfl, h3, h4⟩ := RepL.of_append h2
  exact ⟨c ++ c', d', G ++ G', H', by simp, by simp, ⟨c, c', G, G', rfl, rfl, h1, h3⟩, h4⟩
theorem RepL.replicate {R : α → List Value → List Nat → Prop} {x : α} {c : List Value} (h : R x c []) : ∀ n, RepL R (List.replicate n x) (List.replicate n c).flatten []
 | 0 => ⟨rfl, rfl⟩
 | n + 1 => ⟨c, _, [], [], by simp [List.replicate_succ], rfl, h, RepL.replicate h n⟩
end
def SlRep {α : Type} (w : World) (o e : Bool) (sz : Nat) (R : α → List Value → List Nat → Prop) (l : List α) (v : Value) (F : List Nat) : Prop :=
 (v = .slice none 0 0 ∧ l = [] ∧ F = []) ∨
 ∃ a cap c t fz p m q G, v = .slice (some a) l.length cap ∧ a.spot = none ∧ (e = true → l ≠ []) ∧ l.length ≤ cap ∧ w.heap[a.block]? = some (.cells c t fz) ∧
  c.toList = p ++ m ++ q ∧ p.length = a.off ∧ RepL R l m G ∧ F = a.block :: G ∧ (o = true → a.off = 0 ∧ (∀ j, j < c.size + (sz - 1) → ¬ (fz.1 ≤ j ∧ j < fz.2)) ∧ c.size = cap * sz ∧ cap ≤ maxLen)
def Bare {α : Type} (o e : Bool) (l : List α) (v : Value) (F : List Nat) : Prop := o = false ∧ e = false ∧ l = [] ∧ F = [] ∧ ∃ a cap, v = .slice (some a) 0 cap
theorem bare_no {α : Type} {e : Bool} {l : List α} {v : Value} {F : List Nat} : ¬ Bare true e l v F := fun h => by cases h.1
def KidR (w : World) (o : Bool) (sz n : Nat) (Row : List Value → List Nat → Prop) (v : Value) (F : List Nat) : Prop :=
 (v = .slice none 0 0 ∧ n = 0 ∧ F = []) ∨
 (∃ a cap c t fz p m q G, v = .slice (some a) n cap ∧ a.spot = none ∧ n ≤ cap ∧ w.heap[a.block]? = some (.cells c t fz) ∧
  c.toList = p ++ m ++ q ∧ p.length = a.off ∧ Row m G ∧ F = a.block :: G ∧ (o = true → a.off = 0 ∧ (∀ j, j < c.size + (sz - 1) → ¬ (fz.1 ≤ j ∧ j < fz.2)) ∧ c.size = cap * sz ∧ cap ≤ maxLen)) ∨
 (o = false ∧ n = 0 ∧ F = [] ∧ ∃ a cap, v = .slice (some a) 0 cap)
theorem kidR_iff {α : Type} {w : World} {o : Bool} {sz : Nat} {R : α → List Value → List Nat → Prop} {l : List α} {v : Value} {F : List Nat} :
  KidR w o sz l.length (RepL R l) v F ↔ (SlRep w o false sz R l v F ∨ Bare o false l v F) := by
 constructor
 ·rintro (⟨h1, h2, h3⟩ | ⟨a, cap, c, t, fz, p, m, q, G, hv, hs, hl, hh, hc, hp, hr, hF, ho⟩ | ⟨h1, h2, h3, h4⟩)
  ·exact .inl (.inl ⟨h1, List.length_eq_zero_iff.1 h2, h3⟩)
  ·exact .inl (.inr ⟨a, cap, c, t, fz, p, m, q, G, hv, hs, (fun h => by cases h), hl, hh, hc, hp, hr, hF, ho⟩)
  ·exact .inr ⟨h1, rfl, List.length_eq_zero_iff.1 h2, h3, h4⟩
 ·rintro ((⟨h1, h2, h3⟩ | ⟨a, cap, c, t, fz, p, m, q, G, hv, hs, _, hl, hh, hc, hp, hr, hF, ho⟩) | ⟨h1, _, h2, h3, h4⟩)
  ·exact .inl ⟨h1, by rw [h2]; rfl, h3⟩
  ·exact .inr (.inl ⟨a, cap, c, t, fz, p, m, q, G, hv, hs, hl, hh, hc, hp, hr, hF, ho⟩)
  ·exact .inr (.inr ⟨h1, by rw [h2]; rfl, h3, h4⟩)
theorem KidR.imp {w w' : World} {o o' : Bool} {sz n : Nat} {Row Row' : List Value → List Nat → Prop} {v : Value} {F : List Nat} (ho : o' = true → o = true) (hb : ∀ b ∈ F, w'.heap[b]? = w.heap[b]?)
  (hR : ∀ m G, (∀ b ∈ G, b ∈ F) → Row m G → Row' m G) (h : KidR w o sz n Row v F) : KidR w' o' sz n Row' v F := by
 rcases h with h | ⟨a, cap, c, t, fz, p, m, q, G, hv, hs, hl, hh, hc, hp, hr, rfl, hO⟩ | ⟨h1, h⟩
 ·exact .inl h
 ·exact .inr (.inl ⟨a, cap, c, t, fz, p, m, q, G, hv, hs, hl, by rw [hb _ (List.mem_cons_self ..)]; exact hh, hc, hp, hR _ _ (fun b h => List.mem_cons_of_mem _ h) hr, rfl, fun h => hO (ho h)⟩)
 ·refine .inr (.inr ⟨?_, h⟩)
  cases o' with
  | false => rfl
  | true => rw [h1] at ho; exact absurd (ho rfl) (by simp)
section
variable {α : Type}
def NodeR (w : World) (o : Bool) (s : Nat) (R : α → List Value → Prop) (x : α) (n : Nat) (Row : List Value → List Nat → Prop) (cs : List Value) (F : List Nat) : Prop :=
 ∃ kc kv, cs = kc ++ [kv] ∧ R x kc ∧ KidR w o s n Row kv F
mutual
def TrR (w : World) (o p : Bool) (s : Nat) (R : α → List Value → Prop) (d : α) : Tr α → List Value → List Nat → Prop
 | .nil, cs, F => match p with | true => cs = [.pointer none] ∧ F = [] | false => NodeR w o s R d 0 (fun c G => c = [] ∧ G = []) cs F
 | .node x ks, cs, F => match p with
  | true => ∃ b c t G, cs = [.pointer (some ⟨b, 0, none⟩)] ∧ w.heap[b]? = some (.cells c t (0, 0)) ∧ F = b :: G ∧ NodeR w o s R x ks.length (TrL w o p s R d ks) c.toList G
  | false => NodeR w o s R x ks.length (TrL w o p s R d ks) cs F
def TrL (w : World) (o p : Bool) (s : Nat) (R : α → List Value → Prop) (d : α) : List (Tr α) → List Value → List Nat → Prop
 | [], cs, F => cs = [] ∧ F = []
 | x :: l, cs, F => ∃ c e G H, cs = c ++ e ∧ F = G ++ H ∧ TrR w o p s R d x c G ∧ TrL w o p s R d l e H
end
theorem trL_eq {w : World} {o p : Bool} {s : Nat} {R : α → List Value → Prop} {d : α} : ∀ {l : List (Tr α)} {cs F}, TrL w o p s R d l cs F ↔ RepL (TrR w o p s R d) l cs F
 | [], _, _ => by simp only [TrL, RepL]
 | x :: l, cs, F => by simp only [TrL, RepL, trL_eq (l := l)]
mutual
theorem TrR.imp {w w' : World} {o o' p : Bool} {s : Nat} {R R' : α → List Value → Prop} {d : α} (ho : o' = true → o = true) (hR : ∀ x c, R x c → R' x c) : ∀ (t : Tr α) (cs : List Value) (F : List Nat), (∀ b ∈ F, w'.heap[b]? = w.heap[b]?) → TrR w o p s R d t cs F → TrR w' o' p s R' d t cs F
 | .nil, cs, F, hb, h => by
  cases p with
  | true => simpa only [TrR] using h
  | false =>
   simp only [TrR] at h ⊢
   obtain ⟨kc, kv, h1, h2, h3⟩ := h
   exact ⟨kc, kv, h1, hR _ _ h2, h3.imp ho hb fun _ _ _ h => h⟩
 | .node x ks, cs, F, hb, h => by
  cases p with
  | true =>
   simp only [TrR] at h ⊢
   obtain ⟨b, c, t, G, h0, hh, rfl, kc, kv, h1, h2, h3⟩ := h
   exact ⟨b, c, t, G, h0, by rw [hb _ (List.mem_cons_self ..)]; exact hh, rfl, kc, kv, h1, hR _ _ h2, h3.imp ho (fun b hm => hb b (List.mem_cons_of_mem _ hm)) fun m H hm h => TrL.imp ho hR ks m H (fun b hx => hb b (List.mem_cons_of_mem _ (hm b hx))) h⟩
  | false =>
   simp only [TrR] at h ⊢
   obtain ⟨kc, kv, h1, h2, h3⟩ := h
   exact ⟨kc, kv, h1, hR _ _ h2, h3.imp ho hb fun m H hm h => TrL.imp ho hR ks m H (fun b hx => hb b (hm b hx)) h⟩
theorem TrL.imp {w w' : World} {o o' p : Bool} {s : Nat} {R R' : α → List Value → Prop} {d : α} (ho : o' = true → o = true) (hR : ∀ x c, R x c → R' x c) : ∀ (l : List (Tr α)) (cs : List Value) (F : List Nat), (∀ b ∈ F, w'.heap[b]? = w.heap[b]?) → TrL w o p s R d l cs F → TrL w' o' p s R' d l cs F
 | [], _, _, _, h => by simpa only [TrL] using h
 | x :: l, cs, F, hb, h => by
  simp only [TrL] at h ⊢
  obtain ⟨c, e, G, H, rfl, rfl, h1, h2⟩ := h
  exact ⟨c, e, G, H, rfl, rfl, TrR.imp ho hR x c G (fun b hm => hb b (List.mem_append.2 (.inl hm))) h1, TrL.imp ho hR l e H (fun b hm => hb b (List.mem_append.2 (.inr hm))) h2⟩
end
theorem KidR.lt {w : World} {o : Bool} {sz n : Nat} {Row : List Value → List Nat → Prop} {v : Value} {F : List Nat} (hR : ∀ m G, Row m G → ∀ b ∈ G, b < w.heap.size) (h : KidR w o sz n Row v F) : ∀ b ∈ F, b < w.heap.size := by
 intro b hb
 rcases h with ⟨_, _, rfl⟩ | ⟨a, cap, c, t, fz, p, m, q, G, hv, hs, hl, hh, hc, hp, hr, rfl, hO⟩ | ⟨_, _, rfl, _⟩
 ·cases hb
 ·rcases List.mem_cons.1 hb with rfl | hb
  ·exact (Array.getElem?_eq_some_iff.1 hh).1
  ·exact hR _ _ hr b hb
 ·cases hb
mutual
theorem TrR.lt {w : World} {o p : Bool} {s : Nat} {R : α → List Value → Prop} {d : α} : ∀ (t : Tr α) (cs : List Value) (F : List Nat), TrR w o p s R d t cs F → ∀ b ∈ F, b < w.heap.size
 | .nil, cs, F, h, b, hb => by
  cases p with
  | true => simp only [TrR] at h; rw [h.2] at hb; cases hb
  | false =>
   simp only [TrR] at h
   obtain ⟨kc, kv, h1, h2, h3⟩ := h
   exact h3.lt (fun _ _ h b hb => by rw [h.2] at hb; cases hb) b hb
 | .node x ks, cs, F, h, b, hb => by
  cases p with
  | true =>
   simp only [TrR] at h
   obtain ⟨b', c, t, G, h0, hh, rfl, kc, kv, h1, h2, h3⟩ := h
   rcases List.mem_cons.1 hb with rfl | hb
   ·exact (Array.getElem?_eq_some_iff.1 hh).1
   ·exact h3.lt (fun m G h => TrL.lt ks m G h) b hb
  | false =>
   simp only [TrR] at h
   obtain ⟨kc, kv, h1, h2, h3⟩ := h
   exact h3.lt (fun m G h => TrL.lt ks m G h) b hb
theorem TrL.lt {w : World} {o p : Bool} {s : Nat} {R : α → List Value → Prop} {d : α} : ∀ (l : List (Tr α)) (cs : List Value) (F : List Nat), TrL w o p s R d l cs F → ∀ b ∈ F, b < w.heap.size
 | [], _, _, h, b, hb => by simp only [TrL] at h; rw [h.2] at hb; cases hb
 | x :: l, cs, F, h, b, hb => by
  simp only [TrL] at h
  obtain ⟨c, e, G, H, rfl, rfl, h1, h2⟩ := h
  rcases List.mem_append.1 hb with hb | hb
  ·exact TrR.lt x c G h1 b hb
  ·exact TrL.lt l e H h2 b hb
end
end
class Bor where
 Z : Nat → Prop
 ok : (u : U) → List u.El → Value → Prop
 one : ∀ {u : U} {x : List u.El} {v : Value}, ok u x v → v.oneCell' = true
 nil : ∀ u : U, ok u [] (.slice none 0 0)
section
variable [β : Bor]
def Rep (w : World) (o : Bool) : (u : U) → u.El → List Value → List Nat → Prop
 | .bool, x, cs, F => cs = [.bool x] ∧ F = []
 | .int k, x, cs, F => cs = [.int k x] ∧ F = []
 | .str, x, cs, F => cs = [.string x] ∧ F = []
 | .sl e u, x, cs, F => ∃ v, cs = [v] ∧ (SlRep w o e u.sz (Rep w o u) x v F ∨ Bare o e x v F)
 | .unit, _, cs, F => cs = [] ∧ F = []
 | .pair a b, x, cs, F => ∃ c d G H, cs = c ++ d ∧ F = G ++ H ∧ Rep w o a x.1 c G ∧ Rep w o b x.2 d H
 | .ar n u, x, cs, F => x.length = n ∧ RepL (Rep w o u) x cs F
 | .oth, _, cs, F => F = [] ∧ ∃ v, cs = [v] ∧ v.oneCell' = true
 | .bs u, x, cs, F => F = [] ∧ ∃ v, cs = [v] ∧ Bor.ok u x v
 | .pt u, t, cs, F => TrR w o true 1 (fun x c => Rep w o u x c []) u.dflt t cs F
 | .tr u, t, cs, F => TrR w o false (u.sz + 1) (fun x c => Rep w o u x c []) u.dflt t cs F
theorem Rep.length {w : World} {o : Bool} : ∀ {u : U} {x : u.El} {cs F}, Rep w o u x cs F → cs.length = u.sz
 | .bool, _, _, _, h => by rw [h.1]; rfl
 | .int _, _, _, _, h => by rw [h.1]; rfl
 | .str, _, _, _, h => by rw [h.1]; rfl
 | .sl _ _, _, _, _, h => by obtain ⟨v, rfl, _⟩ := h; rfl
 | .unit, _, _, _, h => by rw [h.1]; rfl
 | .pair a b, _, _, _, h => by obtain ⟨c, d, G, H, rfl, rfl, h1, h2⟩ := h; rw [List.length_append, Rep.length h1, Rep.length h2]; rfl
 | .ar n u, x, _, _, h => by rw [RepL.length (fun _ _ _ => Rep.length) h.2, h.1]; rfl
 | .oth, _, _, _, h => by obtain ⟨_, v, rfl, _⟩ := h; rfl
 | .bs _, _, _, _, h => by obtain ⟨_, v, rfl, _⟩ := h; rfl
 | .pt u, t, _, _, h => by
  cases t with
  | nil => simp only [Rep, TrR] at h; rw [h.1]; rfl
  | node x ks => simp only [Rep, TrR] at h; obtain ⟨b, c, t, G, h, _⟩ := h; rw [h]; rfl
 | .tr u, t, _, _, h => by
  cases t with
  | nil => simp only [Rep, TrR] at h; obtain ⟨kc, kv, rfl, h, _⟩ := h; rw [List.length_append, Rep.length h]; rfl
  | node x ks => simp only [Rep, TrR] at h; obtain ⟨kc, kv, rfl, h, _⟩ := h; rw [List.length_append, Rep.length h]; rfl
theorem Rep.frame {w w' : World} {o : Bool} : ∀ {u : U} {x : u.El} {cs F}, (∀ b ∈ F, w'.heap[b]? = w.heap[b]?) → Rep w o u x cs F → Rep w' o u x cs F
 | .bool, _, _, _, _, h => h
 | .int _, _, _, _, _, h => h
 | .str, _, _, _, _, h => h
 | .unit, _, _, _, _, h => h
 | .oth, _, _, _, _, h => h
 | .bs _, _, _, _, _, h => h
 | .pt u, t, cs, F, hb, h => TrR.imp (fun h => h) (fun _ _ h => Rep.frame (u := u) (fun b hb => by cases hb) h) t cs F hb h
 | .tr u, t, cs, F, hb, h => TrR.imp (fun h => h) (fun _ _ h => Rep.frame (u := u) (fun b hb => by cases hb) h) t cs F hb h
 | .pair a b, _, _, _, hb, h => by
  obtain ⟨c, d, G, H, rfl, rfl, h1, h2⟩ := h
  exact ⟨c, d, G, H, rfl, rfl, Rep.frame (fun b hm => hb b (List.mem_append.2 (.inl hm))) h1, Rep.frame (fun b hm => hb b (List.mem_append.2 (.inr hm))) h2⟩
 | .ar n u, x, _, _, hb, h => ⟨h.1, RepL.imp (fun _ _ _ hG => Rep.frame (fun b hm => hb b (hG b hm))) h.2⟩
 | .sl e u, x, _, F, hb, h => by
  obtain ⟨v, rfl, h⟩ := h
  refine ⟨v, rfl, ?_⟩
  rcases h with (h | ⟨a, cap, c, t, fz, p, m, q, G, hv, hs, he, hl, hh, hc, hp, hr, rfl, ho⟩) | hB
  rotate_left 2
  ·exact .inr hB
  ·exact .inl (.inl h)
  ·exact .inl <| .inr ⟨a, cap, c, t, fz, p, m, q, G, hv, hs, he, hl, by rw [hb _ (List.mem_cons_self ..)]; exact hh, hc, hp,
    RepL.imp (fun _ _ _ hG => Rep.frame (fun b hm => hb b (List.mem_cons_of_mem _ (hG b hm)))) hr, rfl, ho⟩
theorem SlRep.frame {w w' : World} {o e : Bool} {u : U} {x : List u.El} {v F} (hb : ∀ b ∈ F, w'.heap[b]? = w.heap[b]?) (h : SlRep w o e u.sz (Rep w o u) x v F) : SlRep w' o e u.sz (Rep w' o u) x v F := by
 rcases h with h | ⟨a, cap, c, t, fz, p, m, q, G, hv, hs, he, hl, hh, hc, hp, hr, rfl, ho⟩
 ·exact .inl h
 ·exact .inr ⟨a, cap, c, t, fz, p, m, q, G, hv, hs, he, hl, by rw [hb _ (List.mem_cons_self ..)]; exact hh, hc, hp,
   RepL.imp (fun _ _ _ hG => Rep.frame (fun b hm => hb b (List.mem_cons_of_mem _ (hG b hm)))) hr, rfl, ho⟩
theorem Rep.weak {w : World} : ∀ {u : U} {x : u.El} {cs F}, Rep w true u x cs F → Rep w false u x cs F
 | .bool, _, _, _, h => h
 | .int _, _, _, _, h => h
 | .str, _, _, _, h => h
 | .unit, _, _, _, h => h
 | .oth, _, _, _, h => h
 | .bs _, _, _, _, h => h
 | .pt u, t, cs, F, h => TrR.imp (fun h => by cases h) (fun _ _ h => Rep.weak (u := u) h) t cs F (fun _ _ => rfl) h
 | .tr u, t, cs, F, h => TrR.imp (fun h => by cases h) (fun _ _ h => Rep.weak (u := u) h) t cs F (fun _ _ => rfl) h
 | .pair a b, _, _, _, h => by
  obtain ⟨c, d, G, H, rfl, rfl, h1, h2⟩ := h
  exact ⟨c, d, G, H, rfl, rfl, Rep.weak h1, Rep.weak h2⟩
 | .ar n u, x, _, _, h => ⟨h.1, RepL.imp (fun _ _ _ _ => Rep.weak) h.2⟩
 | .sl e u, x, _, F, h => by
  obtain ⟨v, rfl, h⟩ := h
  refine ⟨v, rfl, ?_⟩
  rcases h with (h | ⟨a, cap, c, t, fz, p, m, q, G, hv, hs, he, hl, hh, hc, hp, hr, rfl, ho⟩) | hB
  rotate_left 2
  ·exact absurd hB.1 (by simp)
  ·exact .inl (.inl h)
  ·exact .inl <| .inr ⟨a, cap, c, t, fz, p, m, q, G, hv, hs, he, hl, hh, hc, hp, RepL.imp (fun _ _ _ _ => Rep.weak) hr, rfl, fun h => by cases h⟩
theorem SlRep.weak {w : World} {e : Bool} {u : U} {x : List u.El} {v F} (h : SlRep w true e u.sz (Rep w true u) x v F) : SlRep w false e u.sz (Rep w false u) x v F := by
 rcases h with h | ⟨a, cap, c, t, fz, p, m, q, G, hv, hs, he, hl, hh, hc, hp, hr, rfl, ho⟩
 ·exact .inl h
 ·exact .inr ⟨a, cap, c, t, fz, p, m, q, G, hv, hs, he, hl, hh, hc, hp, RepL.imp (fun _ _ _ _ => Rep.weak) hr, rfl, fun h => by cases h⟩
theorem SlRep.loose {α : Type} {w : World} {o e e' : Bool} {sz : Nat} {R : α → List Value → List Nat → Prop} {l v F} (h : SlRep w o e sz R l v F) (he : (e || !e') = true) : SlRep w o e' sz R l v F := by
 rcases h with h | ⟨a, cap, c, t, fz, p, m, q, G, hv, hs, h1, h⟩
 ·exact .inl h
 ·refine .inr ⟨a, cap, c, t, fz, p, m, q, G, hv, hs, fun k => h1 ?_, h⟩
  subst k; simpa using he
theorem Rep.flat {w : World} {o : Bool} : ∀ {u : U} {x : u.El} {cs F}, u.flat = true → Rep w o u x cs F → F = []
 | .bool, _, _, _, _, h => h.2
 | .int _, _, _, _, _, h => h.2
 | .str, _, _, _, _, h => h.2
 | .unit, _, _, _, _, h => h.2
 | .oth, _, _, _, _, h => h.1
 | .bs _, _, _, _, _, h => h.1
 | .pt _, _, _, _, hf, _ => by cases hf
 | .tr _, _, _, _, hf, _ => by cases hf
 | .sl _ _, _, _, _, hf, _ => by cases hf
 | .pair a b, _, _, _, hf, h => by
  obtain ⟨c, d, G, H, rfl, rfl, h1, h2⟩ := h
  simp only [U.flat, Bool.and_eq_true] at hf
  rw [Rep.flat hf.1 h1, Rep.flat hf.2 h2]; rfl
 | .ar n u, x, _, _, hf, h => by
  have hf : u.flat = true := hf
  have hR : ∀ {l : List u.El} {cs F}, RepL (Rep w o u) l cs F → F = [] := by
   intro l
   induction l with
   | nil => intro cs F h; exact h.2
   | cons y l ih =>
    intro cs F h
    obtain ⟨c, d, G, H, rfl, rfl, h1, h2⟩ := h
    rw [Rep.flat hf h1, ih h2]; rfl
  exact hR h.2
theorem nodeR_iff {w : World} {o : Bool} {u v : U} (hf : u.flat = true) {x : u.El} {l : List v.El} {cs F} {Row : List Value → List Nat → Prop} (hR : ∀ m G, Row m G ↔ RepL (Rep w o v) l m G) :
  NodeR w o v.sz (fun x c => Rep w o u x c []) x l.length Row cs F ↔ Rep w o (.pair u (.pair (.sl false v) .unit)) (x, l, ()) cs F := by
 have hRow : Row = RepL (Rep w o v) l := by funext m G; exact propext (hR m G)
 subst hRow
 constructor
 ·rintro ⟨kc, kv, rfl, h1, h2⟩
  exact ⟨kc, [kv], [], F, rfl, rfl, h1, [kv], [], F, [], rfl, by simp, ⟨kv, rfl, kidR_iff.1 h2⟩, rfl, rfl⟩
 ·rintro ⟨kc, d, G, H, rfl, rfl, h1, d', e, G', H', rfl, rfl, ⟨kv, rfl, h2⟩, h3, h4⟩
  try simp only at h3 h4
  subst h3; subst h4
  have hG := Rep.flat hf h1
  subst hG
  exact ⟨kc, kv, by simp, h1, by simpa using kidR_iff.2 h2⟩
theorem rep_pt {w : World} {o : Bool} {u : U} (hf : u.flat = true) {x : u.El} {ks : List (Tr u.El)} {cs F} :
  Rep w o (.pt u) (.node x ks) cs F ↔ ∃ b c t G, cs = [.pointer (some ⟨b, 0, none⟩)] ∧ w.heap[b]? = some (.cells c t (0, 0)) ∧ F = b :: G ∧ Rep w o (U.nd true u) (x, ks, ()) c.toList G := by
 have h : ∀ c G, NodeR w o 1 (fun x c => Rep w o u x c []) x ks.length (TrL w o true 1 (fun x c => Rep w o u x c []) u.dflt ks) c G ↔ Rep w o (U.nd true u) (x, ks, ()) c G := fun c G =>
  nodeR_iff (v := .pt u) (l := ks) hf fun m G => trL_eq
 simp only [Rep, TrR]
 constructor
 ·rintro ⟨b, c, t, G, h1, h2, h3, h4⟩; exact ⟨b, c, t, G, h1, h2, h3, (h _ _).1 h4⟩
 ·rintro ⟨b, c, t, G, h1, h2, h3, h4⟩; exact ⟨b, c, t, G, h1, h2, h3, (h _ _).2 h4⟩
theorem rep_pnil {w : World} {o : Bool} {u : U} {cs F} : Rep w o (.pt u) .nil cs F ↔ cs = [.pointer none] ∧ F = [] := by simp only [Rep, TrR]
theorem rep_tr {w : World} {o : Bool} {u : U} (hf : u.flat = true) {t : Tr u.El} {cs F} : Rep w o (.tr u) t cs F ↔ Rep w o (U.nd false u) (t.trn u) cs F := by
 cases t with
 | nil => exact nodeR_iff (v := .tr u) (l := []) hf fun m G => Iff.rfl
 | node x ks => exact nodeR_iff (v := .tr u) (l := ks) hf fun m G => trL_eq
theorem tr_split {w : World} {o : Bool} {u : U} (hf : u.flat = true) {t : Tr u.El} {cs F} (h : Rep w o (.tr u) t cs F) : ∃ c kv, cs = c ++ [kv] ∧ Rep w o u (t.val u.dflt) c [] ∧ Rep w o (.sl false (.tr u)) t.kids [kv] F := by
 obtain ⟨c, d, G, H, rfl, rfl, h1, d', e, G', H', rfl, rfl, h2, h3⟩ := (rep_tr hf).1 h
 obtain ⟨rfl, rfl⟩ := h3
 have hG := Rep.flat hf h1
 subst hG
 obtain ⟨kv, rfl, h2⟩ := h2
 exact ⟨c, kv, by simp, h1, kv, rfl, by simpa [Tr.trn] using h2⟩
theorem tr_join {w : World} {o : Bool} {u : U} (hf : u.flat = true) {t : Tr u.El} {c : List Value} {kv : Value} {G F} (h1 : Rep w o u (t.val u.dflt) c G) (h2 : Rep w o (.sl false (.tr u)) t.kids [kv] F) : Rep w o (.tr u) t (c ++ [kv]) F := by
 rw [rep_tr hf]
 have hG := Rep.flat hf h1
 subst hG
 exact ⟨c, [kv], [], F, rfl, by simp, h1, [kv], [], F, [], by simp, by simp, h2, rfl, rfl⟩
theorem Rep.move {w w' : World} {o : Bool} {u : U} {x : u.El} {cs F} (hf : u.flat = true) (h : Rep w o u x cs F) : Rep w' o u x cs F :=
 Rep.frame (fun b hb => by rw [Rep.flat hf h] at hb; cases hb) h
theorem Rep.own {w : World} : ∀ {u : U} {x : u.El} {cs F}, u.flat = true → Rep w false u x cs F → Rep w true u x cs F
 | .bool, _, _, _, _, h => h
 | .int _, _, _, _, _, h => h
 | .str, _, _, _, _, h => h
 | .unit, _, _, _, _, h => h
 | .oth, _, _, _, _, h => h
 | .bs _, _, _, _, _, h => h
 | .pt _, _, _, _, hf, _ => by cases hf
 | .tr _, _, _, _, hf, _ => by cases hf
 | .sl _ _, _, _, _, hf, _ => by cases hf
 | .pair a b, _, _, _, hf, h => by
  obtain ⟨c, d, G, H, rfl, rfl, h1, h2⟩ := h
  simp only [U.flat, Bool.and_eq_true] at hf
  exact ⟨c, d, G, H, rfl, rfl, Rep.own hf.1 h1, Rep.own hf.2 h2⟩
 | .ar n u, x, _, _, hf, h => ⟨h.1, RepL.imp (fun _ _ _ _ => Rep.own (show u.flat = true from hf)) h.2⟩
theorem Rep.one {w : World} {o : Bool} : ∀ {u : U} {x : u.El} {cs F}, Rep w o u x cs F → ∀ v ∈ cs, v.oneCell' = true
 | .bool, _, _, _, h, v, hv => by rw [h.1] at hv; simp at hv; subst hv; rfl
 | .int _, _, _, _, h, v, hv => by rw [h.1] at hv; simp at hv; subst hv; rfl
 | .str, _, _, _, h, v, hv => by rw [h.1] at hv; simp at hv; subst hv; rfl
 | .unit, _, _, _, h, v, hv => by rw [h.1] at hv; cases hv
 | .oth, _, _, _, h, v, hv => by
  obtain ⟨_, v', rfl, h⟩ := h
  simp at hv; subst hv
  exact h
 | .bs _, _, _, _, h, v, hv => by
  obtain ⟨_, v', rfl, h⟩ := h
  simp at hv; subst hv
  exact Bor.one h
 | .pt u, t, _, _, h, v, hv => by
  cases t with
  | nil => simp only [Rep, TrR] at h; rw [h.1] at hv; simp at hv; subst hv; rfl
  | node x ks => simp only [Rep, TrR] at h; obtain ⟨b, c, t, G, h, _⟩ := h; rw [h] at hv; simp at hv; subst hv; rfl
 | .tr u, t, cs, F, h, v, hv => by
  have h : ∃ x n Row, NodeR w o (u.sz + 1) (fun x c => Rep w o u x c []) x n Row cs F := by
   cases t with
   | nil => simp only [Rep, TrR] at h; exact ⟨_, _, _, h⟩
   | node x ks => simp only [Rep, TrR] at h; exact ⟨_, _, _, h⟩
  obtain ⟨x, n, Row, kc, kv, rfl, h, hk⟩ := h
  rcases List.mem_append.1 hv with hv | hv
  ·exact Rep.one h v hv
  ·simp at hv; subst hv
   rcases hk with h | ⟨a, cap, c, t, fz, p, m, q, G, hv, _⟩ | ⟨_, _, _, a, cap, hv⟩
   ·rw [h.1]; rfl
   ·rw [hv]; rfl
   ·rw [hv]; rfl
 | .sl _ _, _, _, _, h, v, hv => by
  obtain ⟨v', rfl, h⟩ := h
  simp at hv; subst hv
  rcases h with (h | ⟨a, cap, c, t, fz, p, m, q, G, hv, _⟩) | ⟨_, _, _, _, a, cap, hv⟩
  ·rw [h.1]; rfl
  ·rw [hv]; rfl
  ·rw [hv]; rfl
 | .pair a b, _, _, _, h, v, hv => by
  obtain ⟨c, d, G, H, rfl, rfl, h1, h2⟩ := h
  rcases List.mem_append.1 hv with hv | hv
  ·exact Rep.one h1 v hv
  ·exact Rep.one h2 v hv
 | .ar n u, x, _, _, h, v, hv => by
  have hR : ∀ {l : List u.El} {cs F}, RepL (Rep w o u) l cs F → ∀ v ∈ cs, v.oneCell' = true := by
   intro l
   induction l with
   | nil => intro cs F h v hv; rw [h.1] at hv; cases hv
   | cons y l ih =>
    intro cs F h v hv
    obtain ⟨c, d, G, H, rfl, rfl, h1, h2⟩ := h
    rcases List.mem_append.1 hv with hv | hv
    ·exact Rep.one h1 v hv
    ·exact ih h2 v hv
  exact hR h.2 v hv
theorem RepL.one {w : World} {o : Bool} {u : U} : ∀ {l : List u.El} {cs F}, RepL (Rep w o u) l cs F → ∀ v ∈ cs, v.oneCell' = true
 | [], _, _, h, v, hv => by rw [h.1] at hv; cases hv
 | y :: l, _, _, h, v, hv => by
  obtain ⟨c, d, G, H, rfl, rfl, h1, h2⟩ := h
  rcases List.mem_append.1 hv with hv | hv
  ·exact Rep.one h1 v hv
  ·exact RepL.one h2 v hv
def BorOK (w : World) : Prop := ∀ (u : U) (x : List u.El) (v : Value), Bor.ok u x v → ∃ G, Rep w false (.sl false u) x [v] G ∧ ∀ b ∈ G, Bor.Z b
theorem BorOK.frame {w w' : World} (h : BorOK w) (hb : ∀ b, Bor.Z b → w'.heap[b]? = w.heap[b]?) : BorOK w' := fun u x v ho => by
 obtain ⟨G, h1, h2⟩ := h u x v ho
 exact ⟨G, Rep.frame (fun b hm => hb b (h2 b hm)) h1, h2⟩
def BMor (B' : Bor) : Prop := ∀ (u : U) (x : List u.El) (v : Value), β.ok u x v → B'.ok u x v
def BExt (w : World) (S : List Nat) (B' : Bor) : Prop := ∀ (u : U) (x : List u.El) (v : Value) (F : List Nat), @Rep β w false (.sl false u) x [v] F → (∀ b ∈ F, b ∈ S) → B'.ok u x v
theorem BExt.sub {w : World} {S S' : List Nat} {B' : Bor} (h : @BExt β w S B') (hs : ∀ b ∈ S', b ∈ S) : @BExt β w S' B' := fun u x v F h1 h2 => h u x v F h1 fun b hb => hs b (h2 b hb)
theorem Rep.mor {B' : Bor} (hm : @BMor β B') {w : World} {o : Bool} : ∀ {u : U} {x : u.El} {cs F}, @Rep β w o u x cs F → @Rep B' w o u x cs F
 | .bool, _, _, _, h => h
 | .int _, _, _, _, h => h
 | .str, _, _, _, h => h
 | .unit, _, _, _, h => h
 | .oth, _, _, _, h => h
 | .bs _, _, _, _, h => by obtain ⟨h1, v, h2, h3⟩ := h; exact ⟨h1, v, h2, hm _ _ _ h3⟩
 | .pt u, t, cs, F, h => TrR.imp (R := fun x c => @Rep β w o u x c []) (R' := fun x c => @Rep B' w o u x c []) (fun h => h) (fun _ _ h => Rep.mor hm h) t cs F (fun _ _ => rfl) h
 | .tr u, t, cs, F, h => TrR.imp (R := fun x c => @Rep β w o u x c []) (R' := fun x c => @Rep B' w o u x c []) (fun h => h) (fun _ _ h => Rep.mor hm h) t cs F (fun _ _ => rfl) h
 | .pair a b, _, _, _, h => by
  obtain ⟨c, d, G, H, rfl, rfl, h1, h2⟩ := h
  exact ⟨c, d, G, H, rfl, rfl, Rep.mor hm h1, Rep.mor hm h2⟩
 | .ar n u, x, _, _, h => ⟨h.1, RepL.imp (R := @Rep β w o u) (S := @Rep B' w o u) (fun _ _ _ _ h => Rep.mor hm h) h.2⟩
 | .sl e u, x, _, F, h => by
  obtain ⟨v, rfl, h⟩ := h
  refine ⟨v, rfl, ?_⟩
  rcases h with (h | ⟨a, cap, c, t, fz, p, m, q, G, hv, hs, he, hl, hh, hc, hp, hr, rfl, ho⟩) | hB
  rotate_left 2
  ·exact .inr hB
  ·exact .inl (.inl h)
  ·exact .inl <| .inr ⟨a, cap, c, t, fz, p, m, q, G, hv, hs, he, hl, hh, hc, hp, RepL.imp (R := @Rep β w o u) (S := @Rep B' w o u) (fun _ _ _ _ h => Rep.mor hm h) hr, rfl, ho⟩
theorem cast_pair {α γ δ ε : Type} (h1 : α = δ) (h2 : γ = ε) (h : (α × γ) = (δ × ε)) (x : α × γ) : cast h x = (cast h1 x.1, cast h2 x.2) := by
 subst h1; subst h2; rfl
theorem RepL.castTo {ι α γ : Type} (h : α = γ) {R : α → List Value → List Nat → Prop} {ok : ι → Prop} {R' : ι → γ → List Value → List Nat → Prop} {S : List Nat} (H : ∀ x c F, (∀ b ∈ F, b ∈ S) → R x c F → ∃ G, (∀ b ∈ G, b ∈ F) ∧ ∀ i, ok i → R' i (cast h x) c G) :
  ∀ {l : List α} {cs F}, (∀ b ∈ F, b ∈ S) → RepL R l cs F → ∃ G, (∀ b ∈ G, b ∈ F) ∧ ∀ i, ok i → RepL (R' i) (cast (congrArg List h) l) cs G := by
 subst h
 intro l
 induction l with
 | nil => intro cs F hS hr; obtain ⟨rfl, rfl⟩ := hr; exact ⟨[], by simp, fun _ _ => ⟨rfl, rfl⟩⟩
 | cons x l ih =>
  intro cs F hS hr
  obtain ⟨c, d, G, K, rfl, rfl, h1, h2⟩ := hr
  obtain ⟨G', g1, g2⟩ := H x c G (fun b hb => hS b (List.mem_append_left _ hb)) h1
  obtain ⟨K', k1, k2⟩ := ih (fun b hb => hS b (List.mem_append_right _ hb)) h2
  refine ⟨G' ++ K', fun b hb => ?_, fun i hi => ⟨c, d, G', K', rfl, rfl, g2 i hi, k2 i hi⟩⟩
  rcases List.mem_append.1 hb with hb | hb
  ·exact List.mem_append_left _ (g1 b hb)
  ·exact List.mem_append_right _ (k1 b hb)
theorem Rep.bsv {w : World} {S : List Nat} : ∀ {u : U} {x : u.El} {cs F}, (∀ b ∈ F, b ∈ S) → @Rep β w false u x cs F → ∃ G, (∀ b ∈ G, b ∈ F) ∧ ∀ B' : Bor, @BMor β B' ∧ @BExt β w S B' → @Rep B' w false (VM.bsv u) (cast (bsv_El u).symm x) cs G
 | .bool, _, _, F, _, h => ⟨F, fun _ h => h, fun _ _ => h⟩
 | .int _, _, _, F, _, h => ⟨F, fun _ h => h, fun _ _ => h⟩
 | .str, _, _, F, _, h => ⟨F, fun _ h => h, fun _ _ => h⟩
 | .unit, _, _, F, _, h => ⟨F, fun _ h => h, fun _ _ => h⟩
 | .oth, _, _, F, _, h => ⟨F, fun _ h => h, fun _ _ => h⟩
 | .bs _, _, _, F, _, h => ⟨F, fun _ h => h, fun _ hb => Rep.mor (β := β) hb.1 h⟩
 | .ar _ _, _, _, F, _, h => ⟨F, fun _ h => h, fun _ hb => Rep.mor (β := β) hb.1 h⟩
 | .pt _, _, _, F, _, h => ⟨F, fun _ h => h, fun _ hb => Rep.mor (β := β) hb.1 h⟩
 | .tr _, _, _, F, _, h => ⟨F, fun _ h => h, fun _ hb => Rep.mor (β := β) hb.1 h⟩
 | .sl e u, x, _, F, hS, h => by
  obtain ⟨v, rfl, h⟩ := h
  refine ⟨[], by simp, fun B' hb => ⟨rfl, v, rfl, hb.2 u x v F ⟨v, rfl, ?_⟩ hS⟩⟩
  rcases h with (h | ⟨a, cap, c, t, fz, p, m, q, G, hv, hs, _, hl, hh, hc, hp, hr, rfl, ho⟩) | hB
  rotate_left 2
  ·exact .inr ⟨hB.1, rfl, hB.2.2⟩
  ·exact .inl (.inl h)
  ·exact .inl <| .inr ⟨a, cap, c, t, fz, p, m, q, G, hv, hs, (fun h => by cases h), hl, hh, hc, hp, hr, rfl, ho⟩
 | .pair a b, x, _, _, hS, h => by
  obtain ⟨c, d, G, H, rfl, rfl, h1, h2⟩ := h
  obtain ⟨G', g1, g2⟩ := Rep.bsv (fun b hb => hS b (List.mem_append_left _ hb)) h1
  obtain ⟨H', k1, k2⟩ := Rep.bsv (fun b hb => hS b (List.mem_append_right _ hb)) h2
  have e1 : @Eq ((VM.bsv a).El × (VM.bsv b).El) (cast (bsv_El (.pair a b)).symm x) (cast (bsv_El a).symm x.1, cast (bsv_El b).symm x.2) := cast_pair _ _ _ x
  refine ⟨G' ++ H', fun b hb => ?_, fun B' hb => ⟨c, d, G', H', rfl, rfl, (congrArg (fun z : (VM.bsv a).El × (VM.bsv b).El => @Rep B' w false (VM.bsv a) z.1 c G') e1).mpr (g2 B' hb), (congrArg (fun z : (VM.bsv a).El × (VM.bsv b).El => @Rep B' w false (VM.bsv b) z.2 d H') e1).mpr (k2 B' hb)⟩⟩
  rcases List.mem_append.1 hb with hb | hb
  ·exact List.mem_append_left _ (g1 b hb)
  ·exact List.mem_append_right _ (k1 b hb)
theorem SlRep.mor {B' : Bor} (hm : @BMor β B') {w : World} {o e : Bool} {u : U} {x : List u.El} {v : Value} {F : List Nat} (h : SlRep w o e u.sz (@Rep β w o u) x v F) : SlRep w o e u.sz (@Rep B' w o u) x v F := by
 rcases h with h | ⟨a, cap, c, t, fz, p, m, q, G, hv, hs, he, hl, hh, hc, hp, hr, rfl, ho⟩
 ·exact .inl h
 ·exact .inr ⟨a, cap, c, t, fz, p, m, q, G, hv, hs, he, hl, hh, hc, hp, RepL.imp (R := @Rep β w o u) (S := @Rep B' w o u) (fun _ _ _ _ h => Rep.mor (β := β) hm h) hr, rfl, ho⟩
end
end Go.VM
namespace Go.VM
theorem Rep.indep {i j : Bor} {w : World} {o : Bool} : ∀ {u : U} {x : u.El} {cs F}, u.nobs = true → @Rep i w o u x cs F → @Rep j w o u x cs F
 | .bool, _, _, _, _, h => h
 | .int _, _, _, _, _, h => h
 | .str, _, _, _, _, h => h
 | .unit, _, _, _, _, h => h
 | .oth, _, _, _, _, h => h
 | .bs _, _, _, _, hn, _ => by cases hn
 | .pt u, t, cs, F, hn, h => TrR.imp (R := fun x c => @Rep i w o u x c []) (R' := fun x c => @Rep j w o u x c []) (fun h => h) (fun _ _ h => Rep.indep (u := u) hn h) t cs F (fun _ _ => rfl) h
 | .tr u, t, cs, F, hn, h => TrR.imp (R := fun x c => @Rep i w o u x c []) (R' := fun x c => @Rep j w o u x c []) (fun h => h) (fun _ _ h => Rep.indep (u := u) hn h) t cs F (fun _ _ => rfl) h
 | .pair a b, _, _, _, hn, h => by
  simp only [U.nobs, Bool.and_eq_true] at hn
  obtain ⟨c, d, G, H, rfl, rfl, h1, h2⟩ := h
  exact ⟨c, d, G, H, rfl, rfl, Rep.indep hn.1 h1, Rep.indep hn.2 h2⟩
 | .ar n u, x, _, _, hn, h => ⟨h.1, RepL.imp (R := @Rep i w o u) (S := @Rep j w o u) (fun _ _ _ _ h => Rep.indep (u := u) hn h) h.2⟩
 | .sl e u, x, _, F, hn, h => by
  obtain ⟨v, rfl, h⟩ := h
  refine ⟨v, rfl, ?_⟩
  rcases h with (h | ⟨a, cap, c, t, fz, p, m, q, G, hv, hs, he, hl, hh, hc, hp, hr, rfl, ho⟩) | hB
  rotate_left 2
  ·exact .inr hB
  ·exact .inl (.inl h)
  ·exact .inl <| .inr ⟨a, cap, c, t, fz, p, m, q, G, hv, hs, he, hl, hh, hc, hp, RepL.imp (R := @Rep i w o u) (S := @Rep j w o u) (fun _ _ _ _ h => Rep.indep (u := u) hn h) hr, rfl, ho⟩
theorem Rep.sl_one {i : Bor} {w : World} {o e : Bool} {u : U} {x : List u.El} {v : Value} {F} (h : Rep w o (.sl e u) x [v] F) : v.oneCell' = true := by
 obtain ⟨v', hv, h⟩ := h
 cases hv
 rcases h with (⟨_, e, _⟩ | ⟨a, cap, c, t, fz, p, m, q, G, e, _⟩) | ⟨_, _, _, _, a, cap, e⟩
 ·first | (rw [e]; rfl) | (rename_i e' _; rw [e']; rfl) | (subst_vars; rfl)
 ·rw [e]; rfl
 ·rw [e]; rfl
end Go.VM

namespace Go.VM
variable [Bor]
structure Mem where
 w0 : World
 Z : Nat → Prop
 h : Nat → Root
 r : Nat → Option Addr × Nat
 w : World
def hdr (r : Option Addr × Nat) (n : Nat) : Value := match r.1 with | none => .slice none 0 0 | some a => .slice (some a) n r.2
def hdrAt (w : World) : (u : U) → List u.El → Value → List (Nat × Nat) → Option Value
 | _, _, v, [] => some v
 | u, l, v, (i, o) :: p => match v with
  | .slice (some a) _ _ => if i < l.length then (match w.cell? (a.add (i * u.sz + o)) with
     | some v' => (match slAt u (l.getD i u.dflt) o with | some ⟨_, u', l'⟩ => hdrAt w u' l' v' p | none => none)
     | none => none) else none
  | _ => none
def valC (u : U) (v : Value) (cs : List Value) : Prop := v = (if u.isAgg then .agg cs.toArray else cs.headD undef)
def Win (sz : Nat) (v : Value) : Option (Nat × Nat) → Value → Prop
 | none, v' => v' = v
 | some (a, n), v' => (v = .slice none 0 0 ∧ a = 0 ∧ n = 0 ∧ v' = .slice none 0 0) ∨ ∃ ad len cap k, v = .slice (some ad) len cap ∧ a + n ≤ len ∧ len ≤ cap ∧ v' = .slice (some (ad.add (k * sz))) n (cap - a) ∧ k ≤ cap ∧ (n = 0 ∨ k = a) ∧ (a = 0 → k = 0)
def ImRow (w : World) (Z : Nat → Prop) (u : U) (l : List u.El) (a : Addr) : Prop :=
 ∃ c t fz p m q G, a.spot = none ∧ w.heap[a.block]? = some (.cells c t fz) ∧ c.toList = p ++ m ++ q ∧ p.length = a.off ∧ RepL (Rep w false u) l m G ∧ Z a.block ∧ ∀ b ∈ G, Z b
inductive RowIs : Root → (e : Bool) → (u : U) → List u.El → Nat → Bool → Prop
 | arr {e : Bool} {u : U} {l : List u.El} {g : Nat} : RowIs (.arr e u l g) e u l g false
 | hol {e : Bool} {u : U} {l : List u.El} {g i o : Nat} {w : U} : RowIs (.hol e u l g i o w) e u l g true
theorem rowA {R : Root} {e : Bool} {u : U} {l : List u.El} {g : Nat} (h : R = .arr e u l g) : RowIs R e u l g false := h ▸ .arr
theorem rowH {R : Root} {e : Bool} {u : U} {l : List u.El} {g i o : Nat} {w : U} (h : R = .hol e u l g i o w) : RowIs R e u l g true := h ▸ .hol
theorem rowOld {R : Root} {A : (e : Bool) → (u : U) → List u.El → Nat → Prop} {B : (e : Bool) → (u : U) → List u.El → Nat → Prop} {C : Prop} {D : (e : Bool) → (u : U) → List u.El → Nat → Prop} (h : ∀ e u l g' b, RowIs R e u l g' b → A e u l g' ∧ (B e u l g' → (b = true → C) → D e u l g'))
  {e : Bool} {u : U} {l : List u.El} {g' : Nat} (hM : R = .arr e u l g') : A e u l g' ∧ (B e u l g' → D e u l g') :=
 ⟨(h _ _ _ _ _ (rowA hM)).1, fun hb => (h _ _ _ _ _ (rowA hM)).2 hb (fun h => by cases h)⟩
mutual
def AVRep (M : Mem) : AV → Value → Prop
 | .dead, _ => True
 | .und, v => v = undef
 | .im u x, v => u.good = true ∧ ∃ cs F, valC u v cs ∧ Rep M.w0 false u x cs F ∧ ∀ b ∈ F, M.Z b
 | .nil, v => v = .slice none 0 0
 | .nilptr, v => v = .pointer none
 | .nilfn, v => v = .nilFunc
 | .hs id p x g, v => ∀ e u l g' b, RowIs (M.h id) e u l g' b → (p = [] ∨ g ≤ g') ∧ (okG p g g' = true → (b = true → p = []) → ∃ e' u' l' v', atP e u l p = some ⟨e', u', l'⟩ ∧ hdrAt M.w u l (hdr (M.r id) l.length) p = some v' ∧ Win u'.sz v' x v)
 | .tp id, v => M.h id ≠ .dead → v = .pointer (M.r id).1
 | .mp id, v => M.h id ≠ .dead → ∃ b, (M.r id).1 = some ⟨b, 0, none⟩ ∧ v = .map (some b)
 | .po id o, v => M.h id ≠ .dead → ∃ a, (M.r id).1 = some a ∧ v = .pointer (some (a.add o))
 | .pe id p g i o, v => ∀ e u l g' b, RowIs (M.h id) e u l g' b → (p = [] ∨ g ≤ g') ∧ (okG p g g' = true → (b = true → p = []) → ∃ e' u' l' a cap, atP e u l p = some ⟨e', u', l'⟩ ∧ hdrAt M.w u l (hdr (M.r id) l.length) p = some (.slice (some a) l'.length cap) ∧
   i < l'.length ∧ v = .pointer (some (a.add (i * u'.sz + o))))
 | .pi u l i o, v => i < l.length ∧ ∃ a, ImRow M.w0 M.Z u l a ∧ v = .pointer (some (a.add (i * u.sz + o)))
 | .fn f cs, v => ∃ vs, v = .func (.func f) #[] vs.toArray ∧ AVRepL M cs vs
 | .px f cs k, v => ∃ b t ws, v = .pointer (some ⟨b, 0, none⟩) ∧ M.w0.heap[b]? = some (.cells #[.func (.func f) #[] (insK v ws k).toArray] t (0, 0)) ∧ M.Z b ∧ AVRepL M cs ws
 | .agg cs, v => ∃ vs, v = .agg vs.toArray ∧ AVRepL M cs vs
 | .tup cs, v => ∃ vs, v = .tuple vs.toArray ∧ AVRepL M cs vs
def AVRepL (M : Mem) : List AV → List Value → Prop
 | [], vs => vs = []
 | c :: cs, vs => ∃ v r, vs = v :: r ∧ AVRep M c v ∧ AVRepL M cs r
end
def Keeps (M M' : Mem) (id : Nat) : Prop :=
 M'.h id = .dead ∨ M'.r id = M.r id ∧
  ((M.h id ≠ .dead ∧ ∀ e u l g b, ¬ RowIs (M'.h id) e u l g b) ∨
   ∃ e u l l' g g' b b', RowIs (M.h id) e u l g b ∧ RowIs (M'.h id) e u l' g' b' ∧ l'.length = l.length ∧ g ≤ g' ∧ (b = true → b' = true ∨ g < g') ∧
    ∀ p gg e' u' (k : List u'.El) v, okG p gg g' = true → okG p gg g = true → (b = true → p = []) → (b' = true → p = []) → atP e u l p = some ⟨e', u', k⟩ → hdrAt M.w u l (hdr (M.r id) l.length) p = some v →
     ∃ k' : List u'.El, k'.length = k.length ∧ atP e u l' p = some ⟨e', u', k'⟩ ∧ hdrAt M'.w u l' (hdr (M.r id) l.length) p = some v)
theorem RowIs.uniq {R : Root} {e e' : Bool} {u u' : U} {l : List u.El} {l' : List u'.El} {g g' : Nat} {b b' : Bool} (h : RowIs R e u l g b) (h' : RowIs R e' u' l' g' b') : e = e' ∧ u = u' ∧ HEq l l' ∧ g = g' ∧ b = b' := by
 cases h <;> cases h' <;> exact ⟨rfl, rfl, HEq.rfl, rfl, rfl⟩
theorem okG_up {p : List (Nat × Nat)} {gg g g' : Nat} (h : okG p gg g' = true) (h1 : p = [] ∨ gg ≤ g) (h2 : g ≤ g') : okG p gg g = true := by
 cases p with
 | nil => rfl
 | cons x p =>
  simp only [okG, Nat.beq_eq] at h ⊢
  have := h1.resolve_left (by simp)
  omega
mutual
theorem AVRep.mono {M M' : Mem} (h0 : M'.w0 = M.w0) (hZ : M'.Z = M.Z) : ∀ {c : AV} {v : Value}, (∀ id ∈ refs c, Keeps M M' id) → AVRep M c v → AVRep M' c v
 | .dead, _, _, _ => by simp only [AVRep]
 | .und, _, _, h => by simpa only [AVRep] using h
 | .im u x, v, _, h => by simp only [AVRep, h0, hZ] at h ⊢; exact h
 | .nil, _, _, h => by simpa only [AVRep] using h
 | .nilptr, _, _, h => by simpa only [AVRep] using h
 | .nilfn, _, _, h => by simpa only [AVRep] using h
 | .hs id p x g, v, hk, h => by
  simp only [AVRep] at h ⊢
  intro e u l g' bb hl
  rcases hk id (by simp [refs]) with hk | ⟨hr, hk⟩
  ·rw [hk] at hl; cases hl
  ·rcases hk with ⟨_, hk⟩ | ⟨e1, u1, l1, l1', g1, g1', b1, b1', ha, hb, hlen, hgg, hbb, hp⟩
   ·exact absurd hl (hk _ _ _ _ _)
   ·obtain ⟨rfl, rfl, hl2, rfl, rfl⟩ := RowIs.uniq hb hl
    cases hl2
    obtain ⟨hq, h⟩ := h _ _ _ _ _ ha
    refine ⟨hq.imp_right fun k => Nat.le_trans k hgg, fun hg hp1 => ?_⟩
    have hg1 := okG_up hg hq hgg
    have hp0 : b1 = true → p = [] := fun h1 => (hbb h1).elim hp1 fun h2 => by
     cases p with
     | nil => rfl
     | cons q p =>
      simp only [okG, Nat.beq_eq] at hg hg1
      omega
    obtain ⟨e', u', k, v', h1, h2, h3⟩ := h hg1 hp0
    obtain ⟨k', hk', h1', h2'⟩ := hp p g e' u' k v' hg hg1 hp0 hp1 h1 h2
    exact ⟨e', u', k', v', h1', by rw [hr, hlen]; exact h2', h3⟩
 | .po id o, v, hk, h => by
  simp only [AVRep] at h ⊢
  intro hd
  rcases hk id (by simp [refs]) with hk | ⟨hr, hk⟩
  ·exact absurd hk hd
  ·rw [hr]
   refine h ?_
   rcases hk with ⟨hk, _⟩ | ⟨e1, u1, l1, l1', g1, g1', b1, b1', ha, _⟩
   ·exact hk
   ·intro hdd; rw [hdd] at ha; cases ha
 | .tp id, v, hk, h => by
  simp only [AVRep] at h ⊢
  intro hd
  rcases hk id (by simp [refs]) with hk | ⟨hr, hk⟩
  ·exact absurd hk hd
  ·rw [hr]
   refine h ?_
   rcases hk with ⟨hk, _⟩ | ⟨e1, u1, l1, l1', g1, g1', b1, b1', ha, _⟩
   ·exact hk
   ·intro hdd; rw [hdd] at ha; cases ha
 | .mp id, v, hk, h => by
  simp only [AVRep] at h ⊢
  intro hd
  rcases hk id (by simp [refs]) with hk | ⟨hr, hk⟩
  ·exact absurd hk hd
  ·rw [hr]
   refine h ?_
   rcases hk with ⟨hk, _⟩ | ⟨e1, u1, l1, l1', g1, g1', b1, b1', ha, _⟩
   ·exact hk
   ·intro hdd; rw [hdd] at ha; cases ha
 | .pe id p g i o, v, hk, h => by
  simp only [AVRep] at h ⊢
  intro e u l g' bb hl
  rcases hk id (by simp [refs]) with hk | ⟨hr, hk⟩
  ·rw [hk] at hl; cases hl
  ·rcases hk with ⟨_, hk⟩ | ⟨e1, u1, l1, l1', g1, g1', b1, b1', ha, hb, hlen, hgg, hbb, hp⟩
   ·exact absurd hl (hk _ _ _ _ _)
   ·obtain ⟨rfl, rfl, hl2, rfl, rfl⟩ := RowIs.uniq hb hl
    cases hl2
    obtain ⟨hq, h⟩ := h _ _ _ _ _ ha
    refine ⟨hq.imp_right fun k => Nat.le_trans k hgg, fun hg hp1 => ?_⟩
    have hg1 := okG_up hg hq hgg
    have hp0 : b1 = true → p = [] := fun h1 => (hbb h1).elim hp1 fun h2 => by
     cases p with
     | nil => rfl
     | cons q p =>
      simp only [okG, Nat.beq_eq] at hg hg1
      omega
    obtain ⟨e', u', k, a, cap, h1, h2, h3, h4⟩ := h hg1 hp0
    obtain ⟨k', hk', h1', h2'⟩ := hp p g e' u' k _ hg hg1 hp0 hp1 h1 h2
    exact ⟨e', u', k', a, cap, h1', by rw [hr, hlen, hk']; exact h2', by rw [hk']; exact h3, h4⟩
 | .pi u l i o, v, _, h => by simp only [AVRep, h0, hZ] at h ⊢; exact h
 | .fn f cs, v, hk, h => by
  simp only [AVRep] at h ⊢
  obtain ⟨vs, rfl, h⟩ := h
  exact ⟨vs, rfl, AVRepL.mono h0 hZ (by simpa [refs] using hk) h⟩
 | .px f cs k, v, hk, h => by
  simp only [AVRep] at h ⊢
  obtain ⟨b, t, ws, rfl, h1, h2, h3⟩ := h
  exact ⟨b, t, ws, rfl, by rw [h0]; exact h1, by rw [hZ]; exact h2, AVRepL.mono h0 hZ (by simpa [refs] using hk) h3⟩
 | .agg cs, v, hk, h => by
  simp only [AVRep] at h ⊢
  obtain ⟨vs, rfl, h⟩ := h
  exact ⟨vs, rfl, AVRepL.mono h0 hZ (by simpa [refs] using hk) h⟩
 | .tup cs, v, hk, h => by
  simp only [AVRep] at h ⊢
  obtain ⟨vs, rfl, h⟩ := h
  exact ⟨vs, rfl, AVRepL.mono h0 hZ (by simpa [refs] using hk) h⟩
theorem AVRepL.mono {M M' : Mem} (h0 : M'.w0 = M.w0) (hZ : M'.Z = M.Z) : ∀ {cs : List AV} {vs : List Value}, (∀ id ∈ refsL cs, Keeps M M' id) → AVRepL M cs vs → AVRepL M' cs vs
 | [], _, _, h => by simpa only [AVRepL] using h
 | c :: cs, _, hk, h => by
  simp only [AVRepL] at h ⊢
  obtain ⟨v, r, rfl, h1, h2⟩ := h
  refine ⟨v, r, rfl, AVRep.mono h0 hZ (fun id hm => hk id ?_) h1, AVRepL.mono h0 hZ (fun id hm => hk id ?_) h2⟩
  ·simp [refsL, hm]
  ·simp [refsL, hm]
end
theorem AVRepL.tk {M : Mem} : ∀ {cs : List AV} {vs : List Value} (k : Nat), AVRepL M cs vs → AVRepL M (cs.take k) (vs.take k)
 | _, _, 0, _ => by simp [AVRepL]
 | [], vs, k + 1, h => by simp only [AVRepL] at h; subst h; simp [AVRepL]
 | c :: cs, vs, k + 1, h => by
  simp only [AVRepL] at h
  obtain ⟨v, r, rfl, h1, h2⟩ := h
  simp only [List.take_succ_cons, AVRepL]
  exact ⟨_, _, rfl, h1, h2.tk k⟩
theorem AVRepL.dp {M : Mem} : ∀ {cs : List AV} {vs : List Value} (k : Nat), AVRepL M cs vs → AVRepL M (cs.drop k) (vs.drop k)
 | _, _, 0, h => h
 | [], vs, k + 1, h => by simp only [AVRepL] at h; subst h; simp [AVRepL]
 | c :: cs, vs, k + 1, h => by
  simp only [AVRepL] at h
  obtain ⟨v, r, rfl, h1, h2⟩ := h
  simp only [List.drop_succ_cons]
  exact h2.dp k
theorem AVRepL.ap {M : Mem} : ∀ {cs ds : List AV} {vs ws : List Value}, AVRepL M cs vs → AVRepL M ds ws → AVRepL M (cs ++ ds) (vs ++ ws)
 | [], _, _, _, h, h' => by simp only [AVRepL] at h; subst h; exact h'
 | c :: cs, _, _, _, h, h' => by
  simp only [AVRepL] at h
  obtain ⟨v, r, rfl, h1, h2⟩ := h
  simp only [List.cons_append, AVRepL]
  exact ⟨_, _, rfl, h1, h2.ap h'⟩
theorem AVRepL.nth {M : Mem} : ∀ {cs : List AV} {vs : List Value} {j : Nat} {c : AV}, AVRepL M cs vs → cs[j]? = some c → ∃ v, vs[j]? = some v ∧ AVRep M c v
 | [], _, j, c, _, hj => by simp at hj
 | x :: cs, vs, 0, c, h, hj => by
  simp only [AVRepL] at h
  obtain ⟨v, r, rfl, h1, _⟩ := h
  simp only [List.getElem?_cons_zero, Option.some.injEq] at hj
  subst hj
  exact ⟨v, rfl, h1⟩
 | x :: cs, vs, j + 1, c, h, hj => by
  simp only [AVRepL] at h
  obtain ⟨v, r, rfl, _, h⟩ := h
  obtain ⟨v', h1, h2⟩ := AVRepL.nth h (j := j) (c := c) (by simpa using hj)
  exact ⟨v', by simpa using h1, h2⟩
theorem AVRepL.er {M : Mem} {cs : List AV} {vs : List Value} (k : Nat) (h : AVRepL M cs vs) : AVRepL M (cs.eraseIdx k) (vs.eraseIdx k) := by
 rw [List.eraseIdx_eq_take_drop_succ, List.eraseIdx_eq_take_drop_succ]
 exact (h.tk k).ap (h.dp (k + 1))
theorem er_back {α : Type} {l : List α} {k : Nat} {v : α} (h : l[k]? = some v) : (l.eraseIdx k).take k ++ v :: (l.eraseIdx k).drop k = l := by
 obtain ⟨hk, rfl⟩ := List.getElem?_eq_some_iff.1 h
 rw [List.eraseIdx_eq_take_drop_succ, List.take_append_of_le_length (by simp; omega), List.drop_append_of_le_length (by simp; omega)]
 simp
 rw [List.take_take, Nat.min_self, List.take_append_drop]
theorem AVRepL.ins {M : Mem} {cs : List AV} {vs : List Value} {c : AV} {v : Value} (hc : AVRep M c v) (h : AVRepL M cs vs) : ∀ k, AVRepL M (insK c cs k) (insK v vs k)
 | 0 => h
 | k + 1 => (h.tk k).ap (by rw [AVRepL]; exact ⟨_, _, rfl, hc, h.dp k⟩)
theorem mem_ins {α : Type} {l : List α} {v x : α} : ∀ {k : Nat}, x ∈ insK v l k → x = v ∨ x ∈ l
 | 0, h => .inr h
 | k + 1, h => by
  rcases List.mem_append.1 h with h | h
  ·exact .inr (List.mem_of_mem_take h)
  ·rcases List.mem_cons.1 h with rfl | h
   ·exact .inl rfl
   ·exact .inr (List.mem_of_mem_drop h)
end Go.VM

namespace Go.VM
variable [Bor]
theorem az_sz : ∀ {u : U}, u.plain = true → u.az = u.sz
 | .bool, _ => rfl | .int _, _ => rfl | .str, _ => rfl | .sl _ _, _ => rfl | .unit, _ => rfl | .oth, _ => rfl | .bs _, _ => rfl | .pt _, _ => rfl
 | .tr u, h => by
  simp only [U.plain, Bool.and_eq_true] at h
  simp only [U.az, U.sz, az_sz h.1]
 | .ar _ _, h => by cases h
 | .pair a b, h => by
  simp only [U.plain, Bool.and_eq_true] at h
  simp only [U.az, U.sz, az_sz h.1, az_sz h.2]
theorem sw_true {α : Type} {b : Bool} {x y : α} (h : b = true) : sw b x y = x := by subst h; rfl
theorem sw_false {α : Type} {b : Bool} {x y : α} (h : b = false) : sw b x y = y := by subst h; rfl
theorem blt_false {a b : Nat} (h : ¬ a < b) : Nat.blt a b = false := by
 cases hb : Nat.blt a b with
 | false => rfl
 | true => exact absurd (by simpa [Nat.blt_eq] using hb) h
theorem beq_ff {a b : Nat} (h : a ≠ b) : Nat.beq a b = false := by
 cases hb : Nat.beq a b with
 | false => rfl
 | true => exact absurd (by simpa using hb) h
theorem slAt_rep {w : World} {o : Bool} : ∀ {u : U} {x : u.El} {cs F} {k : Nat} {e' u'} {l' : List u'.El}, u.plain = true → Rep w o u x cs F → slAt u x k = some ⟨e', u', l'⟩ →
  u'.plain = true ∧ ∃ c1 v' c2 F1 F' F2, cs = c1 ++ v' :: c2 ∧ c1.length = k ∧ F = F1 ++ F' ++ F2 ∧ (SlRep w o e' u'.sz (Rep w o u') l' v' F' ∨ Bare o e' l' v' F') ∧
   ∀ (w' : World) (o' : Bool) (m : List u'.El) v'' F'', (∀ b ∈ F1, w'.heap[b]? = w.heap[b]?) → (∀ b ∈ F2, w'.heap[b]? = w.heap[b]?) → (o' = true → o = true) → SlRep w' o' e' u'.sz (Rep w' o' u') m v'' F'' →
    ∃ y, setAt (.sl e' u') m u x k = some y ∧ Rep w' o' u y (c1 ++ v'' :: c2) (F1 ++ F'' ++ F2)
 | .bool, _, _, _, _, _, _, _, _, _, h => by simp [slAt] at h
 | .int _, _, _, _, _, _, _, _, _, _, h => by simp [slAt] at h
 | .str, _, _, _, _, _, _, _, _, _, h => by simp [slAt] at h
 | .unit, _, _, _, _, _, _, _, _, _, h => by simp [slAt] at h
 | .oth, _, _, _, _, _, _, _, _, _, h => by simp [slAt] at h
 | .bs _, _, _, _, _, _, _, _, _, _, h => by simp [slAt] at h
 | .pt _, _, _, _, _, _, _, _, _, _, h => by simp [slAt] at h
 | .tr u, x, cs, F, k, e', u', l', hp, hr, h => by
  simp only [U.plain, Bool.and_eq_true] at hp
  simp only [slAt] at h
  by_cases hk : k = u.az
  ·subst hk
   rw [sw_true (by simp)] at h
   cases h
   obtain ⟨c, d, G, H, rfl, rfl, h1, d', e, G', H', rfl, rfl, ⟨v, rfl, hs⟩, h3, h4⟩ := (rep_tr hp.2).1 hr
   subst h3; subst h4
   have hG := Rep.flat hp.2 h1
   subst hG
   refine ⟨by simp only [U.plain, hp.1, hp.2, Bool.and_self], c, v, [], [], G', [], rfl, by rw [Rep.length h1, az_sz hp.1], by simp, hs, ?_⟩
   intro w' o' m v'' F'' _ _ _ hm
   refine ⟨.node (x.val u.dflt) m, ?_, ?_⟩
   ·simp only [setAt]
    rw [dif_neg (by rintro ⟨_, h⟩; cases h), dif_pos (by simp)]
   ·rw [rep_tr hp.2]
    have h1' := Rep.move (w' := w') hp.2 h1
    have h1'' : Rep w' o' u (x.val u.dflt) c [] := by
     cases o' with
     | true => cases o with
      | true => exact h1'
      | false => exact Rep.own hp.2 h1'
     | false => cases o with
      | true => exact Rep.weak h1'
      | false => exact h1'
    exact ⟨c, [v''], [], [] ++ F'' ++ [], rfl, by simp, h1'', [v''], [], F'', [], by simp, by simp, ⟨v'', rfl, .inl hm⟩, rfl, rfl⟩
  ·rw [sw_false (beq_ff hk)] at h; cases h
 | .ar _ _, _, _, _, _, _, _, _, hp, _, _ => by cases hp
 | .sl e u, x, cs, F, k, e', u', l', hp, hr, h => by
  cases k with
  | succ k => simp [slAt] at h
  | zero =>
   simp only [slAt, Option.some.injEq] at h
   cases h
   obtain ⟨v, rfl, hs⟩ := hr
   refine ⟨hp, [], v, [], [], F, [], rfl, rfl, by simp, hs, ?_⟩
   intro w' o' m v'' F'' _ _ _ hm
   exact ⟨m, by simp [setAt], v'', rfl, .inl (by simpa using hm)⟩
 | .pair a b, x, cs, F, k, e', u', l', hp, hr, h => by
  obtain ⟨c, d, G, H, rfl, rfl, h1, h2⟩ := hr
  simp only [U.plain, Bool.and_eq_true] at hp
  have hz := az_sz hp.1
  have hlen := Rep.length h1
  by_cases hk : k < a.az
  ·simp only [slAt] at h
   rw [sw_true (by simpa [Nat.blt_eq] using hk)] at h
   obtain ⟨hpl, c1, v', c2, F1, F', F2, rfl, hl, rfl, hs, hset⟩ := slAt_rep hp.1 h1 h
   refine ⟨hpl, c1, v', c2 ++ d, F1, F', F2 ++ H, by simp, hl, by simp, hs, ?_⟩
   intro w' o' m v'' F'' hf1 hf2 ho hm
   obtain ⟨y, hy, hry⟩ := hset w' o' m v'' F'' hf1 (fun b hb => hf2 b (List.mem_append.2 (.inl hb))) ho hm
   refine ⟨(y, x.2), ?_, c1 ++ v'' :: c2, d, F1 ++ F'' ++ F2, H, by simp, by simp, hry, ?_⟩
   ·simp only [setAt]
    rw [dif_neg (by simp), sw_true (by simpa [Nat.blt_eq] using hk), hy]
   ·have := Rep.frame (fun b hb => hf2 b (List.mem_append.2 (.inr hb))) h2
    cases o' with
    | true => rw [ho rfl] at this; exact this
    | false => cases o with
     | true => exact Rep.weak this
     | false => exact this
  ·simp only [slAt] at h
   rw [sw_false (blt_false hk)] at h
   obtain ⟨hpl, c1, v', c2, F1, F', F2, rfl, hl, rfl, hs, hset⟩ := slAt_rep hp.2 h2 h
   refine ⟨hpl, c ++ c1, v', c2, G ++ F1, F', F2, by simp, by rw [List.length_append, hlen, hl]; omega, by simp, hs, ?_⟩
   intro w' o' m v'' F'' hf1 hf2 ho hm
   obtain ⟨y, hy, hry⟩ := hset w' o' m v'' F'' (fun b hb => hf1 b (List.mem_append.2 (.inr hb))) hf2 ho hm
   refine ⟨(x.1, y), ?_, c, c1 ++ v'' :: c2, G, F1 ++ F'' ++ F2, by simp, by simp, ?_, hry⟩
   ·simp only [setAt]
    rw [dif_neg (by simp), sw_false (blt_false hk), hy]
   ·have := Rep.frame (fun b hb => hf1 b (List.mem_append.2 (.inl hb))) h1
    cases o' with
    | true => rw [ho rfl] at this; exact this
    | false => cases o with
     | true => exact Rep.weak this
     | false => exact this
theorem cell_elem {w : World} {o : Bool} {u : U} {l : List u.El} {a : Addr} {c : Array Value} {t fz p m q G} (hs : a.spot = none) (hh : w.heap[a.block]? = some (.cells c t fz)) (hc : c.toList = p ++ m ++ q) (hp : p.length = a.off)
  (hr : RepL (Rep w o u) l m G) {i : Nat} (hi : i < l.length) {k : Nat} (hk : k < u.sz) : ∃ c1 c2 c3, m = c1 ++ c2 ++ c3 ∧ c1.length = i * u.sz ∧ c2.length = u.sz ∧ w.cell? (a.add (i * u.sz + k)) = c2[k]? := by
 obtain ⟨c1, c2, c3, F1, F2, F3, rfl, rfl, hl, hx, _⟩ := RepL.at (n := u.sz) (fun _ _ _ => Rep.length) u.dflt i hr hi
 have h2 := Rep.length hx
 refine ⟨c1, c2, c3, rfl, hl, h2, ?_⟩
 have hadd : ∀ n, (a.add n).block = a.block ∧ (a.add n).off = a.off + n ∧ (a.add n).spot = none := by
  intro n
  unfold Addr.add
  split
  ·rename_i h; subst h; exact ⟨rfl, rfl, hs⟩
  ·exact ⟨rfl, rfl, rfl⟩
 obtain ⟨ha, hb, hc'⟩ := hadd (i * u.sz + k)
 simp only [World.cell?, ha, hh, hb, hc', Option.isSome_none, Bool.false_eq_true, if_false]
 rw [← Array.getElem?_toList, hc, ← hp, ← hl]
 rw [show p ++ (c1 ++ c2 ++ c3) ++ q = (p ++ c1) ++ (c2 ++ (c3 ++ q)) from by simp]
 rw [show p.length + (c1.length + k) = (p ++ c1).length + k from by simp; omega]
 rw [List.getElem?_append_right (by omega), Nat.add_sub_cancel_left, List.getElem?_append_left (by omega)]
theorem lt_of_getElem? {α : Type} {l : List α} {i : Nat} {x : α} (h : l[i]? = some x) : i < l.length := (List.getElem?_eq_some_iff.1 h).1
theorem path_rep {w : World} : ∀ {p : List (Nat × Nat)} {e : Bool} {u : U} {l : List u.El} {v F} {e' u'} {k : List u'.El} {v'}, u.plain = true → SlRep w true e u.sz (Rep w true u) l v F → atP e u l p = some ⟨e', u', k⟩ → hdrAt w u l v p = some v' →
  u'.plain = true ∧ ∃ F1 F' F2, F = F1 ++ F' ++ F2 ∧ SlRep w true e' u'.sz (Rep w true u') k v' F' ∧
   ∀ (w' : World) (g : List u'.El → List u'.El) F'', (∀ b ∈ F1, w'.heap[b]? = w.heap[b]?) → (∀ b ∈ F2, w'.heap[b]? = w.heap[b]?) → (g k).length = k.length → SlRep w' true e' u'.sz (Rep w' true u') (g k) v' F'' →
    ∃ m, modP u' g e u l p = some m ∧ m.length = l.length ∧ SlRep w' true e u.sz (Rep w' true u) m v (F1 ++ F'' ++ F2)
 | [], e, u, l, v, F, e', u', k, v', hp, h, ha, hv => by
  simp only [atP, Option.some.injEq] at ha
  cases ha
  simp only [hdrAt, Option.some.injEq] at hv
  subst hv
  refine ⟨hp, [], F, [], by simp, h, ?_⟩
  intro w' g F'' _ _ hg hs
  exact ⟨g l, by simp [modP], hg, by simpa using hs⟩
 | (i, o) :: p, e, u, l, v, F, e', u', k, v', hp, h, ha, hv => by
  rcases h with ⟨rfl, rfl, rfl⟩ | ⟨a, cap, c, t, fz, pr, m, q, G, rfl, hsp, he, hcap, hh, hc, hpl, hr, rfl, ho⟩
  ·simp [hdrAt] at hv
  ·simp only [hdrAt] at hv
   split at hv
   case isFalse => cases hv
   case isTrue hi =>
    simp only [atP] at ha
    cases hsl : slAt u (l.getD i u.dflt) o with
    | none => rw [hsl] at ha; cases ha
    | some x =>
     obtain ⟨e1, u1, l1⟩ := x
     rw [hsl] at ha hv
     simp only at ha hv
     obtain ⟨c1, c2, c3, F1, F2, F3, rfl, rfl, hl1, hx, ht, hd, hset⟩ := RepL.at (n := u.sz) (fun _ _ _ => Rep.length) u.dflt i hr hi
     obtain ⟨hpl1, d1, v1, d2, G1, G', G2, rfl, hd1, rfl, hs1, hset1⟩ := slAt_rep hp hx hsl
     have hs1 := hs1.resolve_right bare_no
     have hlx := Rep.length hx
     have hcell : w.cell? (a.add (i * u.sz + o)) = some v1 := by
      obtain ⟨c1', c2', c3', hm, h1', h2', h3'⟩ := cell_elem hsp hh hc hpl hr hi (k := o) (by rw [← hlx, ← hd1]; simp)
      rw [h3']
      have e1 : c1 ++ (d1 ++ v1 :: d2 ++ c3) = c1' ++ (c2' ++ c3') := by simpa using hm
      obtain ⟨e2, e3⟩ := List.append_inj e1 (by rw [hl1, h1'])
      obtain ⟨e4, _⟩ := List.append_inj e3 (by rw [hlx, h2'])
      rw [← e4, ← hd1]
      simp
     rw [hcell] at hv
     simp only at hv
     obtain ⟨hpl', H1, H', H2, rfl, hs', hmod⟩ := path_rep hpl1 hs1 ha hv
     refine ⟨hpl', a.block :: (F1 ++ G1 ++ H1), H', H2 ++ G2 ++ F3, by simp, hs', ?_⟩
     intro w' g F'' hf1 hf2 hg hs''
     obtain ⟨m1, hm1, hml1, hsm1⟩ := hmod w' g F'' (fun b hb => hf1 b (by simp [hb])) (fun b hb => hf2 b (by simp [hb])) hg hs''
     obtain ⟨y, hy, hry⟩ := hset1 w' true m1 v1 _ (fun b hb => hf1 b (by simp [hb])) (fun b hb => hf2 b (by simp [hb])) (fun h => h) hsm1
     refine ⟨l.set i y, by simp only [modP, hsl, hm1, hy], by simp, .inr ⟨a, cap, c, t, fz, pr, _, q, F1 ++ (G1 ++ (H1 ++ F'' ++ H2) ++ G2) ++ F3, by simp, hsp, ?_, by simpa using hcap, ?_, hc, hpl, ?_, by simp, ho⟩⟩
     ·intro hx' hn
      have hz : (l.set i y).length = 0 := by rw [hn]; rfl
      rw [List.length_set] at hz
      omega
     ·rw [hf1 _ (by simp)]; exact hh
     ·have hset' := hset
      have hfr : RepL (Rep w' true u) (l.set i y) (c1 ++ (d1 ++ v1 :: d2) ++ c3) (F1 ++ (G1 ++ (H1 ++ F'' ++ H2) ++ G2) ++ F3) := by
       have ht' : RepL (Rep w' true u) (l.take i) c1 F1 := RepL.imp (fun _ _ _ hG => Rep.frame (fun b hb => hf1 b (by have := hG b hb; simp [this]))) ht
       have hd' : RepL (Rep w' true u) (l.drop (i + 1)) c3 F3 := RepL.imp (fun _ _ _ hG => Rep.frame (fun b hb => hf2 b (by have := hG b hb; simp [this]))) hd
       have := RepL.append ht' (m := y :: l.drop (i + 1)) (ds := (d1 ++ v1 :: d2) ++ c3) (G := (G1 ++ (H1 ++ F'' ++ H2) ++ G2) ++ F3) ⟨_, _, _, _, rfl, rfl, hry, hd'⟩
       rw [List.set_eq_take_append_cons_drop, if_pos hi]
       simpa using this
      exact hfr
theorem hdrAt_frame {w w' : World} : ∀ {p : List (Nat × Nat)} {e : Bool} {u : U} {l : List u.El} {v F} {e' u'} {k : List u'.El} {v'}, u.plain = true → SlRep w true e u.sz (Rep w true u) l v F → (∀ b ∈ F, w'.heap[b]? = w.heap[b]?) → atP e u l p = some ⟨e', u', k⟩ → hdrAt w u l v p = some v' → hdrAt w' u l v p = some v'
 | [], e, u, l, v, F, e', u', k, v', hp, h, _, ha, hv => by simpa [hdrAt] using hv
 | (i, o) :: p, e, u, l, v, F, e', u', k, v', hp, h, hb, ha, hv => by
  rcases h with ⟨rfl, rfl, rfl⟩ | ⟨a, cap, c, t, fz, pr, m, q, G, rfl, hsp, he, hcap, hh, hc, hpl, hr, rfl, ho⟩
  ·simp [hdrAt] at hv
  ·simp only [hdrAt] at hv ⊢
   split at hv
   case isFalse => cases hv
   case isTrue hi =>
    rw [if_pos hi]
    simp only [atP] at ha
    cases hsl : slAt u (l.getD i u.dflt) o with
    | none => rw [hsl] at ha; cases ha
    | some x =>
     obtain ⟨e1, u1, l1⟩ := x
     rw [hsl] at ha hv
     simp only at ha hv ⊢
     have hcell : w'.cell? (a.add (i * u.sz + o)) = w.cell? (a.add (i * u.sz + o)) := by
      have hbl : (a.add (i * u.sz + o)).block = a.block := by unfold Addr.add; split <;> rfl
      simp only [World.cell?, hbl, hb _ (List.mem_cons_self ..)]
     rw [hcell]
     cases hcv : w.cell? (a.add (i * u.sz + o)) with
     | none => rw [hcv] at hv; cases hv
     | some v1 =>
      rw [hcv] at hv
      simp only at hv ⊢
      obtain ⟨c1, c2, c3, F1, F2, F3, rfl, rfl, hl1, hx, ht, hd, hset⟩ := RepL.at (n := u.sz) (fun _ _ _ => Rep.length) u.dflt i hr hi
      obtain ⟨hpl1, d1, v1', d2, G1, G', G2, rfl, hd1, rfl, hs1, hset1⟩ := slAt_rep hp hx hsl
      have hs1 := hs1.resolve_right bare_no
      have hlx := Rep.length hx
      have hcell' : w.cell? (a.add (i * u.sz + o)) = some v1' := by
       obtain ⟨c1', c2', c3', hm, h1', h2', h3'⟩ := cell_elem hsp hh hc hpl hr hi (k := o) (by rw [← hlx, ← hd1]; simp)
       rw [h3']
       have e1 : c1 ++ (d1 ++ v1' :: d2 ++ c3) = c1' ++ (c2' ++ c3') := by simpa using hm
       obtain ⟨e2, e3⟩ := List.append_inj e1 (by rw [hl1, h1'])
       obtain ⟨e4, _⟩ := List.append_inj e3 (by rw [hlx, h2'])
       rw [← e4, ← hd1]
       simp
      rw [hcv] at hcell'
      cases hcell'
      exact hdrAt_frame hpl1 hs1 (fun b hm => hb b (by simp [hm])) ha hv
end Go.VM

namespace Go.VM
variable [Bor]
structure Cx where
 P : Program
 E : En
 nt : Nat
 np : Nat
 r0 : Nat → Option Addr × Nat
 n0 : Nat → Bool × U × Nat
def BldAt (W : World) (T t : Nat) (f : Bool) (b : Nat) (l : List Int) (F : List Nat) : Prop :=
 ∃ p v, W.heap[b]? = some (.cells #[p, v] T (0, 0)) ∧ (p = .pointer none ∨ p = .pointer (some ⟨b, 0, none⟩)) ∧ W.ownsRow 0 t 1 v l.length (l.map (Value.int .u8)) ∧ F = v.ownBlock.toList ∧ b ∉ F ∧ (f = true → v = .slice none 0 0)
def HolRep (w : World) (e : Bool) (u : U) (l : List u.El) (i o : Nat) (wc : U) (v : Value) (F : List Nat) : Prop :=
 u.plain = true ∧ wc.plain = true ∧ i < l.length ∧ ∃ a cap c t fz G c1 cj c3, v = .slice (some a) l.length cap ∧ a.spot = none ∧ a.off = 0 ∧ l.length ≤ cap ∧ w.heap[a.block]? = some (.cells c t fz) ∧
  (∀ j, j < c.size + (u.sz - 1) → ¬ (fz.1 ≤ j ∧ j < fz.2)) ∧ c.size = cap * u.sz ∧ cap ≤ maxLen ∧ F = a.block :: G ∧ c.toList = c1 ++ cj ++ c3 ∧ c1.length = i * u.sz + o ∧ cj.length = wc.sz ∧
  ∀ (W : World) (y : wc.El) d H x, (∀ b ∈ G, W.heap[b]? = w.heap[b]?) → Rep W true wc y d H → setAt wc y u (l.getD i u.dflt) o = some x →
   ∃ m q G', c1 ++ d ++ c3 = m ++ q ∧ RepL (Rep W true u) (l.set i x) m G' ∧ (∀ b ∈ G', b ∈ G ∨ b ∈ H) ∧ ((G ++ H).Nodup → G'.Nodup)
theorem HolRep.frame {w w' : World} {e : Bool} {u : U} {l : List u.El} {i o : Nat} {wc : U} {v : Value} {F : List Nat} (hf : ∀ b ∈ F, w'.heap[b]? = w.heap[b]?) (h : HolRep w e u l i o wc v F) : HolRep w' e u l i o wc v F := by
 obtain ⟨h1, h2, h3, a, cap, c, t, fz, G, c1, cj, c3, hv, hsp, ho, hl, hh, hfz, hcs, hcm, rfl, hc, hc1, hcj, hr⟩ := h
 refine ⟨h1, h2, h3, a, cap, c, t, fz, G, c1, cj, c3, hv, hsp, ho, hl, by rw [hf _ (List.mem_cons_self ..)]; exact hh, hfz, hcs, hcm, rfl, hc, hc1, hcj, ?_⟩
 intro W y d H x hW
 exact hr W y d H x fun b hb => (hW b hb).trans (hf b (List.mem_cons_of_mem _ hb))
def RootRep (M : Mem) (own : Nat → Option Nat) (id : Nat) : Root → Prop
 | .dead => True
 | .obj cs => ∃ b c t, (M.r id).1 = some ⟨b, 0, none⟩ ∧ M.w.heap[b]? = some (.cells c t (0, 0)) ∧ AVRepL M cs c.toList ∧ own b = some id
 | .arr e u l _ => u.plain = true ∧ ∃ F, SlRep M.w true e u.sz (Rep M.w true u) l (hdr (M.r id) l.length) F ∧ F.Nodup ∧ ∀ b ∈ F, own b = some id
 | .imm u x => ∃ a, (M.r id).1 = some a ∧ ImRow M.w0 M.Z u [x] a
 | .hol e u l g i o wc => ∃ F, HolRep M.w e u l i o wc (hdr (M.r id) l.length) F ∧ F.Nodup ∧ ∀ b ∈ F, own b = some id
 | .tre u t => u.plain = true ∧ u.flat = true ∧ ∃ F, Rep M.w true (.pt u) t [.pointer (M.r id).1] F ∧ F.Nodup ∧ ∀ b ∈ F, own b = some id
 | .mpt _ l => ∃ b es c, (M.r id).1 = some ⟨b, 0, none⟩ ∧ M.w.heap[b]? = some (.map es c) ∧ es.toList.map (fun e => (e.key, e.val)) = l.map (fun p => (Value.string p.1, Value.string p.2)) ∧ own b = some id
 | .bld T t f l => ∃ b F, (M.r id).1 = some ⟨b, 0, none⟩ ∧ BldAt M.w T t f b l F ∧ own b = some id ∧ ∀ x ∈ F, own x = some id
def GlSz (gl : List (Nat × TV)) (w : World) : Prop := ∀ g u x, lkN gl g = some ⟨u, x⟩ → ∃ cs t fz, w.heap[g]? = some (.cells cs t fz) ∧ cs.size = u.sz
structure Inv (X : Cx) (M : Mem) (t : List (Nat × AV)) (used : Nat → Prop) (own : Nat → Option Nat) (a : Act) : Prop where
 tm : ∀ i, AVRep M (lkT t i) (a.tmps.getD i undef)
 tn : a.tmps.size = X.nt
 df : a.defers = []
 rt : ∀ id, RootRep M own id (M.h id)
 ow : ∀ b id, own b = some id → b < M.w.heap.size ∧ ¬ M.Z b
 zf : ∀ b, M.Z b → M.w.heap[b]? = M.w0.heap[b]?
 zb : ∀ b, M.Z b → b < M.w0.heap.size
 sz : M.w0.heap.size ≤ M.w.heap.size
 os : M.w.os = M.w0.os
 tp : M.w.tape = M.w0.tape
 ot : M.w.output = M.w0.output
 ut : ∀ i, ∀ j ∈ refs (lkT t i), used j
 uo : ∀ id cs, M.h id = .obj cs → ∀ j ∈ refsL cs, used j
 ud : ∀ id, M.h id ≠ .dead → used id
 pin : ∀ j, j < X.np → M.r j = X.r0 j
 pl : ∀ j, j < X.np → ∀ e u l g b, RowIs (M.h j) e u l g b → X.n0 j = (e, u, l.length)
 pu : ∀ j, j < X.np → used j
 bo : BorOK M.w0
 bz : ∀ b, Bor.Z b → M.Z b
 gl : ∀ g u x, lkN X.E.gl g = some ⟨u, x⟩ → u.plain = true ∧ ImRow M.w0 M.Z u [x] ⟨g, 0, none⟩ ∨ ∃ n v, u = .ar n v ∧ v.plain = true ∧ ImRow M.w0 M.Z u [x] ⟨g, 0, none⟩
 gz : GlSz X.E.gl M.w0
theorem beq_false {a b : Nat} (h : a ≠ b) : Nat.beq a b = false := by
 cases hb : Nat.beq a b with
 | false => rfl
 | true => exact absurd (by simpa using hb) h
theorem lkT_put {t : List (Nat × AV)} {d : Nat} {v : AV} {i : Nat} : lkT (putT t (some d) v) i = if i = d then v else lkT t i := by
 simp only [putT, lkT]
 by_cases h : i = d
 ·subst h; rw [if_pos rfl, sw_true (by simp)]
 ·rw [if_neg h, sw_false (beq_false (Ne.symm h))]
theorem Inv.put {X : Cx} {M : Mem} {t used own a} (h : Inv X M t used own a) {dst : Option Nat} {c : AV} {v : Value} (hd : ∀ d, dst = some d → d < X.nt) (hv : AVRep M c v) (hu : ∀ j ∈ refs c, used j) :
  Inv X M (putT t dst c) used own (a.put dst v) := by
 cases dst with
 | none => exact h
 | some d =>
  refine { h with tm := ?_, tn := ?_, df := h.df, ut := ?_ }
  ·intro i
   rw [lkT_put]
   simp only [Act.put]
   by_cases hi : i = d
   ·subst hi
    rw [if_pos rfl]
    have := hd i rfl
    rw [← h.tn] at this
    simpa [Array.getD_eq_getD_getElem?, this] using hv
   ·rw [if_neg hi]
    have := h.tm i
    rw [show (a.tmps.setIfInBounds d v).getD i undef = a.tmps.getD i undef from by
     simp only [Array.getD_eq_getD_getElem?]
     rw [Array.getElem?_setIfInBounds_ne (Ne.symm hi)]]
    exact this
  ·simp only [Act.put, Array.size_setIfInBounds]; exact h.tn
  ·intro i j hj
   rw [lkT_put] at hj
   split at hj
   ·exact hu j hj
   ·exact h.ut i j hj
theorem Inv.grow {X : Cx} {M : Mem} {t used used' own a} (h : Inv X M t used own a) (hu : ∀ j, used j → used' j) : Inv X M t used' own a :=
 { h with ut := fun i j hj => hu j (h.ut i j hj), uo := fun id cs e j hj => hu j (h.uo id cs e j hj), ud := fun id hd => hu id (h.ud id hd), pu := fun j hj => hu j (h.pu j hj) }
theorem Inv.ev {X : Cx} {M : Mem} {t used own a} (h : Inv X M t used own a) (x : Operand) : AVRep M (evA X.E t x) (a.eval x) ∧ ∀ j ∈ refs (evA X.E t x), used j := by
 cases x with
 | tmp i => exact ⟨h.tm i, h.ut i⟩
 | const v =>
  refine ⟨?_, ?_⟩
  ·simp only [evA, Act.eval]
   unfold ofV
   split
   ·exact (by simp only [AVRep]; exact ⟨rfl, [_], [], rfl, ⟨rfl, rfl⟩, by simp⟩)
   ·exact (by simp only [AVRep]; exact ⟨rfl, [_], [], rfl, ⟨rfl, rfl⟩, by simp⟩)
   ·exact (by simp only [AVRep]; exact ⟨rfl, [_], [], rfl, ⟨rfl, rfl⟩, by simp⟩)
   ·simp only [AVRep]
   ·simp only [AVRep]
   ·simp only [AVRep]
   ·simp only [AVRep]
  ·simp only [evA]
   unfold ofV
   split <;> simp [refs]
 | func f => exact ⟨by simp only [evA, AVRep, Act.eval]; exact ⟨[], rfl, by simp only [AVRepL]⟩, by simp [evA, refs, refsL]⟩
 | global g =>
  simp only [evA]
  cases hg : lkN X.E.gl g with
  | none => exact ⟨by simp only [AVRep], by simp [refs]⟩
  | some x =>
   obtain ⟨u, x⟩ := x
   refine ⟨?_, by simp [refs]⟩
   simp only [AVRep, Act.eval]
   refine ⟨by simp, ⟨g, 0, none⟩, ?_, by simp [Addr.add]⟩
   rcases h.gl g u x hg with h | ⟨n, v, rfl, _, h⟩
   ·exact h.2
   ·exact h
theorem wp_value {P : Program} {o : Oper} {a : Act} {w w' : World} {v : Value} {next : Act → World → Prop} {Q : Exit → Act → World → Prop} (hr : (execOp a.eval o).run P w = .ok (.value v) w') (h : next (a.put o.dst v) w') : o.wp P a w next Q := by
 unfold Oper.wp; rw [hr]; exact h
theorem wp_skipped {P : Program} {o : Oper} {a : Act} {w w' : World} {next : Act → World → Prop} {Q : Exit → Act → World → Prop} (hr : (execOp a.eval o).run P w = .ok .skip w') (h : next (a.put o.dst undef) w') : o.wp P a w next Q := by
 unfold Oper.wp; rw [hr]; exact h
def lkU (up : Hp) (h : Nat → Root) (id : Nat) : Root := match up with | [] => h id | (i, r) :: e => sw (Nat.beq i id) r (lkU e h id)
theorem lkH_append (up h : Hp) : lkH (up ++ h) = lkU up (lkH h) := by
 funext id
 induction up with
 | nil => rfl
 | cons x up ih => obtain ⟨i, r⟩ := x; simp only [List.cons_append, lkH, lkU, ih]
def OpOK (X : Cx) (base : Nat) (op : Op) (vs : List AV) (h : Hp) (v : AV) (up : Hp) : Prop :=
 ∀ (o : Oper) (M : Mem) (t : List (Nat × AV)) (used : Nat → Prop) (own : Nat → Option Nat) (a : Act) (next : Act → World → Prop) (Q : Exit → Act → World → Prop),
  o.op = op → (∀ d, o.dst = some d → d < X.nt) → op.operands.toList.map (evA X.E t) = vs → (∀ id, lkH h id ≠ .dead → M.h id = lkH h id) → Inv X M t used own a → (∀ j, j < 64 → ¬ used (base + j)) →
  (∀ M' own' a', M'.w0 = M.w0 → M'.Z = M.Z → M'.h = lkU up M.h → Inv X M' (putT t o.dst v) (fun j => used j ∨ base ≤ j ∧ j < base + 64) own' a' → next a' M'.w) → o.wp X.P a M.w next Q
def pchain (t : Nat) : List PanicEntry := [{ v := .iface t (.agg #[]), recovered := false }]
def OpPan (X : Cx) (base : Nat) (op : Op) (vs : List AV) (h : Hp) (pt : Nat) (up : Hp) : Prop :=
 ∀ (o : Oper) (M : Mem) (t : List (Nat × AV)) (used : Nat → Prop) (own : Nat → Option Nat) (a : Act) (next : Act → World → Prop) (Q : Exit → Act → World → Prop),
  o.op = op → (∀ d, o.dst = some d → d < X.nt) → op.operands.toList.map (evA X.E t) = vs → (∀ id, lkH h id ≠ .dead → M.h id = lkH h id) → Inv X M t used own a → (∀ j, j < 64 → ¬ used (base + j)) →
  (∀ M' own', M'.w0 = M.w0 → M'.Z = M.Z → M'.h = lkU up M.h → Inv X M' t (fun j => used j ∨ base ≤ j ∧ j < base + 64) own' a → Q (.panic (pchain pt)) a M'.w) → o.wp X.P a M.w next Q
theorem OpOK.pure {X : Cx} {base : Nat} {op : Op} {vs : List AV} {h : Hp} {v : AV} (hr : ∀ j ∈ refs v, ∃ c ∈ vs, j ∈ refs c)
  (hv : ∀ (o : Oper) (M : Mem) (t : List (Nat × AV)) (used : Nat → Prop) (own : Nat → Option Nat) (a : Act), o.op = op → op.operands.toList.map (evA X.E t) = vs → (∀ id, lkH h id ≠ .dead → M.h id = lkH h id) → Inv X M t used own a →
   ∃ v', AVRep M v v' ∧ (execOp a.eval o).run X.P M.w = .ok (.value v') M.w) : OpOK X base op vs h v [] := by
 intro o M t used own a next Q ho hd hvs hh hi hb hn
 obtain ⟨v', h1, h2⟩ := hv o M t used own a ho hvs hh hi
 refine wp_value h2 (hn M own _ rfl rfl rfl ?_)
 refine (hi.grow fun j hj => .inl hj).put hd h1 fun j hj => ?_
 obtain ⟨c, hc, hj⟩ := hr j hj
 rw [← hvs] at hc
 obtain ⟨x, _, rfl⟩ := List.mem_map.1 hc
 exact .inl ((hi.ev x).2 j hj)
end Go.VM

namespace Go.VM
variable [Bor]
def ZeroC : U → List Value → Prop
 | .bool, cs => cs = [.bool false] | .int k, cs => cs = [.int k 0] | .str, cs => cs = [.string ByteArray.empty] | .sl _ _, cs => cs = [.slice none 0 0] | .unit, cs => cs = []
 | .pair a b, cs => ∃ c d, cs = c ++ d ∧ ZeroC a c ∧ ZeroC b d
 | .ar n u, cs => ∃ c, ZeroC u c ∧ cs = (List.replicate n c).flatten
 | .oth, cs => ∃ v, cs = [v] ∧ v.oneCell' = true
 | .bs _, cs => cs = [.slice none 0 0]
 | .pt _, cs => cs = [.pointer none]
 | .tr u, cs => ∃ c, cs = c ++ [.slice none 0 0] ∧ ZeroC u c
def emptyB (s : ByteArray) : Bool := match s with | ⟨a⟩ => a.size == 0
def zeroB : U → List Value → Option (List Value)
 | .bool, .bool false :: r => some r
 | .int k, .int k' n :: r => if k = k' ∧ n = 0 then some r else none
 | .str, .string s :: r => if emptyB s then some r else none
 | .sl _ _, .slice none 0 0 :: r => some r
 | .bs _, .slice none 0 0 :: r => some r
 | .pt _, .pointer none :: r => some r
 | .tr u, r => match zeroB u r with | some (.slice none 0 0 :: r) => some r | _ => none
 | .unit, r => some r
 | .pair a b, r => match zeroB a r with | some r => zeroB b r | none => none
 | .oth, v :: r => match v.oneCell' with | true => some r | false => none
 | _, _ => none
theorem zeroB_ok : ∀ {u : U} {l r : List Value}, zeroB u l = some r → ∃ c, l = c ++ r ∧ ZeroC u c
 | .bool, l, r, h => by
  unfold zeroB at h; split at h <;> simp_all [ZeroC]
 | .int k, l, r, h => by
  unfold zeroB at h; split at h <;> simp_all [ZeroC]
 | .str, l, r, h => by
  cases l with
  | nil => simp [zeroB] at h
  | cons v l =>
   cases v with
   | string s =>
    simp only [zeroB] at h
    split at h
    ·rename_i he
     cases h
     refine ⟨[.string s], rfl, ?_⟩
     obtain ⟨⟨a⟩⟩ := s
     have : a = [] := by simpa [emptyB] using he
     subst this; rfl
    ·cases h
   | _ => simp [zeroB] at h
 | .sl e u, l, r, h => by
  unfold zeroB at h; split at h <;> simp_all [ZeroC]
 | .bs u, l, r, h => by
  unfold zeroB at h; split at h <;> simp_all [ZeroC]
 | .pt u, l, r, h => by
  unfold zeroB at h; split at h <;> simp_all [ZeroC]
 | .tr u, l, r, h => by
  simp only [zeroB] at h
  split at h
  case h_2 => cases h
  case h_1 r' hr =>
   cases h
   obtain ⟨c, rfl, h1⟩ := zeroB_ok hr
   exact ⟨c ++ [.slice none 0 0], by simp, c, rfl, h1⟩
 | .unit, l, r, h => by
  simp only [zeroB, Option.some.injEq] at h; subst h; exact ⟨[], rfl, rfl⟩
 | .oth, l, r, h => by
  cases l with
  | nil => simp [zeroB] at h
  | cons v l =>
   simp only [zeroB] at h
   split at h
   ·rename_i hv
    simp only [Option.some.injEq] at h; subst h; exact ⟨[v], rfl, v, rfl, hv⟩
   ·cases h
 | .ar n u, l, r, h => by simp [zeroB] at h
 | .pair a b, l, r, h => by
  simp only [zeroB] at h
  cases ha : zeroB a l with
  | none => rw [ha] at h; cases h
  | some l' =>
   rw [ha] at h
   obtain ⟨c, rfl, h1⟩ := zeroB_ok ha
   obtain ⟨d, rfl, h2⟩ := zeroB_ok h
   exact ⟨c ++ d, by simp, c, d, rfl, h1, h2⟩
def ZeroL : Nat → U → List Value → Prop
 | 0, _, l => l = []
 | n + 1, u, l => ∃ c d, l = c ++ d ∧ ZeroC u c ∧ ZeroL n u d
def zeroLB : Nat → U → List Value → Bool
 | 0, _, l => l.isEmpty
 | n + 1, u, l => match zeroB u l with | some r => zeroLB n u r | none => false
theorem zeroLB_ok : ∀ {n : Nat} {u : U} {l : List Value}, zeroLB n u l = true → ZeroL n u l
 | 0, _, l, h => by simpa [zeroLB, ZeroL] using h
 | n + 1, u, l, h => by
  simp only [zeroLB] at h
  split at h
  ·rename_i r hr
   obtain ⟨c, hc, hz⟩ := zeroB_ok hr
   exact ⟨c, r, hc, hz, zeroLB_ok h⟩
  ·cases h
def aggD : TypeDesc → Bool | .struct _ | .array _ _ => true | _ => false
structure ElOK (P : Program) (t : TypeId) (u : U) : Prop where
 i : ∃ i z, P.info? t = some i ∧ i.size = u.sz ∧ i.bytes ≤ 140000 ∧ i.zero = some z ∧ ZeroC u z.cells.toList
 pos : 0 < u.sz
 ag : ∃ d, P.underlying t = some d ∧ aggD d = u.isAgg
def FieldsOK (P : Program) : U → List Field → Nat → Prop
 | .unit, [], _ => True
 | .pair a b, f :: r, o => f.offset = o ∧ (∃ i, P.info? f.type = some i ∧ i.size = a.sz) ∧ FieldsOK P b r (o + a.sz)
 | _, _, _ => False
def ShapeOK (P : Program) : U → TypeDesc → Prop
 | .bool, d => d = .bool | .int k, d => d = .int k | .str, d => d = .string
 | .sl _ u, d => ∃ el, d = .slice el ∧ ElOK P el u ∧ (u = .int .u8 → P.underlying el = some (.int .u8))
 | .ar n u, d => ∃ el, d = .array n el ∧ ElOK P el u
 | .unit, d => ∃ fs, d = .struct fs ∧ FieldsOK P .unit fs.toList 0
 | .pair a b, d => ∃ fs, d = .struct fs ∧ FieldsOK P (.pair a b) fs.toList 0
 | .tr u, d => ∃ fs, d = .struct fs ∧ FieldsOK P (U.nd false u) fs.toList 0
 | .pt _, d => ∃ el, d = .pointer el
 | .oth, d => (∀ fs, d ≠ .struct fs) ∧ (∀ n el, d ≠ .array n el)
 | .bs _, _ => False
def cmpU : U → Bool | .pair (.int _) b | .pair .str b | .pair .bool b => cmpU b | .unit => true | _ => false
def basicB : U → TypeDesc → Bool | .int k, .int k' => decide (k = k') | .int _, _ => false | .str, .string => true | .str, _ => false | .bool, .bool => true | .bool, _ => false | _, _ => true
def XF (P : Program) : U → List Field → Prop
 | .pair a b, f :: r => (∃ d, P.underlying f.type = some d ∧ aggD d = a.isAgg ∧ basicB a d = true) ∧ XF P b r
 | .tr u, f :: r => (∃ d, P.underlying f.type = some d ∧ aggD d = u.isAgg ∧ basicB u d = true) ∧ ∀ g ∈ r, ∃ d, P.underlying g.type = some d ∧ aggD d = false
 | _, _ => True
def xfB (P : Program) : U → List Field → Bool
 | .pair a b, f :: r => (match P.underlying f.type with | some d => (aggD d == a.isAgg) && basicB a d | none => false) && xfB P b r
 | .tr u, f :: r => (match P.underlying f.type with | some d => (aggD d == u.isAgg) && basicB u d | none => false) && r.all (fun g => match P.underlying g.type with | some d => (aggD d == false) | none => false)
 | _, _ => true
def XOK (P : Program) (t : TypeId) (u : U) : Prop := ∀ fs, P.underlying t = some (.struct fs) → XF P u fs.toList ∧ (cmpU u = true → (∀ f ∈ fs.toList, f.name ≠ "_") ∧ P.stoodInHeld t = false ∧ P.eqGuardType P.depth t = false)
def xB (P : Program) (t : TypeId) (u : U) : Bool := match P.underlying t with
 | some (.struct fs) => xfB P u fs.toList && (!cmpU u || (fs.toList.all (fun f => f.name != "_") && !P.stoodInHeld t && !P.eqGuardType P.depth t))
 | _ => true
theorem xfB_ok {P : Program} : ∀ {u : U} {fs : List Field}, xfB P u fs = true → XF P u fs
 | .pair a b, f :: r, h => by
  simp only [xfB, Bool.and_eq_true] at h
  obtain ⟨h1, h2⟩ := h
  split at h1
  case h_2 => cases h1
  case h_1 d hd =>
   simp only [Bool.and_eq_true, beq_iff_eq] at h1
   exact ⟨⟨d, hd, h1.1, h1.2⟩, xfB_ok h2⟩
 | .tr u, f :: r, h => by
  simp only [xfB, Bool.and_eq_true] at h
  obtain ⟨h1, h2⟩ := h
  split at h1
  case h_2 => cases h1
  case h_1 d hd =>
   simp only [Bool.and_eq_true, beq_iff_eq] at h1
   refine ⟨⟨d, hd, h1.1, h1.2⟩, fun g hg => ?_⟩
   have h2 := List.all_eq_true.1 h2 g hg
   split at h2
   case h_2 => cases h2
   case h_1 d' hd' => exact ⟨d', hd', by simpa using h2⟩
 | .tr _, [], _ => trivial
 | .pt _, _, _ => trivial
 | .pair _ _, [], _ => trivial
 | .unit, _, _ => trivial
 | .bool, _, _ => trivial | .int _, _, _ => trivial | .str, _, _ => trivial | .sl _ _, _, _ => trivial | .ar _ _, _, _ => trivial | .oth, _, _ => trivial | .bs _, _, _ => trivial
theorem xB_ok {P : Program} {t : TypeId} {u : U} (h : xB P t u = true) : XOK P t u := by
 intro fs hfs
 rw [xB, hfs] at h
 simp only [Bool.and_eq_true, Bool.or_eq_true, Bool.not_eq_true', List.all_eq_true, bne_iff_ne] at h
 refine ⟨xfB_ok h.1, fun hc => ?_⟩
 rcases h.2 with h2 | h2
 ·rw [hc] at h2; cases h2
 ·exact ⟨h2.1.1, h2.1.2, h2.2⟩
def bldB (P : Program) (t : TypeId) (u : U) : Bool := !isBld u || (match P.info? t with | some i => (match i.zero with | some z => (match z.cells.toList with | [.pointer none, .slice none 0 0] => true | _ => false) | none => false) | none => false)
theorem bldB_ok {P : Program} {t : TypeId} {u : U} (h : bldB P t u = true) (hu : isBld u = true) : ∃ i z, P.info? t = some i ∧ i.zero = some z ∧ z.cells = #[.pointer none, .slice none 0 0] := by
 rw [bldB, hu] at h
 simp only [Bool.not_true, Bool.false_or] at h
 split at h
 case h_2 => cases h
 case h_1 i hi =>
  split at h
  case h_2 => cases h
  case h_1 z hz =>
   split at h
   case h_2 => cases h
   case h_1 hc => exact ⟨i, z, hi, hz, Array.toList_inj.1 hc⟩
structure TyOK (P : Program) (t : TypeId) (u : U) : Prop where
 d : ∃ d, P.underlying t = some d ∧ ShapeOK P u d
 i : ∃ i, P.info? t = some i ∧ i.size = u.sz
 z : (∀ n v, u ≠ .ar n v) → ∃ i z, P.info? t = some i ∧ i.zero = some z ∧ ZeroC u z.cells.toList ∧ (u.isAgg = true → z = .agg z.cells) ∧ (u.isAgg = false → z.cells = #[z])
 za : ∀ n v, u = .ar n v → ∃ i z, P.info? t = some i ∧ i.zero = some z ∧ ZeroL n v z.cells.toList
 g : u.good = true
 x : XOK P t u
 bz : isBld u = true → ∃ i z, P.info? t = some i ∧ i.zero = some z ∧ z.cells = #[.pointer none, .slice none 0 0]
def elB (P : Program) (t : TypeId) (u : U) : Bool := match P.info? t with
 | some i => (match P.underlying t with | some d => aggD d == u.isAgg | none => false) && i.size == u.sz && decide (i.bytes ≤ 140000) && decide (0 < u.sz) && (match i.zero with | some z => (match zeroB u z.cells.toList with | some [] => true | _ => false) | none => false)
 | none => false
def fieldsB (P : Program) : U → List Field → Nat → Bool
 | .unit, [], _ => true
 | .pair a b, f :: r, o => f.offset == o && (match P.info? f.type with | some i => i.size == a.sz | none => false) && fieldsB P b r (o + a.sz)
 | _, _, _ => false
def shapeB (P : Program) : U → TypeDesc → Bool
 | .bool, .bool => true | .int k, .int k' => decide (k = k') | .str, .string => true
 | .sl _ u, .slice el => elB P el u && (decide (u ≠ .int .u8) || (match P.underlying el with | some (.int .u8) => true | _ => false))
 | .ar n u, .array m el => n == m && elB P el u
 | .unit, .struct fs => fieldsB P .unit fs.toList 0
 | .pair a b, .struct fs => fieldsB P (.pair a b) fs.toList 0
 | .tr u, .struct fs => fieldsB P (U.nd false u) fs.toList 0
 | .pt _, .pointer _ => true
 | .oth, .struct _ | .oth, .array .. => false
 | .oth, _ => true
 | _, _ => false
def isAggV : Value → Bool | .agg _ | .tuple _ => true | _ => false
def tyB (P : Program) (t : TypeId) (u : U) : Bool :=
 u.good && (xB P t u && bldB P t u) && (match P.underlying t, P.info? t with
  | some d, some i => shapeB P u d && i.size == u.sz && ((match u, i.zero with | .ar n v, some z => zeroLB n v z.cells.toList | _, _ => false) || (match i.zero with | some z => (match zeroB u z.cells.toList with | some [] => true | _ => false) && (if u.isAgg then (match z with | .agg _ => true | _ => false) else !isAggV z) | none => false))
  | _, _ => false)
theorem elB_ok {P : Program} {t : TypeId} {u : U} (h : elB P t u = true) : ElOK P t u := by
 unfold elB at h
 split at h
 case h_2 => cases h
 case h_1 i hi =>
  simp only [Bool.and_eq_true, beq_iff_eq, decide_eq_true_eq] at h
  obtain ⟨⟨⟨⟨h0, h1⟩, h2⟩, h3⟩, h4⟩ := h
  have hag : ∃ d, P.underlying t = some d ∧ aggD d = u.isAgg := by
   split at h0
   ·rename_i d hd; exact ⟨d, hd, by simpa using h0⟩
   ·cases h0
  split at h4
  case h_2 => cases h4
  case h_1 z hz =>
   split at h4
   case h_2 => cases h4
   case h_1 hb =>
    obtain ⟨c, hc, hz'⟩ := zeroB_ok hb
    rw [List.append_nil] at hc
    exact ⟨⟨i, z, hi, h1, h2, hz, hc ▸ hz'⟩, h3, hag⟩
theorem fieldsB_ok {P : Program} : ∀ {u : U} {fs : List Field} {o : Nat}, fieldsB P u fs o = true → FieldsOK P u fs o
 | .unit, [], _, _ => trivial
 | .unit, _ :: _, _, h => by simp [fieldsB] at h
 | .pair a b, f :: r, o, h => by
  simp only [fieldsB, Bool.and_eq_true, beq_iff_eq] at h
  obtain ⟨⟨h1, h2⟩, h3⟩ := h
  split at h2
  case h_2 => cases h2
  case h_1 i hi => exact ⟨h1, ⟨i, hi, by simpa using h2⟩, fieldsB_ok h3⟩
 | .pair _ _, [], _, h => by simp [fieldsB] at h
 | .bool, _, _, h => by simp [fieldsB] at h
 | .int _, _, _, h => by simp [fieldsB] at h
 | .str, _, _, h => by simp [fieldsB] at h
 | .sl _ _, _, _, h => by simp [fieldsB] at h
 | .ar _ _, _, _, h => by simp [fieldsB] at h
 | .oth, _, _, h => by simp [fieldsB] at h
 | .bs _, _, _, h => by simp [fieldsB] at h
 | .pt _, _, _, h => by simp [fieldsB] at h
 | .tr _, _, _, h => by simp [fieldsB] at h
theorem shapeB_ok {P : Program} {u : U} {d : TypeDesc} (h : shapeB P u d = true) : ShapeOK P u d := by
 unfold shapeB at h
 split at h
 ·rfl
 ·simp only [decide_eq_true_eq] at h; subst h; rfl
 ·rfl
 ·rename_i e u el
  simp only [Bool.and_eq_true, Bool.or_eq_true, decide_eq_true_eq] at h
  refine ⟨el, rfl, elB_ok h.1, fun hu => ?_⟩
  rcases h.2 with h | h
  ·exact absurd hu h
  ·split at h
   ·assumption
   ·cases h
 ·rename_i n u m el
  simp only [Bool.and_eq_true, beq_iff_eq] at h
  obtain ⟨rfl, h⟩ := h
  exact ⟨el, rfl, elB_ok h⟩
 ·exact ⟨_, rfl, fieldsB_ok h⟩
 ·exact ⟨_, rfl, fieldsB_ok h⟩
 ·exact ⟨_, rfl, fieldsB_ok h⟩
 ·exact ⟨_, rfl⟩
 ·cases h
 ·cases h
 ·rename_i h1 h2
  exact ⟨fun fs e => h1 fs e, fun n el e => h2 n el e⟩
 ·cases h
theorem tyB_ok {P : Program} {t : TypeId} {u : U} (h : tyB P t u = true) : TyOK P t u := by
 unfold tyB at h
 simp only [Bool.and_eq_true] at h
 obtain ⟨⟨hg, hx, hbz⟩, h⟩ := h
 split at h
 case h_2 => cases h
 case h_1 d i hd hi =>
  simp only [Bool.and_eq_true, beq_iff_eq, Bool.or_eq_true, decide_eq_true_eq] at h
  obtain ⟨⟨h1, h2⟩, h3⟩ := h
  refine ⟨⟨d, hd, shapeB_ok h1⟩, ⟨i, hi, h2⟩, fun hn => ?_, fun n v hu => ?_, hg, xB_ok hx, bldB_ok hbz⟩
  case refine_2 =>
   subst hu
   rcases h3 with h3 | h3
   ·split at h3
    ·rename_i hz
     rename_i n' v' z' heq
     cases heq
     exact ⟨i, _, hi, hz, zeroLB_ok h3⟩
    ·cases h3
   ·split at h3
    ·simp [zeroB] at h3
    ·cases h3
  rcases h3 with h3 | h3
  ·cases u <;> first | exact absurd rfl (hn _ _) | cases h3
  ·split at h3
   case h_2 => cases h3
   case h_1 z hz =>
    simp only [Bool.and_eq_true] at h3
    obtain ⟨h3, h4⟩ := h3
    split at h3
    case h_2 => cases h3
    case h_1 hb =>
     obtain ⟨c, hc, hz'⟩ := zeroB_ok hb
     rw [List.append_nil] at hc
     refine ⟨i, z, hi, hz, hc ▸ hz', fun ha => ?_, fun ha => ?_⟩
     ·rw [if_pos ha] at h4
      cases z <;> first | rfl | cases h4
     ·rw [if_neg (by simp [ha])] at h4
      cases z <;> first | rfl | cases h4
end Go.VM

namespace Go.VM
variable [Bor]
open Go.RowKit
def Env' (X : Cx) : Prop := ∀ t u, lkN X.E.ty t = some u → TyOK X.P t u
theorem cd_some {E : En} {ρ : Type} {t : Nat} {K : U → Option ρ} {y : ρ} (h : E.cd t K = some y) : ∃ u, lkN E.ty t = some u ∧ K u = some y := by
 unfold En.cd at h
 split at h
 ·exact ⟨_, by assumption, h⟩
 ·cases h
theorem cond_some {ρ : Type} {b : Bool} {x y : Option ρ} {r : ρ} (h : cond b x y = some r) : b = true ∧ x = some r ∨ b = false ∧ y = some r := by
 cases b
 ·exact .inr ⟨rfl, h⟩
 ·exact .inl ⟨rfl, h⟩
theorem cond_none {ρ : Type} {b : Bool} {x : Option ρ} {r : ρ} (h : cond b x none = some r) : b = true ∧ x = some r := by
 rcases cond_some h with h | ⟨_, h⟩
 ·exact h
 ·cases h
theorem sw_some {ρ : Type} {b : Bool} {x : Option ρ} {r : ρ} (h : sw b x none = some r) : b = true ∧ x = some r := by
 cases b
 ·cases h
 ·exact ⟨rfl, h⟩
theorem sw_some' {ρ : Type} {b : Bool} {x : Option ρ} {r : ρ} (h : sw b none x = some r) : b = false ∧ x = some r := by
 cases b
 ·exact ⟨rfl, h⟩
 ·cases h
theorem sw_or {ρ : Type} {b : Bool} {x z : Option ρ} {r : ρ} (h : sw b x z = some r) : b = true ∧ x = some r ∨ b = false ∧ z = some r := by
 cases b
 ·exact .inr ⟨rfl, h⟩
 ·exact .inl ⟨rfl, h⟩
theorem im_int {M : Mem} {k n v} (h : AVRep M (.im (.int k) n) v) : v = .int k n := by
 simp only [AVRep, valC] at h
 obtain ⟨_, cs, F, hv, ⟨rfl, _⟩, _⟩ := h
 exact hv
theorem im_bool {M : Mem} {b v} (h : AVRep M (.im .bool b) v) : v = .bool b := by
 simp only [AVRep, valC] at h
 obtain ⟨_, cs, F, hv, ⟨rfl, _⟩, _⟩ := h
 exact hv
theorem im_str {M : Mem} {b v} (h : AVRep M (.im .str b) v) : v = .string b := by
 simp only [AVRep, valC] at h
 obtain ⟨_, cs, F, hv, ⟨rfl, _⟩, _⟩ := h
 exact hv
theorem mk_int {M : Mem} {k n} : AVRep M (.im (.int k) n) (.int k n) := by simp only [AVRep, valC]; exact ⟨rfl, [_], [], rfl, ⟨rfl, rfl⟩, by simp⟩
theorem mk_bool {M : Mem} {b} : AVRep M (.im .bool b) (.bool b) := by simp only [AVRep, valC]; exact ⟨rfl, [_], [], rfl, ⟨rfl, rfl⟩, by simp⟩
theorem mk_str {M : Mem} {b} : AVRep M (.im .str b) (.string b) := by simp only [AVRep, valC]; exact ⟨rfl, [_], [], rfl, ⟨rfl, rfl⟩, by simp⟩
abbrev Good (X : Cx) {ρ : Type} (base : Nat) (op : Op) (vs : List AV) (h : Hp) (K : AV → Hp → Option ρ) (y : ρ) : Prop := ∃ v up, K v up = some y ∧ OpOK X base op vs h v up
abbrev GoodP (X : Cx) {ρ : Type} (base : Nat) (op : Op) (vs : List AV) (h : Hp) (PK : Nat → Hp → Option ρ) (K : AV → Hp → Option ρ) (y : ρ) : Prop := Good X base op vs h K y ∨ ∃ t up, PK t up = some y ∧ OpPan X base op vs h t up
theorem one_some {ρ : Type} {K : AV → Hp → Option ρ} {x : Option AV} {y : ρ} (h : (match x with | some v => K v [] | none => none) = some y) : ∃ v, x = some v ∧ K v [] = some y := by
 cases x with
 | none => cases h
 | some v => exact ⟨v, rfl, h⟩
section
variable {X : Cx} {ρ : Type} {base : Nat} {h : Hp} {K : AV → Hp → Option ρ} {y : ρ}
theorem map1 {f : Operand → AV} {x : Operand} {c : AV} (h : (#[x] : Array Operand).toList.map f = [c]) : f x = c := by simpa using h
theorem map2 {f : Operand → AV} {x z : Operand} {c d : AV} (h : (#[x, z] : Array Operand).toList.map f = [c, d]) : f x = c ∧ f z = d := by simpa using h
theorem map3 {f : Operand → AV} {x z u : Operand} {c d e : AV} (h : (#[x, z, u] : Array Operand).toList.map f = [c, d, e]) : f x = c ∧ f z = d ∧ f u = e := by simpa using h
theorem move_ok {x : Operand} {op : Op} (hop : op = .move x ∨ op = .assign x) {c : AV} (hy : K c [] = some y) : Good X base op [c] h K y := by
 refine ⟨c, [], hy, OpOK.pure (fun j hj => ⟨c, by simp, hj⟩) ?_⟩
 intro o M t used own a ho hvs _ hi
 have hx : op.operands = #[x] := by rcases hop with rfl | rfl <;> rfl
 rw [hx] at hvs
 have := (hi.ev x).1
 rw [map1 hvs] at this
 refine ⟨_, this, ?_⟩
 rcases hop with rfl | rfl <;> simp [execOp, ho]
theorem pick_ok {c a b : Operand} {x : Bool} {p q : AV} (hy : cond x (K p []) (K q []) = some y) : Good X base (.pick c a b) [.im .bool x, p, q] h K y := by
 refine ⟨if x then p else q, [], ?_, OpOK.pure (fun j hj => ⟨if x then p else q, by cases x <;> simp, hj⟩) ?_⟩
 ·cases x <;> exact hy
 ·intro o M t used own ac ho hvs _ hi
  obtain ⟨h1, h2, h3⟩ := map3 hvs
  have hc := (hi.ev c).1
  have ha := (hi.ev a).1
  have hb := (hi.ev b).1
  rw [h1] at hc; rw [h2] at ha; rw [h3] at hb
  have hc := im_bool hc
  cases x
  ·exact ⟨_, hb, by simp [execOp, ho, hc, asBool]⟩
  ·exact ⟨_, ha, by simp [execOp, ho, hc, asBool]⟩
theorem not_ok {x : Operand} {u : TypeId} {b : Bool} (hy : K (.im .bool (!b)) [] = some y) : Good X base (.unOp .not u x) [.im .bool b] h K y := by
 refine ⟨_, [], hy, OpOK.pure (by simp [refs]) ?_⟩
 intro o M t used own ac ho hvs _ hi
 have hx := (hi.ev x).1
 rw [map1 hvs] at hx
 exact ⟨_, mk_bool, by simp [execOp, ho, im_bool hx, Op.unary]⟩
theorem neg_ok {x : Operand} {u : TypeId} {k : IntKind} {n : Int} (hy : K (.im (.int k) (k.wrap (0 - n))) [] = some y) : Good X base (.unOp .neg u x) [.im (.int k) n] h K y := by
 refine ⟨_, [], hy, OpOK.pure (by simp [refs]) ?_⟩
 intro o M t used own ac ho hvs _ hi
 have hx := (hi.ev x).1
 rw [map1 hvs] at hx
 refine ⟨_, mk_int, ?_⟩
 have := im_int hx
 simp only [execOp, ho, this, Op.unary, Op.intArith]
 rfl
theorem mulI_eq {k : IntKind} {x y : Int} : mulI k x y = x * y := by cases k <;> simp only [mulI, Int.mul_comm]
theorem binI_ok {op : BinOp} {u w : TypeId} {x z : Operand} {k : IntKind} {m n : Int} (hs : op ≠ .shl ∧ op ≠ .shr) (hy : binI op k m n (fun v => K v []) = some y) :
  Good X base (.binOp op u x z w) [.im (.int k) m, .im (.int k) n] h K y := by
 have key : ∀ (c : AV) (v : Value), (∀ M, AVRep M c v) → refs c = [] → K c [] = some y → (∀ P W, (binOp op u (.int k m) (.int k n)).run P W = .ok v W) → Good X base (.binOp op u x z w) [.im (.int k) m, .im (.int k) n] h K y := by
  intro c v hc hr hy hb
  refine ⟨c, [], hy, OpOK.pure (by simp [hr]) ?_⟩
  intro o M t used own ac ho hvs _ hi
  obtain ⟨h1, h2⟩ := map2 hvs
  have hx := (hi.ev x).1
  have hz := (hi.ev z).1
  rw [h1] at hx; rw [h2] at hz
  refine ⟨v, hc M, ?_⟩
  have e1 := im_int hx
  have e2 := im_int hz
  have hg : (eqGuard op u x z (.int k m) (.int k n)).run X.P M.w = .ok () M.w := by
   unfold eqGuard
   cases op <;> simp
  simp [execOp, ho, e1, e2, hg, hb]
 unfold binI at hy
 split at hy
 all_goals first
  | (refine key _ _ (fun M => mk_int) rfl hy ?_; intro P W; simp [binOp, Op.intArith, Op.intBits, band, bor, bxor, bandn, mulI_eq]; done)
  | (refine key _ _ (fun M => mk_bool) rfl hy ?_; intro P W; simp [binOp, Op.intCmp]; done)
  | (refine key _ _ (fun M => mk_bool) rfl hy ?_; intro P W; simp only [binOp, ne_eq, not_true_eq_false, if_false, Op.intCmp]; rfl)
  | (rcases cond_some hy with ⟨_, hy⟩ | ⟨hn, hy⟩
     ·cases hy
     ·refine key _ _ (fun M => mk_int) rfl hy ?_
      intro P W
      have hn : n ≠ 0 := by simpa using hn
      simp [binOp, Op.intDiv, hn])
  | cases hy
end
end Go.VM

namespace Go.VM
variable [Bor]
open Go.RowKit
theorem less_total : ∀ x z : List UInt8, (Op.bytesLess x z || x == z) = !Op.bytesLess z x
 | [], [] => by simp [Op.bytesLess]
 | [], _ :: _ => by simp [Op.bytesLess]
 | _ :: _, [] => by simp [Op.bytesLess]
 | a :: x, b :: z => by
  have ih := less_total x z
  simp only [Op.bytesLess]
  rcases Nat.lt_trichotomy a.toNat b.toNat with h | h | h
  ·have h1 : a < b := UInt8.lt_iff_toNat_lt.2 h
   have h2 : ¬ b < a := fun k => by have := UInt8.lt_iff_toNat_lt.1 k; omega
   have h3 : ¬ b = a := fun k => by rw [k] at h; omega
   simp [h1, h2, h3]
  ·have h1 : a = b := UInt8.toNat_inj.1 h
   subst h1
   have h2 : ¬ a < a := fun k => by have := UInt8.lt_iff_toNat_lt.1 k; omega
   simp [h2]
   simpa using ih
  ·have h1 : b < a := UInt8.lt_iff_toNat_lt.2 h
   have h2 : ¬ a < b := fun k => by have := UInt8.lt_iff_toNat_lt.1 k; omega
   have h3 : ¬ a = b := fun k => by rw [k] at h; omega
   simp [h1, h2, h3]
theorem ba_eq (x z : ByteArray) : (x.toList == z.toList) = seq x z := by
 rw [ByteArray.toList_eq, ByteArray.toList_eq]
 unfold seq
 rw [Bool.eq_iff_iff]
 simp only [beq_iff_eq, decide_eq_true_eq]
 constructor
 ·intro h
  obtain ⟨a⟩ := x; obtain ⟨b⟩ := z
  have : a = b := Array.toList_inj.1 h
  rw [this]
 ·intro h; rw [h]
section
variable {X : Cx} {ρ : Type} {base : Nat} {h : Hp} {K : AV → Hp → Option ρ} {y : ρ}
theorem bin_key {op : BinOp} {u w : TypeId} {x z : Operand} {p q : AV} {c : AV} (hr : refs c = [])
  (hb : ∀ M (v v' : Value) (W : World), (∀ id, lkH h id ≠ .dead → M.h id = lkH h id) → M.w = W → (∀ own, ∀ id, (∃ X : Cx, ∃ t used a, Inv X M t used own a) → RootRep M own id (M.h id)) → AVRep M p v → AVRep M q v' → ∃ r, AVRep M c r ∧ (do eqGuard op u x z v v'; binOp op u v v' : Sem Value).run X.P W = .ok r W) (hy : K c [] = some y) :
  Good X base (.binOp op u x z w) [p, q] h K y := by
 refine ⟨c, [], hy, OpOK.pure (by simp [hr]) ?_⟩
 intro o M t used own ac ho hvs hh hi
 obtain ⟨h1, h2⟩ := map2 hvs
 have hx := (hi.ev x).1
 have hz := (hi.ev z).1
 rw [h1] at hx; rw [h2] at hz
 obtain ⟨r, hr1, hr2⟩ := hb M _ _ M.w hh rfl (fun own id ⟨X, t, used, a, hi⟩ => hi.rt id) hx hz
 refine ⟨r, hr1, ?_⟩
 simp only [Sem.run_bind] at hr2
 have hr3 : (do eqGuard op u x z (ac.eval x) (ac.eval z); binOp op u (ac.eval x) (ac.eval z) : Sem Value).run X.P M.w = .ok r M.w := by rw [Sem.run_bind]; exact hr2
 simp only [execOp, ho]
 rw [Sem.run_bind, hr3]
 rfl
theorem binS_ok {op : BinOp} {u w : TypeId} {x z : Operand} {m n : ByteArray} (hy : binS op m n (fun v => K v []) = some y) :
  Good X base (.binOp op u x z w) [.im .str m, .im .str n] h K y := by
 have key : ∀ (c : AV) (v : Value), (∀ M, AVRep M c v) → refs c = [] → K c [] = some y → (∀ P W, (do eqGuard op u x z (.string m) (.string n); binOp op u (.string m) (.string n) : Sem Value).run P W = .ok v W) → Good X base (.binOp op u x z w) [.im .str m, .im .str n] h K y := by
  intro c v hc hr hy hb
  refine bin_key hr ?_ hy
  intro M v1 v2 W _ _ _ e1 e2
  rw [im_str e1, im_str e2]
  exact ⟨v, hc M, hb _ _⟩
 have hl : ∀ a b : ByteArray, Op.bytesLess a.toList b.toList = slt a b := fun a b => by unfold slt; rw [ByteArray.toList_eq, ByteArray.toList_eq]
 have ht : ∀ a b : ByteArray, (slt a b || seq a b) = !slt b a := fun a b => by
  have := less_total a.toList b.toList
  rw [hl, hl, ba_eq] at this; exact this
 have hg : ∀ P W, (eqGuard op u x z (.string m) (.string n)).run P W = .ok () W := by
  intro P W
  unfold eqGuard
  cases op <;> simp
 unfold binS at hy
 split at hy
 ·obtain ⟨hn, hy⟩ := cond_none hy
  refine key _ _ (fun M => mk_str) rfl hy ?_
  intro P W
  have hn : m.size + n.size ≤ 1000000000 := by simpa [room] using hn
  have : ¬ (((m.size + n.size : Nat) : Int) > IntKind.i64.max) := by simp [IntKind.max, IntKind.signed, IntKind.bits]; omega
  simp only [Sem.run_bind, hg, Result.andThen_ok, binOp, Op.stringOp, if_neg this]
  rfl
 all_goals first
  | (refine key _ _ (fun M => mk_bool) rfl hy ?_; intro P W; simp only [Sem.run_bind, hg, Result.andThen_ok, binOp, Op.stringOp, hl, ba_eq, ht, Bool.not_not]; rfl)
  | cases hy
theorem equal_bool {P : Program} {u : TypeId} (hu : P.underlying u = some .bool) (a b : Bool) (W : World) : (Op.equal u (.bool a) (.bool b)).run P W = .ok (a == b) W := by
 have : ∀ d, (Op.equalIn (d + 1) u (.bool a) (.bool b)).run P W = .ok (a == b) W := by
  intro d
  simp only [Op.equalIn, Sem.run_bind, run_underlying hu, Result.andThen_ok]
  rfl
 exact this 9999
theorem binB_ok {op : BinOp} {u w : TypeId} {x z : Operand} {m n : Bool} (hu : X.P.underlying u = some .bool) (hy : (match op with | .eql => K (.im .bool (m == n)) [] | .neq => K (.im .bool (m != n)) [] | _ => none) = some y) :
  Good X base (.binOp op u x z w) [.im .bool m, .im .bool n] h K y := by
 have key : ∀ (c : AV) (v : Value), (∀ M, AVRep M c v) → refs c = [] → K c [] = some y → (∀ W, (do eqGuard op u x z (.bool m) (.bool n); binOp op u (.bool m) (.bool n) : Sem Value).run X.P W = .ok v W) → Good X base (.binOp op u x z w) [.im .bool m, .im .bool n] h K y := by
  intro c v hc hr hy hb
  refine bin_key hr ?_ hy
  intro M v1 v2 W _ _ _ e1 e2
  rw [im_bool e1, im_bool e2]
  exact ⟨v, hc M, hb _⟩
 split at hy
 ·refine key _ _ (fun M => mk_bool) rfl hy ?_
  intro W
  simp [eqGuard, binOp, equal_bool hu]
 ·refine key _ _ (fun M => mk_bool) rfl hy ?_
  intro W
  simp [eqGuard, binOp, equal_bool hu, bne]
 ·cases hy
theorem shift_ok {op : BinOp} {u w : TypeId} {x z : Operand} {k k' : IntKind} {m n : Int} (hs : op = .shl ∧ cond (decide (0 ≤ n)) (K (.im (.int k) (shl k m n)) []) none = some y ∨ op = .shr ∧ cond (decide (0 ≤ n)) (K (.im (.int k) (shr k m n)) []) none = some y) :
  Good X base (.binOp op u x z w) [.im (.int k) m, .im (.int k') n] h K y := by
 rcases hs with ⟨rfl, hy⟩ | ⟨rfl, hy⟩ <;>
 ·obtain ⟨hn, hy⟩ := cond_none hy
  refine bin_key rfl ?_ hy
  intro M v1 v2 W _ _ _ e1 e2
  rw [im_int e1, im_int e2]
  have hn : ¬ n < 0 := by have : 0 ≤ n := by simpa using hn
                          omega
  exact ⟨_, mk_int, by simp [eqGuard, binOp, Op.shift, hn, shl, shr]⟩
end
end Go.VM

namespace Go.VM
variable [Bor]
open Go.RowKit
def View (w : World) (S : Nat → Prop) (e : Bool) (u : U) (l : List u.El) (v : Value) : Prop :=
 u.plain = true ∧ ∃ F, (SlRep w false e u.sz (Rep w false u) l v F ∨ Bare false e l v F) ∧ ∀ b ∈ F, S b
theorem View.of {w : World} {S : Nat → Prop} {o e : Bool} {u : U} {l : List u.El} {v F} (hp : u.plain = true) (h : SlRep w o e u.sz (Rep w o u) l v F) (hS : ∀ b ∈ F, S b) : View w S e u l v := by
 cases o with
 | false => exact ⟨hp, F, .inl h, hS⟩
 | true => exact ⟨hp, F, .inl h.weak, hS⟩
theorem View.head {w : World} {S : Nat → Prop} {e : Bool} {u : U} {l : List u.El} {v} (h : View w S e u l v) : ∃ a cap, v = .slice a l.length cap ∧ l.length ≤ cap ∧ (e = true → (a = none ↔ l = [])) ∧ (a = none → l = []) := by
 obtain ⟨_, F, h, _⟩ := h
 rcases h with (⟨rfl, rfl, _⟩ | ⟨a, cap, c, t, fz, p, m, q, G, rfl, hs, he, hl, _⟩) | ⟨_, he, rfl, _, a, cap, rfl⟩
 ·exact ⟨none, 0, rfl, Nat.le_refl _, fun _ => ⟨fun _ => rfl, fun _ => rfl⟩, fun _ => rfl⟩
 ·exact ⟨some a, cap, rfl, hl, fun k => ⟨fun h => by simp at h, fun h => absurd h (he k)⟩, fun h => by simp at h⟩
 ·exact ⟨some a, cap, rfl, Nat.zero_le _, (fun k => by rw [he] at k; cases k), fun _ => rfl⟩
theorem RepL.drop {α : Type} {R : α → List Value → List Nat → Prop} {n : Nat} (hR : ∀ x c F, R x c F → c.length = n) : ∀ {l cs F} (i : Nat), RepL R l cs F → i ≤ l.length →
  ∃ c1 c2 G, cs = c1 ++ c2 ∧ c1.length = i * n ∧ RepL R (l.drop i) c2 G ∧ ∀ b ∈ G, b ∈ F
 | l, cs, F, 0, h, _ => ⟨[], cs, F, rfl, by simp, h, fun _ h => h⟩
 | [], _, _, i + 1, _, hi => by simp at hi
 | x :: l, _, _, i + 1, h, hi => by
  obtain ⟨c, d, G, H, rfl, rfl, h1, h2⟩ := h
  obtain ⟨c1, c2, K, rfl, hl, hr, hk⟩ := RepL.drop hR i h2 (by simpa using hi)
  refine ⟨c ++ c1, c2, K, by simp, ?_, hr, fun b hb => List.mem_append.2 (.inr (hk b hb))⟩
  rw [List.length_append, hR _ _ _ h1, hl, Nat.add_mul]; omega
theorem RepL.take {α : Type} {R : α → List Value → List Nat → Prop} : ∀ {l cs F} (i : Nat), RepL R l cs F →
  ∃ c1 c2 G, cs = c1 ++ c2 ∧ RepL R (l.take i) c1 G ∧ ∀ b ∈ G, b ∈ F
 | l, cs, F, 0, h => ⟨[], cs, [], rfl, ⟨rfl, rfl⟩, by simp⟩
 | [], cs, _, i + 1, h => ⟨[], cs, [], rfl, ⟨rfl, rfl⟩, by simp⟩
 | x :: l, _, _, i + 1, h => by
  obtain ⟨c, d, G, H, rfl, rfl, h1, h2⟩ := h
  obtain ⟨c1, c2, K, rfl, hr, hk⟩ := RepL.take i h2
  exact ⟨c ++ c1, c2, G ++ K, by simp, ⟨c, c1, G, K, rfl, rfl, h1, hr⟩, fun b hb => by
   rcases List.mem_append.1 hb with h | h
   ·exact List.mem_append.2 (.inl h)
   ·exact List.mem_append.2 (.inr (hk b h))⟩
theorem Addr.add_block (a : Addr) (n : Nat) : (a.add n).block = a.block := by unfold Addr.add; split <;> rfl
theorem Addr.add_off (a : Addr) (n : Nat) : (a.add n).off = a.off + n := by
 unfold Addr.add; split
 ·rename_i h; subst h; rfl
 ·rfl
theorem Addr.add_spot {a : Addr} (h : a.spot = none) (n : Nat) : (a.add n).spot = none := by
 unfold Addr.add; split
 ·exact h
 ·rfl
theorem View.win {w : World} {S : Nat → Prop} {e : Bool} {u : U} {l : List u.El} {v v' : Value} {x : Option (Nat × Nat)} {F} (hp : u.plain = true) (h : SlRep w true e u.sz (Rep w true u) l v F) (hS : ∀ b ∈ F, S b) (hw : Win u.sz v x v') :
  View w S (match x with | none => e | some _ => false) u (VM.win x l) v' := by
 cases x with
 | none => simp only [Win] at hw; subst hw; exact ⟨hp, F, .inl h.weak, hS⟩
 | some an =>
  obtain ⟨a, n⟩ := an
  simp only [Win] at hw
  simp only [VM.win]
  rcases hw with ⟨hv, rfl, rfl, rfl⟩ | ⟨ad0, len, cap0, k, hv, hn, hlc', rfl, hk, ho, _⟩
  ·exact ⟨hp, [], .inl (.inl ⟨rfl, by simp, rfl⟩), by simp⟩
  ·rcases h with ⟨hv', _⟩ | ⟨a1, cap, c, t, fz, p, m, q, G, hv', hs, he, hl, hh, hc, hpl, hr, rfl, how⟩
   ·rw [hv'] at hv; simp at hv
   ·rw [hv'] at hv
    simp only [Value.slice.injEq, Option.some.injEq] at hv
    obtain ⟨rfl, rfl, rfl⟩ := hv
    obtain ⟨hoff, _, hsz, _⟩ := how rfl
    have hlen : ((l.drop a).take n).length = n := by rw [List.length_take, List.length_drop]; omega
    have hr := RepL.imp (S := Rep w false u) (fun _ _ _ _ => Rep.weak) hr
    by_cases hn0 : n = 0
    ·have hnil : (l.drop a).take n = [] := List.eq_nil_of_length_eq_zero (by rw [hlen]; exact hn0)
     have hks : k * u.sz ≤ c.toList.length := by rw [Array.length_toList, hsz]; exact Nat.mul_le_mul_right _ hk
     refine ⟨hp, [a1.block], .inl <| .inr ⟨a1.add (k * u.sz), cap - a, c, t, fz, c.toList.take (k * u.sz), [], c.toList.drop (k * u.sz), [], by rw [hlen], Addr.add_spot hs _, (fun h => by cases h), by rw [hlen]; omega, ?_, by simp, ?_, ?_, ?_, fun h => by cases h⟩, ?_⟩
     ·rw [Addr.add_block]; exact hh
     ·rw [List.length_take, Addr.add_off, hoff]; omega
     ·rw [hnil]; exact ⟨rfl, rfl⟩
     ·rw [Addr.add_block]
     ·intro b hbm; simp at hbm; subst hbm; exact hS _ (by simp)
    ·have hka : k = a := ho.resolve_left hn0
     subst hka
     obtain ⟨c1, c2, G1, rfl, hl1, hr1, hG1⟩ := RepL.drop (n := u.sz) (fun _ _ _ => Rep.length) k hr (by omega)
     obtain ⟨d1, d2, G2, rfl, hr2, hG2⟩ := RepL.take n hr1
     refine ⟨hp, a1.block :: G2, .inl <| .inr ⟨a1.add (k * u.sz), cap - k, c, t, fz, p ++ c1, d1, d2 ++ q, G2, by rw [hlen], Addr.add_spot hs _, (fun h => by cases h), by rw [hlen]; omega, ?_, by rw [hc]; simp, ?_, hr2, ?_, fun h => by cases h⟩, ?_⟩
     ·rw [Addr.add_block]; exact hh
     ·rw [List.length_append, hl1, hpl, Addr.add_off]
     ·rw [Addr.add_block]
     ·intro b hbm
      rcases List.mem_cons.1 hbm with rfl | hbm
      ·exact hS _ (by simp)
      ·exact hS _ (List.mem_cons_of_mem _ (hG1 b (hG2 b hbm)))
def Sees (M : Mem) (own : Nat → Option Nat) (ids : List Nat) (b : Nat) : Prop := M.Z b ∨ ∃ id ∈ ids, own b = some id
theorem Inv.arr {X : Cx} {M : Mem} {t used own a} (hi : Inv X M t used own a) {id : Nat} {e u} {l : List u.El} {g} (h : M.h id = .arr e u l g) :
  u.plain = true ∧ ∃ F, SlRep M.w true e u.sz (Rep M.w true u) l (hdr (M.r id) l.length) F ∧ F.Nodup ∧ ∀ b ∈ F, own b = some id := by
 have := hi.rt id
 rw [h] at this
 exact this
theorem bs_im {X : Cx} {M : Mem} {t used own a} (hi : Inv X M t used own a) {u : U} {l : List u.El} {v : Value} (h : AVRep M (.im (.bs u) l) v) : AVRep M (.im (.sl false u) l) v := by
 simp only [AVRep] at h ⊢
 obtain ⟨hg, cs, F, hval, ⟨rfl, v', rfl, ho⟩, _⟩ := h
 obtain ⟨G, hr, hG⟩ := hi.bo _ _ _ ho
 exact ⟨hg, [v'], G, by simpa [valC, U.isAgg] using hval, hr, fun b hb => hi.bz b (hG b hb)⟩
theorem look {X : Cx} {M : Mem} {t used own a} (hi : Inv X M t used own a) {h : Hp} (hh : ∀ id, lkH h id ≠ .dead → M.h id = lkH h id) {c : AV} {v : Value} {e u} {l : List u.El} (hs : slice? h c = some ⟨e, u, l⟩) (hv : AVRep M c v) :
  View M.w (Sees M own (refs c)) e u l v := by
 unfold slice? at hs
 split at hs
 ·rename_i e1 u1 l1
  simp only [Option.some.injEq] at hs
  cases hs
  simp only [AVRep] at hv
  obtain ⟨hg, cs, F, hval, ⟨v', rfl, hr⟩, hZ⟩ := hv
  have hval : v = v' := by simpa [valC, U.isAgg] using hval
  subst hval
  rcases hr with hr | hB
  ·have hr' := SlRep.frame (w' := M.w) (fun b hb => hi.zf b (hZ b hb)) hr
   exact View.of hg hr' (fun b hb => .inl (hZ b hb))
  ·exact ⟨hg, F, .inr hB, fun b hb => .inl (hZ b hb)⟩
 ·rename_i u1 l1
  simp only [Option.some.injEq] at hs
  cases hs
  simp only [AVRep] at hv
  obtain ⟨hg, cs, F, hval, ⟨rfl, v', rfl, ho⟩, _⟩ := hv
  have hval : v = v' := by simpa [valC, U.isAgg] using hval
  subst hval
  obtain ⟨G, ⟨v2, h2, hr⟩, hG⟩ := hi.bo _ _ _ ho
  obtain rfl : v = v2 := by simpa using h2
  rcases hr with hr | hB
  ·have hr' := SlRep.frame (w' := M.w) (fun b hb => hi.zf b (hi.bz b (hG b hb))) hr
   exact View.of hg hr' (fun b hb => .inl (hi.bz b (hG b hb)))
  ·exact ⟨hg, G, .inr hB, fun b hb => .inl (hi.bz b (hG b hb))⟩
 ·rename_i id p x g
  cases hl : lkH h id with
  | dead => rw [hl] at hs; cases hs
  | obj cs => rw [hl] at hs; cases hs
  | imm u x => rw [hl] at hs; cases hs
  | bld T t f0 l0 => rw [hl] at hs; cases hs
  | hol e0 u0 l0 g0 i0 o0 w0 => rw [hl] at hs; cases hs
  | tre u9 t9 => rw [hl] at hs; cases hs
  | mpt T9 l9 => rw [hl] at hs; cases hs
  | arr e1 u1 l1 g1 =>
   rw [hl] at hs
   simp only at hs
   obtain ⟨hok, hs⟩ := sw_some hs
   have hM : M.h id = .arr e1 u1 l1 g1 := by rw [hh id (by rw [hl]; simp), hl]
   simp only [AVRep] at hv
   obtain ⟨_, hv⟩ := rowOld hv hM
   obtain ⟨e', u', l', v', hat, hhd, hw⟩ := hv hok
   rw [hat] at hs
   simp only [Option.some.injEq] at hs
   obtain ⟨hp, F, hsl, _, hown⟩ := hi.arr hM
   obtain ⟨hp', F1, F', F2, rfl, hsl', _⟩ := path_rep hp hsl hat hhd
   have hS : ∀ b ∈ F', Sees M own (refs (.hs id p x g)) b := fun b hb => .inr ⟨id, by simp [refs], hown b (by simp [hb])⟩
   cases hs
   cases x with
   | none => exact View.win (x := none) hp' hsl' hS hw
   | some an => exact View.win (x := some an) hp' hsl' hS hw
 ·cases hs
theorem lookAs {X : Cx} {M : Mem} {t used own a} (hi : Inv X M t used own a) {h : Hp} (hh : ∀ id, lkH h id ≠ .dead → M.h id = lkH h id) {c : AV} {v : Value} {e u} {l : List u.El} (hp : u.plain = true) (hs : sliceAs h e u c = some l) (hv : AVRep M c v) :
  View M.w (Sees M own (refs c)) e u l v := by
 unfold sliceAs at hs
 split at hs
 ·simp only [Option.some.injEq] at hs
  subst hs
  simp only [AVRep] at hv
  subst hv
  exact ⟨hp, [], .inl (.inl ⟨rfl, rfl, rfl⟩), by simp⟩
 ·cases hsl : slice? h c with
  | none => rw [hsl] at hs; cases hs
  | some x =>
   obtain ⟨e', u', l'⟩ := x
   rw [hsl] at hs
   simp only at hs
   obtain ⟨he, hs⟩ := sw_some hs
   unfold castL at hs
   split at hs
   ·rename_i hu
    subst hu
    simp only [Option.some.injEq] at hs
    subst hs
    obtain ⟨hp, F, h1, h2⟩ := look hi hh hsl hv
    refine ⟨hp, F, h1.imp (fun h => h.loose he) (fun h => ?_), h2⟩
    obtain ⟨b1, b2, b3, b4, b5⟩ := h
    rw [b2] at he
    exact ⟨rfl, by simpa using he, b3, b4, b5⟩
   ·cases hs
end Go.VM

namespace Go.VM
variable [Bor]
open Go.RowKit
theorem AVRepL.get {M : Mem} : ∀ {cs : List AV} {vs : List Value} {i : Nat} {c : AV}, AVRepL M cs vs → cs[i]? = some c → ∃ v, vs[i]? = some v ∧ AVRep M c v
 | [], _, _, _, _, h => by simp at h
 | x :: cs, _, 0, c, h, hc => by
  simp only [AVRepL] at h
  obtain ⟨v, r, rfl, h1, _⟩ := h
  simp only [List.getElem?_cons_zero, Option.some.injEq] at hc
  subst hc
  exact ⟨v, rfl, h1⟩
 | x :: cs, _, i + 1, c, h, hc => by
  simp only [AVRepL] at h
  obtain ⟨v, r, rfl, _, h2⟩ := h
  simpa using AVRepL.get h2 (by simpa using hc)
theorem AVRepL.length {M : Mem} : ∀ {cs : List AV} {vs : List Value}, AVRepL M cs vs → vs.length = cs.length
 | [], _, h => by simp only [AVRepL] at h; subst h; rfl
 | x :: cs, _, h => by
  simp only [AVRepL] at h
  obtain ⟨v, r, rfl, _, h2⟩ := h
  simp [AVRepL.length h2]
theorem AVRepL.map {M : Mem} {f : Operand → AV} {g : Operand → Value} (h : ∀ x, AVRep M (f x) (g x)) : ∀ l : List Operand, AVRepL M (l.map f) (l.map g)
 | [] => by simp only [List.map_nil, AVRepL]
 | x :: l => by simp only [List.map_cons, AVRepL]; exact ⟨_, _, rfl, h x, AVRepL.map h l⟩
theorem AVRepL.piece {M : Mem} : ∀ {cs : List AV} {vs : List Value} (o n : Nat), AVRepL M cs vs → AVRepL M ((cs.drop o).take n) ((vs.drop o).take n)
 | [], _, o, n, h => by simp only [AVRepL] at h; subst h; simp [AVRepL]
 | x :: cs, _, 0, 0, h => by simp [AVRepL]
 | x :: cs, _, 0, n + 1, h => by
  simp only [AVRepL] at h
  obtain ⟨v, r, rfl, h1, h2⟩ := h
  have := AVRepL.piece 0 n h2
  simp only [List.drop_zero] at this
  simp only [List.drop_zero, List.take_succ_cons, AVRepL]
  exact ⟨_, _, rfl, h1, this⟩
 | x :: cs, _, o + 1, n, h => by
  simp only [AVRepL] at h
  obtain ⟨v, r, rfl, h1, h2⟩ := h
  simpa using AVRepL.piece o n h2
theorem refsL_mem {j : Nat} : ∀ {cs : List AV}, j ∈ refsL cs ↔ ∃ c ∈ cs, j ∈ refs c
 | [] => by simp [refsL]
 | x :: cs => by simp [refsL, refsL_mem (cs := cs)]
section
variable {X : Cx} {ρ : Type} {base : Nat} {h : Hp} {K : AV → Hp → Option ρ} {y : ρ} (hE : Env' X)
theorem extract_ok {x : Operand} {i : Nat} {cs : List AV} (hy : (match cs[i]? with | some v => K v [] | none => none) = some y) : Good X base (.extract x i) [.tup cs] h K y := by
 obtain ⟨c, hc, hy⟩ := one_some hy
 refine ⟨c, [], hy, OpOK.pure (fun j hj => ⟨.tup cs, by simp, by simp only [refs]; exact refsL_mem.2 ⟨c, List.mem_of_getElem? hc, hj⟩⟩) ?_⟩
 intro o M t used own ac ho hvs _ hi
 have hx := (hi.ev x).1
 rw [map1 hvs] at hx
 simp only [AVRep] at hx
 obtain ⟨vs, hv, hr⟩ := hx
 obtain ⟨v, h1, h2⟩ := hr.get hc
 exact ⟨v, h2, by simp [execOp, ho, hv, Instr.extract, h1]⟩
theorem makeFunc_ok {f : FuncId} {cap : Array Operand} {cs : List AV} (hy : K (.fn f cs) [] = some y) : Good X base (.makeFunc (.func f) #[] cap) cs h K y := by
 refine ⟨_, [], hy, OpOK.pure (fun j hj => by simp only [refs] at hj; exact refsL_mem.1 hj) ?_⟩
 intro o M t used own ac ho hvs _ hi
 refine ⟨.func (.func f) #[] (cap.toList.map ac.eval).toArray, ?_, ?_⟩
 ·simp only [AVRep]
  refine ⟨_, rfl, ?_⟩
  rw [← hvs]
  simp only [Op.operands, Array.empty_append]
  exact AVRepL.map (fun x => (hi.ev x).1) _
 ·simp [execOp, ho, Instr.makeFunc]
  apply Array.toList_inj.1
  simp
theorem nilCheck_ok {x : Operand} {c : AV} (hc : (∃ id o, c = .po id o ∧ lkH h id ≠ .dead) ∨ (∃ u l i o, c = .pi u l i o) ∨ (∃ f cs, c = .fn f cs)) (hy : K c [] = some y) : Good X base (.nilCheck x) [c] h K y := by
 refine ⟨c, [], hy, OpOK.pure (fun j hj => ⟨c, by simp, hj⟩) ?_⟩
 intro o M t used own ac ho hvs hh hi
 have hx := (hi.ev x).1
 rw [map1 hvs] at hx
 refine ⟨_, hx, ?_⟩
 rcases hc with ⟨id, o', rfl, hd⟩ | ⟨u, l, i, o', rfl⟩ | ⟨f, cs, rfl⟩
 ·simp only [AVRep] at hx
  obtain ⟨a, _, hv⟩ := hx (by rw [hh id hd]; exact hd)
  simp [execOp, ho, hv]
 ·simp only [AVRep] at hx
  obtain ⟨_, a, _, hv⟩ := hx
  simp [execOp, ho, hv]
 ·simp only [AVRep] at hx
  obtain ⟨vs, hv, _⟩ := hx
  simp [execOp, ho, hv]
theorem len_ok {args : Array Operand} {t : TypeId} {u : U} {c : AV} {n : Int} (ht : TyOK X.P t u) (hn : lenA h u c = some n) (hy : K (.im (.int .i64) n) [] = some y) :
  Good X base (.call { callee := .builtin .len, args, argTypes := #[t] }) [c] h K y := by
 refine ⟨_, [], hy, OpOK.pure (by simp [refs]) ?_⟩
 intro o M tt used own ac ho hvs hh hi
 refine ⟨_, mk_int, ?_⟩
 simp only [Op.operands, Call.operands, Array.empty_append] at hvs
 obtain ⟨x, rfl⟩ : ∃ x, args = #[x] := by
  obtain ⟨l⟩ := args
  match l, hvs with
  | [x], _ => exact ⟨x, rfl⟩
  | [], h => simp at h
  | _ :: _ :: _, h => simp at h
 have hx := (hi.ev x).1
 rw [map1 hvs] at hx
 obtain ⟨d, hd, hsh⟩ := ht.d
 have key : ∀ v, ac.eval x = v → (Builtin.len_ #[t] o.type #[v]).run X.P M.w = .ok (.int .i64 n) M.w → (execOp ac.eval o).run X.P M.w = .ok (.value (.int .i64 n)) M.w := by
  intro v hv hr
  simp only [execOp, ho, resolve, invoke, builtin, List.map_toArray, List.map_cons, List.map_nil, hv, Sem.run_bind, Sem.run_pure, Result.andThen_ok, hr]
 unfold lenA at hn
 split at hn
 ·-- nil
  simp only [Option.some.injEq] at hn
  subst hn
  simp only [AVRep] at hx
  obtain ⟨el, rfl, _⟩ := hsh
  refine key _ hx ?_
  simp [Builtin.len_, run_underlying hd, goInt]
 ·simp only [Option.some.injEq] at hn
  subst hn
  have hd' : d = .string := hsh
  subst hd'
  refine key _ (im_str hx) ?_
  simp [Builtin.len_, run_underlying hd, goInt]
 ·simp only [Option.some.injEq] at hn
  subst hn
  obtain ⟨el, rfl, _⟩ := hsh
  refine key _ rfl ?_
  simp [Builtin.len_, run_underlying hd, goInt]
 ·cases hsl : slice? h c with
  | none => rw [hsl] at hn; cases hn
  | some z =>
   obtain ⟨e', u', l'⟩ := z
   rw [hsl] at hn
   simp only [Option.some.injEq] at hn
   subst hn
   obtain ⟨a, cap, hv, _⟩ := (look hi hh hsl hx).head
   obtain ⟨el, rfl, _⟩ := hsh
   refine key _ hv ?_
   simp [Builtin.len_, run_underlying hd, goInt]
 ·cases hn
theorem convI_ok {s t : TypeId} {x : Operand} {j k : IntKind} {n : Int} {k' : IntKind} (hs : TyOK X.P s (.int j)) (ht : TyOK X.P t (.int k)) (hy : K (.im (.int k) (k.wrap n)) [] = some y) : Good X base (.convert s t x) [.im (.int k') n] h K y := by
 refine ⟨_, [], hy, OpOK.pure (by simp [refs]) ?_⟩
 intro o M tt used own ac ho hvs hh hi
 have hx := (hi.ev x).1
 rw [map1 hvs] at hx
 obtain ⟨d, hd, rfl⟩ := hs.d
 obtain ⟨d', hd', rfl⟩ := ht.d
 refine ⟨_, mk_int, ?_⟩
 simp [execOp, ho, im_int hx, convert, run_underlying hd, run_underlying hd', Conv.intToInt]
theorem convS_ok {s t : TypeId} {x : Operand} {n : ByteArray} (hs : TyOK X.P s .str) (ht : TyOK X.P t .str) (hy : K (.im .str n) [] = some y) : Good X base (.convert s t x) [.im .str n] h K y := by
 refine ⟨_, [], hy, OpOK.pure (by simp [refs]) ?_⟩
 intro o M tt used own ac ho hvs hh hi
 have hx := (hi.ev x).1
 rw [map1 hvs] at hx
 obtain ⟨d, hd, rfl⟩ := hs.d
 obtain ⟨d', hd', rfl⟩ := ht.d
 refine ⟨_, mk_str, ?_⟩
 simp [execOp, ho, im_str hx, convert, run_underlying hd, run_underlying hd']
theorem indexS_ok {t : TypeId} {x i : Operand} {a : ByteArray} {k : IntKind} {n : Int} (ht : TyOK X.P t .str) (hy : cond (inB n a.size) (K (.im (.int .u8) (bt a n)) []) none = some y) : Good X base (.index t x i) [.im .str a, .im (.int k) n] h K y := by
 obtain ⟨hn, hy⟩ := cond_none hy
 refine ⟨_, [], hy, OpOK.pure (by simp [refs]) ?_⟩
 intro o M tt used own ac ho hvs hh hi
 obtain ⟨h1, h2⟩ := map2 hvs
 have hx := (hi.ev x).1
 have hz := (hi.ev i).1
 rw [h1] at hx; rw [h2] at hz
 obtain ⟨d, hd, rfl⟩ := ht.d
 refine ⟨_, mk_int, ?_⟩
 have hn : 0 ≤ n ∧ n < (a.size : Int) := by simpa [inB] using hn
 have hlt : n.toNat < a.size := by omega
 have hb : (a[n.toNat]? : Option UInt8) = some a[n.toNat] := by rw [getElem?_pos a n.toNat hlt]
 have hbt : bt a n = ((a[n.toNat]).toNat : Int) := by
  unfold bt
  have : a.data.getD n.toNat 0 = a[n.toNat] := by
   have : n.toNat < a.data.size := hlt
   simp only [Array.getD, dif_pos this]
   rfl
  rw [this]
 simp [execOp, ho, im_str hx, im_int hz, Instr.index, asIntOf, run_underlying hd, hn.1, hb, hbt]
theorem minmax_ok {b : Builtin} {args : Array Operand} {tys : Array TypeId} {k : IntKind} {m n r : Int} (hb : b = .min ∧ r = min m n ∨ b = .max ∧ r = max m n) (hy : K (.im (.int k) r) [] = some y) :
  Good X base (.call { callee := .builtin b, args, argTypes := tys }) [.im (.int k) m, .im (.int k) n] h K y := by
 refine ⟨_, [], hy, OpOK.pure (by simp [refs]) ?_⟩
 intro o M tt used own ac ho hvs hh hi
 simp only [Op.operands, Call.operands, Array.empty_append] at hvs
 obtain ⟨x, z, rfl⟩ : ∃ x z, args = #[x, z] := by
  obtain ⟨l⟩ := args
  match l, hvs with
  | [x, z], _ => exact ⟨x, z, rfl⟩
  | [], h => simp at h
  | [_], h => simp at h
  | _ :: _ :: _ :: _, h => simp at h
 obtain ⟨h1, h2⟩ := map2 hvs
 have hx := (hi.ev x).1
 have hz := (hi.ev z).1
 rw [h1] at hx; rw [h2] at hz
 refine ⟨_, mk_int, ?_⟩
 rcases hb with ⟨rfl, rfl⟩ | ⟨rfl, rfl⟩
 ·have : (if n < m then n else m) = min m n := by split <;> omega
  simp [execOp, ho, resolve, invoke, builtin, im_int hx, im_int hz, Builtin.min_, Builtin.min2, this]
 ·have : (if n > m then n else m) = max m n := by split <;> omega
  simp [execOp, ho, resolve, invoke, builtin, im_int hx, im_int hz, Builtin.max_, Builtin.max2, this]
end
end Go.VM

namespace Go.VM
variable [Bor]
open Go.RowKit
theorem run_info {P : Program} {t : TypeId} {i : TypeInfo} (h : P.info? t = some i) (w : World) : (typeInfo t).run P w = .ok i w := by
 show (match P.info? t with | some i => Sem.pure i | none => stuck "no such type" : Sem TypeInfo).run P w = _
 rw [h]; rfl
theorem run_sizeOf {P : Program} {t : TypeId} {i : TypeInfo} (h : P.info? t = some i) (w : World) : (sizeOf t).run P w = .ok i.size w := by simp [sizeOf, run_info h]
theorem FieldsOK.at {P : Program} : ∀ {u : U} {fs : List Field} {o f a w}, u.plain = true → FieldsOK P u fs o → fieldOff u f = some (a, w) →
  ∃ fd, fs[f]? = some fd ∧ fd.offset = o + a ∧ (∃ i, P.info? fd.type = some i ∧ i.size = w.sz) ∧ w.plain = true ∧ a + w.az ≤ u.az
 | .pair a b, fd :: r, o, 0, x, w, hp, h, hf => by
  simp only [fieldOff, Option.some.injEq, Prod.mk.injEq] at hf
  obtain ⟨rfl, rfl⟩ := hf
  simp only [U.plain, Bool.and_eq_true] at hp
  exact ⟨fd, rfl, by rw [h.1]; rfl, h.2.1, hp.1, by simp [U.az]⟩
 | .pair a b, fd :: r, o, f + 1, x, w, hp, h, hf => by
  simp only [fieldOff] at hf
  simp only [U.plain, Bool.and_eq_true] at hp
  cases hb : fieldOff b f with
  | none => rw [hb] at hf; cases hf
  | some q =>
   obtain ⟨o', w'⟩ := q
   rw [hb] at hf
   simp only [Option.some.injEq, Prod.mk.injEq] at hf
   obtain ⟨rfl, rfl⟩ := hf
   obtain ⟨fd', h1, h2, h3, h4, h5⟩ := FieldsOK.at hp.2 h.2.2 hb
   refine ⟨fd', by simpa using h1, ?_, h3, h4, ?_⟩
   ·rw [h2, az_sz hp.1]; omega
   ·simp only [U.az]; omega
 | .pair _ _, [], _, _, _, _, _, h, _ => h.elim
 | .unit, _, _, _, _, _, _, _, hf => by simp [fieldOff] at hf
 | .bool, _, _, _, _, _, _, h, _ => h.elim
 | .int _, _, _, _, _, _, _, h, _ => h.elim
 | .str, _, _, _, _, _, _, h, _ => h.elim
 | .sl _ _, _, _, _, _, _, _, h, _ => h.elim
 | .ar _ _, _, _, _, _, _, _, h, _ => h.elim
 | .bs _, _, _, _, _, _, _, h, _ => h.elim
 | .pt _, _, _, _, _, _, _, h, _ => h.elim
 | .tr _, _, _, _, _, _, _, h, _ => h.elim
 | .oth, _, _, _, _, _, _, h, _ => h.elim
theorem nd_plain {p : Bool} {u : U} (h : u.plain = true) (hf : u.flat = true) : (U.nd p u).plain = true := by
 cases p <;> simp [U.nd, U.plain, h, hf]
theorem fieldOff_tr {u : U} {f : Nat} {x : Nat × U} (h : fieldOff (.tr u) f = some x) : fieldOff (U.nd false u) f = some x := by
 match f, h with
 | 0, h => exact h
 | 1, h => exact h
 | _ + 2, h => simp [fieldOff] at h
theorem fields_of {P : Program} {t : TypeId} {u : U} (ht : TyOK P t u) {f a w} (hp : u.plain = true) (hf : fieldOff u f = some (a, w)) :
  ∃ fs fd, P.underlying t = some (.struct fs) ∧ fs[f]? = some fd ∧ fd.offset = a ∧ (∃ i, P.info? fd.type = some i ∧ i.size = w.sz) ∧ w.plain = true ∧ a + w.az ≤ u.az := by
 obtain ⟨d, hd, hsh⟩ := ht.d
 cases u with
 | pair p q =>
  obtain ⟨fs, rfl, hF⟩ := hsh
  obtain ⟨fd, h1, h2, h3⟩ := hF.at hp hf
  exact ⟨fs, fd, hd, by simpa using h1, by simpa using h2, h3⟩
 | tr p =>
  simp only [U.plain, Bool.and_eq_true] at hp
  obtain ⟨fs, rfl, hF⟩ := hsh
  obtain ⟨fd, h1, h2, h3, h4, h5⟩ := hF.at (nd_plain hp.1 hp.2) (fieldOff_tr hf)
  exact ⟨fs, fd, hd, by simpa using h1, by simpa using h2, h3, h4, h5⟩
 | _ => simp [fieldOff] at hf
theorem Addr.add_add (a : Addr) (m n : Nat) (hs : a.spot = none) : (a.add m).add n = a.add (m + n) := by
 have e : ∀ x z : Addr, x.block = z.block → x.off = z.off → x.spot = z.spot → x = z := by
  intro x z h1 h2 h3; cases x; cases z; simp_all
 exact e _ _ (by simp only [Addr.add_block]) (by simp only [Addr.add_off]; omega) (by rw [Addr.add_spot (Addr.add_spot hs m) n, Addr.add_spot hs])
section
variable {X : Cx} {ρ : Type} {base : Nat} {h : Hp} {K : AV → Hp → Option ρ} {y : ρ}
theorem fieldAddr_ok {t : TypeId} {u : U} {x : Operand} {f : Nat} {c : AV} {o : Nat} {w : U} (ht : TyOK X.P t u) (hp : u.plain = true) (hf : fieldOff u f = some (o, w)) (hw : w.sz ≠ 0) {c' : AV} (hc : fieldAddrA h o c = some c') (hy : K c' [] = some y) :
  Good X base (.fieldAddr t x f) [c] h K y := by
 have hr : refs c' = refs c := by
  unfold fieldAddrA at hc
  split at hc
  ·split at hc
   ·simp only [Option.some.injEq] at hc; subst hc; rfl
   ·simp only [Option.some.injEq] at hc; subst hc; rfl
   ·simp only [Option.some.injEq] at hc; subst hc; rfl
   ·cases hc
  ·split at hc
   ·obtain ⟨_, hc⟩ := sw_some hc
    simp only [Option.some.injEq] at hc; subst hc; rfl
   ·obtain ⟨_, hc⟩ := sw_some hc
    simp only [Option.some.injEq] at hc; subst hc; rfl
   ·cases hc
  ·simp only [Option.some.injEq] at hc; subst hc; rfl
  ·cases hc
 refine ⟨c', [], hy, OpOK.pure (fun j hj => ⟨c, by simp, hr ▸ hj⟩) ?_⟩
 intro op M tt used own ac ho hvs hh hi
 have hx := (hi.ev x).1
 rw [map1 hvs] at hx
 obtain ⟨fs, fd, h1, h2, h3, ⟨i, h4, h5⟩, h6⟩ := fields_of ht hp hf
 have run : ∀ a, ac.eval x = .pointer (some a) → (execOp ac.eval op).run X.P M.w = .ok (.value (.pointer (some (a.add o)))) M.w := by
  intro a ha
  simp [execOp, ho, Instr.fieldAt, run_underlying h1, h2, Instr.sureAddr, ha, fieldPlace, run_sizeOf h4, h5, hw, h3]
 unfold fieldAddrA at hc
 split at hc
 ·rename_i id p
  split at hc
  case h_4 => cases hc
  case h_3 u1 x1 hl =>
   simp only [Option.some.injEq] at hc
   subst hc
   have hM : M.h id = .tre u1 x1 := by rw [hh id (by rw [hl]; simp), hl]
   simp only [AVRep] at hx
   obtain ⟨a, ha, hv⟩ := hx (by rw [hM]; simp)
   have hrt := hi.rt id
   rw [hM] at hrt
   obtain ⟨hpu, hfu, F, hr, _⟩ := hrt
   have has : a.spot = none := by
    cases x1 with
    | nil => have := (rep_pnil.1 hr).1; rw [ha] at this; simp at this
    | node x2 ks => obtain ⟨b, c, t, G, h1, _⟩ := (rep_pt hfu).1 hr; rw [ha] at h1; simp at h1; rw [h1]
   refine ⟨_, ?_, run _ hv⟩
   simp only [AVRep]
   intro _
   exact ⟨a, ha, by rw [Addr.add_add _ _ _ has]⟩
  case h_2 u1 x1 hl =>
   simp only [Option.some.injEq] at hc
   subst hc
   have hM : M.h id = .imm u1 x1 := by rw [hh id (by rw [hl]; simp), hl]
   simp only [AVRep] at hx
   obtain ⟨a, ha, hv⟩ := hx (by rw [hM]; simp)
   have hrt := hi.rt id
   rw [hM] at hrt
   obtain ⟨b, hb, _, _, _, _, _, _, _, hsp, _⟩ := hrt
   have has : a.spot = none := by rw [ha] at hb; cases hb; exact hsp
   refine ⟨_, ?_, run _ hv⟩
   simp only [AVRep]
   intro _
   exact ⟨a, ha, by rw [Addr.add_add _ _ _ has]⟩
  case h_1 cs hl =>
   simp only [Option.some.injEq] at hc
   subst hc
   have hM : M.h id = .obj cs := by rw [hh id (by rw [hl]; simp), hl]
   simp only [AVRep] at hx
   obtain ⟨a, ha, hv⟩ := hx (by rw [hM]; simp)
   have hrt := hi.rt id
   rw [hM] at hrt
   obtain ⟨b, cc, tt', hb, _⟩ := hrt
   have has : a.spot = none := by rw [ha] at hb; cases hb; rfl
   refine ⟨_, ?_, run _ hv⟩
   simp only [AVRep]
   intro _
   exact ⟨a, ha, by rw [Addr.add_add _ _ _ has]⟩
 ·rename_i id p g i' q
  split at hc
  case h_3 => cases hc
  case h_2 e1 u1 l1 g1 i1 o1 w1 hl =>
   obtain ⟨hpe, hc⟩ := sw_some hc
   simp only [Option.some.injEq] at hc
   subst hc
   obtain rfl : p = [] := by simpa using hpe
   have hM : M.h id = .hol e1 u1 l1 g1 i1 o1 w1 := by rw [hh id (by rw [hl]; simp), hl]
   simp only [AVRep] at hx
   obtain ⟨hgg, hx⟩ := hx _ _ _ _ _ (rowH hM)
   obtain ⟨e', u', l', a, cap, hat, hhd, hlt, hv⟩ := hx rfl (fun _ => by trivial)
   have hrt := hi.rt id
   rw [hM] at hrt
   obtain ⟨F, ⟨_, _, _, a', cap', _, _, _, _, _, _, _, hv', hs, _⟩, _⟩ := hrt
   have has : a.spot = none := by
    simp only [hdrAt, Option.some.injEq] at hhd
    rw [hhd] at hv'
    simp only [Value.slice.injEq, Option.some.injEq] at hv'
    rw [hv'.1]; exact hs
   refine ⟨_, ?_, run _ hv⟩
   simp only [AVRep]
   intro e2 u2 l2 g2 b2 hM2
   rw [hM] at hM2
   cases hM2
   exact ⟨hgg, fun _ _ => ⟨e', u', l', a, cap, hat, hhd, hlt, by rw [Addr.add_add _ _ _ has, Nat.add_assoc]⟩⟩
  case h_1 e1 u1 l1 g1 hl =>
   obtain ⟨hok, hc⟩ := sw_some hc
   simp only [Option.some.injEq] at hc
   subst hc
   have hM : M.h id = .arr e1 u1 l1 g1 := by rw [hh id (by rw [hl]; simp), hl]
   simp only [AVRep] at hx
   obtain ⟨hgg, hx⟩ := rowOld hx hM
   obtain ⟨e', u', l', a, cap, hat, hhd, hlt, hv⟩ := hx hok
   obtain ⟨hp1, F, hsl, _, hown⟩ := hi.arr hM
   obtain ⟨hp', F1, F', F2, rfl, hsl', _⟩ := path_rep hp1 hsl hat hhd
   have has : a.spot = none := by
    rcases hsl' with ⟨h, _⟩ | ⟨a', cap', _, _, _, _, _, _, _, h, hs, _⟩
    ·simp at h
    ·simp only [Value.slice.injEq, Option.some.injEq] at h
     rw [h.1]; exact hs
   refine ⟨_, ?_, run _ hv⟩
   simp only [AVRep]
   intro e2 u2 l2 g2 b2 hM2
   rw [hM] at hM2
   cases hM2
   exact ⟨hgg, fun _ _ => ⟨e', u', l', a, cap, hat, hhd, hlt, by rw [Addr.add_add _ _ _ has, Nat.add_assoc]⟩⟩
 ·rename_i v l i' q
  simp only [Option.some.injEq] at hc
  subst hc
  simp only [AVRep] at hx
  obtain ⟨hlt, a, hrow, hv⟩ := hx
  have has : a.spot = none := by obtain ⟨_, _, _, _, _, _, _, hs, _⟩ := hrow; exact hs
  refine ⟨_, ?_, run _ hv⟩
  simp only [AVRep]
  exact ⟨hlt, a, hrow, by rw [Addr.add_add _ _ _ has, Nat.add_assoc]⟩
 ·cases hc
end
end Go.VM

namespace Go.VM
variable [Bor]
open Go.RowKit
theorem Addr.add_zero (a : Addr) : a.add 0 = a := by simp [Addr.add]
theorem im_row {M : Mem} {e u} {l : List u.El} {v} (h : AVRep M (.im (.sl e u) l) v) (hl : l ≠ []) : u.plain = true ∧ ∃ a cap, v = .slice (some a) l.length cap ∧ ImRow M.w0 M.Z u l a := by
 simp only [AVRep] at h
 obtain ⟨hg, cs, F, hval, ⟨v', rfl, hr⟩, hZ⟩ := h
 have hval : v = v' := by simpa [valC, U.isAgg] using hval
 subst hval
 rcases hr with (⟨_, h, _⟩ | ⟨a, cap, c, t, fz, p, m, q, G, rfl, hs, he, hlc, hh, hc, hpl, hr, rfl, _⟩) | ⟨_, _, h, _⟩
 rotate_left 2
 ·exact absurd h hl
 ·exact absurd h hl
 ·exact ⟨hg, a, cap, rfl, c, t, fz, p, m, q, G, hs, hh, hc, hpl, hr, hZ _ (by simp), fun b hb => hZ b (by simp [hb])⟩
section
variable {X : Cx} {ρ : Type} {base : Nat} {h : Hp} {K : AV → Hp → Option ρ} {y : ρ}
theorem inB_iff {i : Int} {n : Nat} : inB i n = true ↔ 0 ≤ i ∧ i < (n : Int) := by simp [inB]
theorem run_indexAt_slice {P : Program} {t el : TypeId} {i : TypeInfo} {W : World} {k : IntKind} {n : Int} {a : Addr} {len cap : Nat} (ht : P.underlying t = some (.slice el)) (he : P.info? el = some i) (h0 : 0 ≤ n) (h1 : n < (len : Int)) :
  (Instr.indexAt t (.slice (some a) len cap) (.int k n)).run P W = .ok (.pointer (some (a.add (n.toNat * i.size)))) W := by
 simp [Instr.indexAt, asIntOf, run_underlying ht, run_sizeOf he, h0, h1]
theorem run_indexAt_array {P : Program} {t el : TypeId} {i : TypeInfo} {W : World} {k : IntKind} {n : Int} {a : Addr} {len : Nat} (ht : P.underlying t = some (.array len el)) (he : P.info? el = some i) (hl : 1 < len) (h0 : 0 ≤ n) (h1 : n < (len : Int)) :
  (Instr.indexAt t (.pointer (some a)) (.int k n)).run P W = .ok (.pointer (some (a.add (n.toNat * i.size)))) W := by
 simp [Instr.indexAt, asIntOf, run_underlying ht, run_sizeOf he, h0, h1, Instr.sureAddr]
theorem indexAddr_ok {t : TypeId} {u : U} {x ix : Operand} {c : AV} {k : IntKind} {n : Int} (ht : TyOK X.P t u) (hy : indexAddrA h u c n (fun v => K v []) = some y) : Good X base (.indexAddr t x ix) [c, .im (.int k) n] h K y := by
 unfold indexAddrA at hy
 split at hy
 ·-- a slice that stays
  rename_i e1 w1 e2 u2 l
  obtain ⟨hw, hy⟩ := sw_some hy
  have hw : w1 = u2 := by simpa using hw
  subst hw
  obtain ⟨hb, hy⟩ := cond_none hy
  obtain ⟨h0, h1⟩ := inB_iff.1 hb
  refine ⟨_, [], hy, OpOK.pure (by simp [refs]) ?_⟩
  intro o M tt used own ac ho hvs hh hi
  obtain ⟨e1, e2⟩ := map2 hvs
  have hx := (hi.ev x).1
  have hz := (hi.ev ix).1
  rw [e1] at hx; rw [e2] at hz
  obtain ⟨d, hd, hsh⟩ := ht.d
  obtain ⟨el, rfl, hel, _⟩ := hsh
  obtain ⟨i, z, hei, hsz, _⟩ := hel.i
  obtain ⟨_, a, cap, hv, hrow⟩ := im_row hx (by intro hn; subst hn; simp at h1; omega)
  refine ⟨.pointer (some (a.add (n.toNat * w1.sz))), ?_, ?_⟩
  ·simp only [AVRep]
   exact ⟨by omega, a, hrow, by simp⟩
  ·have := run_indexAt_slice (W := M.w) (k := k) (a := a) (cap := cap) hd hei h0 h1
   rw [hsz] at this
   simp [execOp, ho, hv, im_int hz, this]
 ·-- a borrowed slice
  rename_i e1 w1 u2 l
  obtain ⟨hw, hy⟩ := sw_some hy
  have hw : w1 = u2 := by simpa using hw
  subst hw
  obtain ⟨hb, hy⟩ := cond_none hy
  obtain ⟨h0, h1⟩ := inB_iff.1 hb
  refine ⟨_, [], hy, OpOK.pure (by simp [refs]) ?_⟩
  intro o M tt used own ac ho hvs hh hi
  obtain ⟨e1, e2⟩ := map2 hvs
  have hx := (hi.ev x).1
  have hz := (hi.ev ix).1
  rw [e1] at hx; rw [e2] at hz
  obtain ⟨d, hd, hsh⟩ := ht.d
  obtain ⟨el, rfl, hel, _⟩ := hsh
  obtain ⟨i, z, hei, hsz, _⟩ := hel.i
  obtain ⟨_, a, cap, hv, hrow⟩ := im_row (bs_im hi hx) (by intro hn; subst hn; simp at h1; omega)
  refine ⟨.pointer (some (a.add (n.toNat * w1.sz))), ?_, ?_⟩
  ·simp only [AVRep]
   exact ⟨by omega, a, hrow, by simp⟩
  ·have := run_indexAt_slice (W := M.w) (k := k) (a := a) (cap := cap) hd hei h0 h1
   rw [hsz] at this
   simp [execOp, ho, hv, im_int hz, this]
 ·-- a slice of the function's own
  rename_i e1 w1 id p w g
  split at hy
  case h_2 =>
   -- a place is taken out
   split at hy
   case h_2 => cases hy
   case h_1 e3 u3 l3 g3 i3 o3 w3 hl hs0 =>
    obtain ⟨hw, hy⟩ := sw_some hy
    have hw : w1 = u3 := by simpa using hw
    subst hw
    obtain ⟨hb, hy⟩ := cond_none hy
    obtain ⟨h0, h1⟩ := inB_iff.1 hb
    refine ⟨_, [], hy, OpOK.pure (fun j hj => ⟨.hs id [] none g, by simp, by simpa [refs] using hj⟩) ?_⟩
    intro o M tt used own ac ho hvs hh hi
    obtain ⟨e1, e2⟩ := map2 hvs
    have hx := (hi.ev x).1
    have hz := (hi.ev ix).1
    rw [e1] at hx; rw [e2] at hz
    obtain ⟨d, hd, hsh⟩ := ht.d
    obtain ⟨el, rfl, hel, _⟩ := hsh
    obtain ⟨i, z, hei, hsz, _⟩ := hel.i
    have hM : M.h id = .hol e3 w1 l3 g3 i3 o3 w3 := by rw [hh id (by rw [hl]; simp), hl]
    simp only [AVRep] at hx
    obtain ⟨hgg, hx⟩ := hx _ _ _ _ _ (rowH hM)
    obtain ⟨e', u', l', v', hat, hhd, hwin⟩ := hx rfl (fun _ => by trivial)
    simp only [atP, Option.some.injEq] at hat
    cases hat
    simp only [hdrAt, Option.some.injEq] at hhd
    simp only [Win] at hwin
    have hrt := hi.rt id
    rw [hM] at hrt
    obtain ⟨F, ⟨_, _, _, a, cap, _, _, _, _, _, _, _, hv', hs, _⟩, _⟩ := hrt
    have hv : ac.eval x = .slice (some a) l3.length cap := by rw [hwin, ← hhd, hv']
    refine ⟨.pointer (some (a.add (n.toNat * w1.sz))), ?_, ?_⟩
    ·simp only [AVRep]
     intro e5 u5 l5 g5 b5 hM5
     rw [hM] at hM5
     cases hM5
     exact ⟨hgg, fun _ _ => ⟨e3, w1, l3, a, cap, rfl, by simp only [hdrAt]; rw [hv'], by omega, by rw [Nat.add_zero]⟩⟩
    ·have := run_indexAt_slice (W := M.w) (k := k) (a := a) (cap := cap) hd hei h0 h1
     rw [hsz] at this
     simp [execOp, ho, hv, im_int hz, this]
  case h_1 e3 u3 l3 hsl =>
   obtain ⟨hw, hy⟩ := sw_some hy
   have hw : w1 = u3 := by simpa using hw
   subst hw
   obtain ⟨hb, hy⟩ := cond_none hy
   obtain ⟨h0, h1⟩ := inB_iff.1 hb
   refine ⟨_, [], hy, OpOK.pure (fun j hj => ⟨.hs id p w g, by simp, by simpa [refs] using hj⟩) ?_⟩
   intro o M tt used own ac ho hvs hh hi
   obtain ⟨e1, e2⟩ := map2 hvs
   have hx := (hi.ev x).1
   have hz := (hi.ev ix).1
   rw [e1] at hx; rw [e2] at hz
   obtain ⟨d, hd, hsh⟩ := ht.d
   obtain ⟨el, rfl, hel, _⟩ := hsh
   obtain ⟨i, z, hei, hsz, _⟩ := hel.i
   -- what the slice is
   unfold slice? at hsl
   simp only at hsl
   cases hl : lkH h id with
   | dead => rw [hl] at hsl; cases hsl
   | obj cs => rw [hl] at hsl; cases hsl
   | imm u x => rw [hl] at hsl; cases hsl
   | bld T t f0 l0 => rw [hl] at hsl; cases hsl
   | hol e0 u0 l0 g0 i0 o0 w0 => rw [hl] at hsl; cases hsl
   | tre u9 t9 => rw [hl] at hsl; cases hsl
   | mpt T9 l9 => rw [hl] at hsl; cases hsl
   | arr e4 u4 l4 g4 =>
    rw [hl] at hsl
    simp only at hsl
    obtain ⟨hok, hsl⟩ := sw_some hsl
    have hM : M.h id = .arr e4 u4 l4 g4 := by rw [hh id (by rw [hl]; simp), hl]
    simp only [AVRep] at hx
    obtain ⟨hgg, hx⟩ := rowOld hx hM
    obtain ⟨e', u', l', v', hat, hhd, hwin⟩ := hx hok
    rw [hat] at hsl
    simp only [Option.some.injEq] at hsl
    cases hsl
    obtain ⟨hp1, F, hsl', _, hown⟩ := hi.arr hM
    obtain ⟨hp', F1, F', F2, rfl, hsl2, _⟩ := path_rep hp1 hsl' hat hhd
    -- the header is there
    have hhead : ∃ a cap, v' = .slice (some a) l'.length cap ∧ a.spot = none := by
     rcases hsl2 with ⟨hn, hn', _⟩ | ⟨a, cap, _, _, _, _, _, _, _, h, hs, _⟩
     ·exfalso
      subst hn'
      have : (win w ([] : List w1.El)).length = 0 := by cases w <;> simp [win]
      rw [this] at h1; simp at h1; omega
     ·exact ⟨a, cap, h, hs⟩
    obtain ⟨a, cap, rfl, has⟩ := hhead
    have key : ∃ ad cap', ac.eval x = .slice (some ad) (win w l').length cap' ∧ ad = a.add (wOff w * w1.sz) ∧ wOff w + n.toNat < l'.length := by
     cases w with
     | none =>
      simp only [Win] at hwin
      simp only [win] at h1 ⊢
      exact ⟨a, cap, hwin, by simp [wOff, Addr.add_zero], by simp only [wOff]; omega⟩
     | some qn =>
      obtain ⟨q, m⟩ := qn
      simp only [Win] at hwin
      simp only [win] at h1 ⊢
      rcases hwin with ⟨hv0, _⟩ | ⟨ad0, len, cap0, kk, hv0, hn, hlc', hv1, hkc, hof, _⟩
      ·simp at hv0
      ·simp only [Value.slice.injEq, Option.some.injEq] at hv0
       obtain ⟨rfl, rfl, rfl⟩ := hv0
       have hlen : ((l'.drop q).take m).length = m := by rw [List.length_take, List.length_drop]; omega
       rw [hlen] at h1 ⊢
       refine ⟨a.add (kk * w1.sz), cap - q, hv1, ?_, by simp only [wOff]; omega⟩
       rcases hof with h | h
       ·exfalso; subst h; simp at h1; omega
       ·rw [h]; rfl
    obtain ⟨ad, cap', hv, rfl, hlt⟩ := key
    refine ⟨.pointer (some ((a.add (wOff w * w1.sz)).add (n.toNat * w1.sz))), ?_, ?_⟩
    ·simp only [AVRep]
     intro e5 u5 l5 g5 b5 hM5
     rw [hM] at hM5
     cases hM5
     exact ⟨hgg, fun _ _ => ⟨e', w1, l', a, cap, hat, hhd, hlt, by rw [Addr.add_add _ _ _ has, ← Nat.add_mul, Nat.add_zero]⟩⟩
    ·have := run_indexAt_slice (W := M.w) (k := k) (a := a.add (wOff w * w1.sz)) (cap := cap') hd hei h0 h1
     rw [hsz] at this
     simp [execOp, ho, hv, im_int hz, this]
 ·-- an array of the function's own
  rename_i m1 w1 id
  split at hy
  case h_2 => cases hy
  case h_1 e3 u3 l3 g3 hl =>
   obtain ⟨hw, hy⟩ := sw_some hy
   simp only [Bool.and_eq_true, decide_eq_true_eq] at hw
   obtain ⟨rfl, hm⟩ := hw
   obtain ⟨hb, hy⟩ := cond_none hy
   obtain ⟨h0, h1⟩ := inB_iff.1 hb
   obtain ⟨hb2, hy⟩ := cond_none hy
   obtain ⟨_, h2⟩ := inB_iff.1 hb2
   refine ⟨_, [], hy, OpOK.pure (fun j hj => ⟨.po id 0, by simp, by simpa [refs] using hj⟩) ?_⟩
   intro o M tt used own ac ho hvs hh hi
   obtain ⟨e1, e2⟩ := map2 hvs
   have hx := (hi.ev x).1
   have hz := (hi.ev ix).1
   rw [e1] at hx; rw [e2] at hz
   obtain ⟨d, hd, hsh⟩ := ht.d
   obtain ⟨el, rfl, hel⟩ := hsh
   obtain ⟨i, z, hei, hsz, _⟩ := hel.i
   have hM : M.h id = .arr e3 w1 l3 g3 := by rw [hh id (by rw [hl]; simp), hl]
   simp only [AVRep] at hx
   obtain ⟨a, ha, hv⟩ := hx (by rw [hM]; simp)
   rw [Addr.add_zero] at hv
   refine ⟨.pointer (some (a.add (n.toNat * w1.sz))), ?_, ?_⟩
   ·simp only [AVRep]
    intro e5 u5 l5 g5 b5 hM5
    rw [hM] at hM5
    cases hM5
    refine ⟨.inl trivial, fun _ _ => ⟨e3, w1, l3, a, (M.r id).2, rfl, ?_, by omega, by simp⟩⟩
    simp only [hdrAt, hdr, ha]
   ·have := run_indexAt_array (W := M.w) (k := k) (a := a) hd hei hm h0 h1
    rw [hsz] at this
    simp [execOp, ho, hv, im_int hz, this]
 ·-- an array that stays
  rename_i m1 w1 m2 u2 l j
  obtain ⟨hw, hy⟩ := sw_some hy
  simp only [Bool.and_eq_true, decide_eq_true_eq] at hw
  obtain ⟨⟨rfl, hmm⟩, hm⟩ := hw
  have hmm : m1 = m2 := by simpa using hmm
  subst hmm
  obtain ⟨hb, hy⟩ := cond_none hy
  obtain ⟨h0, h1⟩ := inB_iff.1 hb
  refine ⟨_, [], hy, OpOK.pure (by simp [refs]) ?_⟩
  intro o M tt used own ac ho hvs hh hi
  obtain ⟨e1, e2⟩ := map2 hvs
  have hx := (hi.ev x).1
  have hz := (hi.ev ix).1
  rw [e1] at hx; rw [e2] at hz
  obtain ⟨d, hd, hsh⟩ := ht.d
  obtain ⟨el, rfl, hel⟩ := hsh
  obtain ⟨i, z, hei, hsz, _⟩ := hel.i
  simp only [AVRep] at hx
  obtain ⟨hjl, a, hrow, hv⟩ := hx
  obtain ⟨c, t', fz, p, m, q, G, hs, hh', hc, hpl, hr, hZb, hZ⟩ := hrow
  obtain ⟨c1, c2, c3, F1, F2, F3, rfl, rfl, hl1, hxr, _⟩ := RepL.at (n := (U.ar m1 w1).sz) (fun _ _ _ => Rep.length) ([] : List w1.El) j hr hjl
  have hxr : (l.getD j []).length = m1 ∧ RepL (Rep M.w0 false w1) (l.getD j []) c2 F2 := hxr
  rw [Nat.add_zero] at hv
  refine ⟨.pointer (some ((a.add (j * (U.ar m1 w1).sz)).add (n.toNat * w1.sz))), ?_, ?_⟩
  ·simp only [AVRep]
   refine ⟨by rw [hxr.1]; omega, a.add (j * (U.ar m1 w1).sz), ?_, by simp⟩
   refine ⟨c, t', fz, p ++ c1, c2, c3 ++ q, F2, Addr.add_spot hs _, ?_, by rw [hc]; simp, ?_, hxr.2, ?_, fun b hb => hZ b (by simp [hb])⟩
   ·rw [Addr.add_block]; exact hh'
   ·rw [List.length_append, hl1, hpl, Addr.add_off]
   ·rw [Addr.add_block]; exact hZb
  ·have := run_indexAt_array (W := M.w) (k := k) (a := a.add (j * (U.ar m1 w1).sz)) hd hei hm h0 h1
   rw [hsz] at this
   simp only [execOp, ho, hv, im_int hz, Sem.run_bind, this]
   rfl
 ·cases hy
end
end Go.VM

namespace Go.VM
variable [Bor]
open Go.RowKit
def LoV : Option Int → Option Value → Prop
 | none, v => v = none
 | some n, v => ∃ k, v = some (.int k n)
theorem run_bounds {P : Program} {W : World} {b : Bool} {len cap : Nat} {lo hi : Option Int} {lv hv : Option Value} (hl : LoV lo lv) (hh : LoV hi hv) (h : inC (orZ lo 0) (orZ hi len) len = true) (hc : len ≤ cap) :
  (Instr.sliceBounds b len cap lv hv none).run P W = .ok ((orZ lo 0).toNat, (orZ hi len).toNat, cap) W := by
 have h : 0 ≤ orZ lo 0 ∧ orZ lo 0 ≤ orZ hi len ∧ orZ hi len ≤ len := by simpa [inC] using h
 cases hi with
 | none =>
  simp only [LoV] at hh; subst hh
  simp only [orZ, Option.getD_none] at h ⊢
  cases lo with
  | none =>
   simp only [LoV] at hl; subst hl
   simp [Instr.sliceBounds, orZ]
  | some n =>
   obtain ⟨k, rfl⟩ := hl
   simp only [Option.getD_some] at h ⊢
   simp [Instr.sliceBounds, Instr.sliceBound, asIntOf, h.1, h.2.1]
 | some m =>
  obtain ⟨k', rfl⟩ := hh
  simp only [orZ, Option.getD_some] at h ⊢
  have hm : m ≤ (cap : Int) := by omega
  have hm0 : 0 ≤ m := by omega
  cases lo with
  | none =>
   simp only [LoV] at hl; subst hl
   simp [Instr.sliceBounds, Instr.sliceBound, asIntOf, hm, hm0]
  | some n =>
   obtain ⟨k, rfl⟩ := hl
   simp only [Option.getD_some] at h ⊢
   have : n ≤ ((m.toNat : Nat) : Int) := by omega
   have h3 : n ≤ max m 0 := by omega
   simp [Instr.sliceBounds, Instr.sliceBound, asIntOf, hm, hm0, h.1, this, h3]
theorem run_sliceAt {P : Program} {t el : TypeId} {i : TypeInfo} {W : World} {a : Option Addr} {len cap : Nat} {lo hi : Option Int} {lv hv : Option Value} (ht : P.underlying t = some (.slice el)) (he : P.info? el = some i) (hl : LoV lo lv) (hh : LoV hi hv) (h : inC (orZ lo 0) (orZ hi len) len = true) (hc : len ≤ cap) :
  (Instr.sliceAt t (.slice a len cap) lv hv none).run P W = .ok (.slice (if cap = (orZ lo 0).toNat then a else a.map (·.add ((orZ lo 0).toNat * i.size))) ((orZ hi len).toNat - (orZ lo 0).toNat) (cap - (orZ lo 0).toNat)) W := by
 have := run_bounds (P := P) (W := W) (b := true) hl hh h hc
 simp [Instr.sliceAt, Instr.slice, run_underlying ht, this, run_sizeOf he]
theorem run_sliceStr {P : Program} {t : TypeId} {W : World} {s : ByteArray} {lo hi : Option Int} {lv hv : Option Value} (ht : P.underlying t = some .string) (hl : LoV lo lv) (hh : LoV hi hv) (h : inC (orZ lo 0) (orZ hi s.size) s.size = true) :
  (Instr.sliceAt t (.string s) lv hv none).run P W = .ok (.string (s.extract (orZ lo 0).toNat (orZ hi s.size).toNat)) W := by
 have := run_bounds (P := P) (W := W) (b := false) hl hh h (Nat.le_refl _)
 simp [Instr.sliceAt, Instr.slice, run_underlying ht, this]
section
variable {X : Cx} {ρ : Type} {base : Nat} {h : Hp} {K : AV → Hp → Option ρ} {y : ρ}
theorem slice_ok {t : TypeId} {u : U} {x : Operand} {lo hi : Option Int} {c : AV} {lop hip : Option Operand} {vs : List AV} (ht : TyOK X.P t u)
  (hops : ∀ (E : En) tt, (Op.slice t x lop hip none).operands.toList.map (evA E tt) = c :: vs → evA E tt x = c ∧
   (∀ M (f : Operand → Value), (∀ z, AVRep M (evA E tt z) (f z)) → LoV lo (lop.map f) ∧ LoV hi (hip.map f)))
  (hy : sliceA h u c lo hi (fun v => K v []) = some y) : Good X base (.slice t x lop hip none) (c :: vs) h K y := by
 unfold sliceA at hy
 split at hy
 ·-- a text
  rename_i s
  obtain ⟨hb, hy⟩ := cond_none hy
  refine ⟨_, [], hy, OpOK.pure (by simp [refs]) ?_⟩
  intro o M tt used own ac ho hvs hh hI
  obtain ⟨e1, e2⟩ := hops _ _ hvs
  obtain ⟨hl, hu⟩ := e2 M ac.eval (fun z => (hI.ev z).1)
  have hx := (hI.ev x).1
  rw [e1] at hx
  obtain ⟨d, hd, rfl⟩ := ht.d
  refine ⟨_, mk_str, ?_⟩
  have := run_sliceStr (W := M.w) hd hl hu hb
  simp [execOp, ho, im_str hx, this]
 ·-- a slice that stays
  rename_i e1 w1 e2 u2 l
  obtain ⟨hw, hy⟩ := sw_some hy
  have hw : w1 = u2 := by simpa using hw
  subst hw
  obtain ⟨hb, hy⟩ := cond_none hy
  refine ⟨_, [], hy, OpOK.pure (by simp [refs]) ?_⟩
  intro o M tt used own ac ho hvs hh hI
  obtain ⟨e1, e2⟩ := hops _ _ hvs
  obtain ⟨hl, hu⟩ := e2 M ac.eval (fun z => (hI.ev z).1)
  have hx := (hI.ev x).1
  rw [e1] at hx
  obtain ⟨d, hd, hsh⟩ := ht.d
  obtain ⟨el, rfl, hel, _⟩ := hsh
  obtain ⟨i, z, hei, hsz, _⟩ := hel.i
  have hb' : 0 ≤ orZ lo 0 ∧ orZ lo 0 ≤ orZ hi l.length ∧ orZ hi l.length ≤ l.length := by simpa [inC] using hb
  simp only [AVRep] at hx
  obtain ⟨hg, cs, F, hval, ⟨v', rfl, hr⟩, hZ⟩ := hx
  have hval : ac.eval x = v' := by simpa [valC, U.isAgg] using hval
  subst hval
  generalize hA : (orZ lo 0).toNat = A at hy
  generalize hB : (orZ hi l.length).toNat = B at hy
  have hAB : A ≤ B ∧ B ≤ l.length := by omega
  have hlen : ((l.take B).drop A).length = B - A := by rw [List.length_drop, List.length_take]; omega
  rcases hr with (⟨hv, rfl, rfl⟩ | ⟨a, cap, cc, t', fz, p, m, q, G, hv, hs, he, hlc, hh', hc, hpl, hr, rfl, _⟩) | ⟨_, _, rfl, rfl, a, cap, hv⟩
  rotate_left 2
  ·have hrun := run_sliceAt (W := M.w) (a := some a) (cap := cap) hd hei hl hu hb (Nat.zero_le _)
   rw [hA, hB, hsz] at hrun
   have hA0 : A = 0 := by have := hAB.1; have := hAB.2; simp at this; omega
   have hB0 : B = 0 := by have := hAB.2; simpa using this
   subst hA0; subst hB0
   simp only [List.length_nil] at hrun
   refine ⟨_, ?_, by simp only [execOp, ho, hv, Option.map_none, Sem.run_bind, hrun]; rfl⟩
   simp only [AVRep]
   by_cases hcap : cap = 0
   ·rw [if_pos hcap]
    exact ⟨hg, [.slice (some a) (0 - 0) (cap - 0)], [], by simp [valC, U.isAgg], ⟨_, rfl, .inr ⟨rfl, rfl, by simp, rfl, a, cap - 0, rfl⟩⟩, by simp⟩
   ·rw [if_neg hcap]
    exact ⟨hg, [.slice (some (a.add (0 * w1.sz))) (0 - 0) (cap - 0)], [], by simp [valC, U.isAgg], ⟨_, rfl, .inr ⟨rfl, rfl, by simp, rfl, a.add (0 * w1.sz), cap - 0, rfl⟩⟩, by simp⟩
  ·have hrun := run_sliceAt (W := M.w) (a := none) (cap := 0) hd hei hl hu hb (Nat.le_refl _)
   refine ⟨.slice none 0 0, ?_, ?_⟩
   ·simp only [AVRep]
    exact ⟨hg, [_], [], by simp [valC, U.isAgg], ⟨_, rfl, .inl (.inl ⟨rfl, by simp, rfl⟩)⟩, by simp⟩
   ·rw [hA, hB] at hrun
    have hA0 : A = 0 := by have := hAB.1; have := hAB.2; simp at this; omega
    have hB0 : B = 0 := by have := hAB.2; simpa using this
    subst hA0; subst hB0
    simp only [List.length_nil, if_pos, Nat.sub_self] at hrun
    simp only [execOp, ho, hv, Option.map_none, Sem.run_bind, hrun]
    rfl
  ·have hrun := run_sliceAt (W := M.w) (a := some a) (cap := cap) hd hei hl hu hb hlc
   rw [hA, hB, hsz] at hrun
   obtain ⟨d1, d2, G2, rfl, hr2, hG2⟩ := RepL.take B hr
   obtain ⟨c1, c2, G1, rfl, hl1, hr1, hG1⟩ := RepL.drop (n := w1.sz) (fun _ _ _ => Rep.length) A hr2 (by rw [List.length_take]; omega)
   refine ⟨_, ?_, by simp only [execOp, ho, hv, Option.map_none, Sem.run_bind, hrun]; rfl⟩
   simp only [AVRep]
   by_cases hcap : cap = A
   ·rw [if_pos hcap]
    have hnil : (l.take B).drop A = [] := List.eq_nil_of_length_eq_zero (by rw [hlen]; omega)
    refine ⟨hg, [.slice (some a) (B - A) (cap - A)], [a.block], by simp [valC, U.isAgg], ⟨_, rfl, .inl <| .inr ⟨a, cap - A, cc, t', fz, p, [], c1 ++ c2 ++ d2 ++ q, [], ?_, hs, (fun h => by cases h), ?_, hh', by rw [hc]; simp, hpl, ?_, rfl, fun h => by cases h⟩⟩, ?_⟩
    ·rw [hlen]
    ·rw [hlen]; omega
    ·rw [hnil]; exact ⟨rfl, rfl⟩
    ·intro b hbm; simp at hbm; subst hbm; exact hZ _ (by simp)
   ·rw [if_neg hcap]
    refine ⟨hg, [.slice (some (a.add (A * w1.sz))) (B - A) (cap - A)], (a.add (A * w1.sz)).block :: G1, by simp [valC, U.isAgg], ⟨_, rfl, .inl <| .inr ⟨a.add (A * w1.sz), cap - A, cc, t', fz, p ++ c1, c2, d2 ++ q, G1, ?_, Addr.add_spot hs _, (fun h => by cases h), ?_, ?_, by rw [hc]; simp, ?_, hr1, rfl, fun h => by cases h⟩⟩, ?_⟩
    ·rw [hlen]
    ·rw [hlen]; omega
    ·rw [Addr.add_block]; exact hh'
    ·rw [List.length_append, hpl, hl1, Addr.add_off]
    ·intro b hbm
     rw [Addr.add_block] at hbm
     rcases List.mem_cons.1 hbm with rfl | hbm
     ·exact hZ _ (by simp)
     ·exact hZ _ (List.mem_cons_of_mem _ (hG2 b (hG1 b hbm)))
 ·-- a slice of the function's own
  rename_i e1 w1 id p w g
  split at hy
  case h_2 => cases hy
  case h_1 e3 u3 l hsl =>
   obtain ⟨hw, hy⟩ := sw_some hy
   have hw : w1 = u3 := by simpa using hw
   subst hw
   obtain ⟨hb, hy⟩ := cond_none hy
   refine ⟨_, [], hy, OpOK.pure (fun j hj => ⟨.hs id p w g, by simp, by simpa [refs] using hj⟩) ?_⟩
   intro o M tt used own ac ho hvs hh hI
   obtain ⟨e1, e2⟩ := hops _ _ hvs
   obtain ⟨hlo, hup⟩ := e2 M ac.eval (fun z => (hI.ev z).1)
   have hx := (hI.ev x).1
   rw [e1] at hx
   obtain ⟨d, hd, hsh⟩ := ht.d
   obtain ⟨el, rfl, hel, _⟩ := hsh
   obtain ⟨i, z, hei, hsz, _⟩ := hel.i
   have hb' : 0 ≤ orZ lo 0 ∧ orZ lo 0 ≤ orZ hi l.length ∧ orZ hi l.length ≤ l.length := by simpa [inC] using hb
   have hview := look hI hh hsl hx
   obtain ⟨va, vcap, hvv, hvl, _, _⟩ := hview.head
   have hrun := run_sliceAt (W := M.w) (a := va) (cap := vcap) hd hei hlo hup hb hvl
   rw [hsz] at hrun
   generalize hA : (orZ lo 0).toNat = A at hy hrun ⊢
   generalize hB : (orZ hi l.length).toNat = B at hy hrun ⊢
   have hAB : A ≤ B ∧ B ≤ l.length := by omega
   refine ⟨_, ?_, by simp only [execOp, ho, hvv, Option.map_none, Sem.run_bind, hrun]; rfl⟩
   unfold slice? at hsl
   simp only at hsl
   cases hl : lkH h id with
   | dead => rw [hl] at hsl; cases hsl
   | obj cs => rw [hl] at hsl; cases hsl
   | imm u x => rw [hl] at hsl; cases hsl
   | bld T t f0 l0 => rw [hl] at hsl; cases hsl
   | hol e0 u0 l0 g0 i0 o0 w0 => rw [hl] at hsl; cases hsl
   | tre u9 t9 => rw [hl] at hsl; cases hsl
   | mpt T9 l9 => rw [hl] at hsl; cases hsl
   | arr e4 u4 l4 g4 =>
    rw [hl] at hsl
    simp only at hsl
    obtain ⟨hok, hsl⟩ := sw_some hsl
    have hM : M.h id = .arr e4 u4 l4 g4 := by rw [hh id (by rw [hl]; simp), hl]
    simp only [AVRep] at hx ⊢
    intro e5 u5 l5 g5 b5 hM5
    rw [hM] at hM5
    cases hM5
    obtain ⟨hgg, hx⟩ := rowOld hx hM
    refine ⟨hgg, fun _ _ => ?_⟩
    obtain ⟨e', u', l', v', hat, hhd, hwin⟩ := hx hok
    rw [hat] at hsl
    simp only [Option.some.injEq] at hsl
    cases hsl
    refine ⟨e', w1, l', v', hat, hhd, ?_⟩
    -- the header
    obtain ⟨hp1, F, hsl', _, hown⟩ := hI.arr hM
    obtain ⟨hp', F1, F', F2, rfl, hsl2, _⟩ := path_rep hp1 hsl' hat hhd
    have hhead : (v' = .slice none 0 0 ∧ l' = []) ∨ ∃ a cap, v' = .slice (some a) l'.length cap ∧ l'.length ≤ cap := by
     rcases hsl2 with ⟨hn, hn', _⟩ | ⟨a, cap, _, _, _, _, _, _, _, h, hs, _, hlc, _⟩
     ·exact .inl ⟨hn, hn'⟩
     ·exact .inr ⟨a, cap, h, hlc⟩
    have hsp : ∀ a n cap, v' = .slice (some a) n cap → a.spot = none := by
     intro a n cap hv
     rcases hsl2 with ⟨hn, _⟩ | ⟨a', cap', _, _, _, _, _, _, _, h, hs, _⟩
     ·rw [hn] at hv; simp at hv
     ·rw [h] at hv; simp only [Value.slice.injEq, Option.some.injEq] at hv; rw [← hv.1]; exact hs
    cases w with
    | none =>
     simp only [Win] at hwin
     simp only [win] at hvv hvl hAB hB
     simp only [Win, wOff, Nat.zero_add]
     rw [hvv] at hwin
     rcases hhead with ⟨rfl, rfl⟩ | ⟨a, cap, rfl, hlc⟩
     ·left
      simp only [Value.slice.injEq] at hwin
      obtain ⟨rfl, _, rfl⟩ := hwin
      simp only [List.length_nil] at hAB
      have hA0 : A = 0 := by omega
      have hB0 : B = 0 := by omega
      subst hA0; subst hB0
      simp
     ·right
      simp only [Value.slice.injEq] at hwin
      obtain ⟨rfl, _, rfl⟩ := hwin
      refine ⟨a, l'.length, vcap, if vcap = A then 0 else A, rfl, by omega, hlc, ?_, ?_, ?_, fun h => by split <;> omega⟩
      ·by_cases hc : vcap = A
       ·rw [if_pos hc, if_pos hc, Nat.zero_mul, Addr.add_zero]
       ·rw [if_neg hc, if_neg hc]; rfl
      ·split <;> omega
      ·by_cases hc : vcap = A
       ·left; omega
       ·right; rw [if_neg hc]
    | some qn =>
     obtain ⟨q, n⟩ := qn
     simp only [Win] at hwin
     simp only [Win, wOff]
     simp only [win] at hvv hvl hAB hB
     rcases hwin with ⟨hv0, rfl, rfl, hv1⟩ | ⟨ad0, len, cap0, kk, hv0, hn, hlc', hv1, hkc, hof, hz0⟩
     ·left
      rw [hvv] at hv1
      simp only [Value.slice.injEq] at hv1
      obtain ⟨rfl, hl0, rfl⟩ := hv1
      rw [hl0] at hAB
      have hA0 : A = 0 := by omega
      have hB0 : B = 0 := by omega
      subst hA0; subst hB0
      exact ⟨hv0, rfl, rfl, by simp⟩
     ·right
      rw [hvv] at hv1
      simp only [Value.slice.injEq] at hv1
      obtain ⟨rfl, hln, rfl⟩ := hv1
      rw [hln] at hAB
      refine ⟨ad0, len, cap0, if cap0 - q = A then kk else kk + A, hv0, by omega, hlc', ?_, ?_, ?_, fun h => by have := hz0 (by omega); split <;> omega⟩
      ·rw [Nat.sub_sub]
       by_cases hc : cap0 - q = A
       ·rw [if_pos hc, if_pos hc]
       ·rw [if_neg hc, if_neg hc, Nat.add_mul, ← Addr.add_add _ _ _ (hsp _ _ _ hv0)]; rfl
      ·split
       ·exact hkc
       ·rcases hof with h | h <;> omega
      ·by_cases hc : cap0 - q = A
       ·left; omega
       ·rw [if_neg hc]
        rcases hof with h | h
        ·left; omega
        ·right; omega
 ·cases hy
end
end Go.VM

namespace Go.VM
variable [Bor]
open Go.RowKit
def valOf (u : U) (cs : List Value) : Value := if u.isAgg then .agg cs.toArray else cs.headD undef
theorem isAgg_run {P : Program} {t : TypeId} {u : U} (ht : TyOK P t u) (W : World) : (isAgg t).run P W = .ok u.isAgg W := by
 obtain ⟨d, hd, hsh⟩ := ht.d
 have h1 := run_underlying hd W
 cases u with
 | bool => obtain rfl : d = .bool := hsh; simp [isAgg, h1, U.isAgg]
 | int k => obtain rfl : d = .int k := hsh; simp [isAgg, h1, U.isAgg]
 | str => obtain rfl : d = .string := hsh; simp [isAgg, h1, U.isAgg]
 | sl e v => obtain ⟨el, rfl, _⟩ := hsh; simp [isAgg, h1, U.isAgg]
 | unit => obtain ⟨fs, rfl, _⟩ := hsh; simp [isAgg, h1, U.isAgg]
 | pair a b => obtain ⟨fs, rfl, _⟩ := hsh; simp [isAgg, h1, U.isAgg]
 | ar n v => obtain ⟨el, rfl, _⟩ := hsh; simp [isAgg, h1, U.isAgg]
 | bs v => exact hsh.elim
 | pt v => obtain ⟨el, rfl⟩ := hsh; simp [isAgg, h1, U.isAgg]
 | tr v => obtain ⟨fs, rfl, _⟩ := hsh; simp [isAgg, h1, U.isAgg]
 | oth =>
  simp only [isAgg, Sem.run_bind, h1, Result.andThen_ok, U.isAgg]
  split
  ·rename_i fs; exact absurd rfl (hsh.1 fs)
  ·rename_i n el; exact absurd rfl (hsh.2 n el)
  ·rfl
theorem load_run {P : Program} {t : TypeId} {u : U} {W : World} {a : Addr} {cs : List Value} (ht : TyOK P t u) (hl : cs.length = u.sz) (h1 : u.isAgg = false → u.sz = 1) (hc : ∀ j v, cs[j]? = some v → W.cell? (a.add j) = some v) :
  (loadVar t a).run P W = .ok (valOf u cs) W := by
 obtain ⟨i, hi, hs⟩ := ht.i
 cases hA : u.isAgg with
 | true =>
  have := run_loadCells_list (P := P) (w := W) a cs hc
  rw [hl] at this
  simp only [loadVar, Sem.run_bind, isAgg_run ht, Result.andThen_ok, hA, if_true, run_sizeOf hi, hs, this, valOf]
  rfl
 | false =>
  have h1 := h1 hA
  obtain ⟨v, rfl⟩ : ∃ v, cs = [v] := by
   match cs, (by rw [hl, h1] : cs.length = 1) with
   | [v], _ => exact ⟨v, rfl⟩
  have := hc 0 v rfl
  rw [Addr.add_zero] at this
  simp only [loadVar, Sem.run_bind, isAgg_run ht, Result.andThen_ok, hA, if_false, valOf, Bool.false_eq_true]
  show (Sem.load .plain a Sem.pure).run P W = _
  simp [Sem.run, this]
theorem sz_one : ∀ {u : U}, u.plain = true → u.isAgg = false → u.sz = 1 ∧ u.az = 1
 | .bool, _, _ => ⟨rfl, rfl⟩ | .int _, _, _ => ⟨rfl, rfl⟩ | .str, _, _ => ⟨rfl, rfl⟩ | .sl _ _, _, _ => ⟨rfl, rfl⟩ | .oth, _, _ => ⟨rfl, rfl⟩ | .bs _, _, _ => ⟨rfl, rfl⟩ | .pt _, _, _ => ⟨rfl, rfl⟩
 | .tr _, _, h => by cases h
 | .unit, _, h => by cases h
 | .pair _ _, _, h => by cases h
 | .ar _ _, h, _ => by cases h
theorem pack_rep {M : Mem} {u : U} {cs : List AV} {vs : List Value} (hp : u.plain = true) (h : AVRepL M cs vs) (hl : cs.length = u.az) : AVRep M (pack u cs) (valOf u vs) := by
 have hv := h.length
 cases u with
 | unit => simp only [pack, AVRep, valOf, U.isAgg, if_true]; exact ⟨vs, rfl, h⟩
 | pair a b => simp only [pack, AVRep, valOf, U.isAgg, if_true]; exact ⟨vs, rfl, h⟩
 | ar n v => cases hp
 | tr a => simp only [pack, AVRep, valOf, U.isAgg, if_true]; exact ⟨vs, rfl, h⟩
 | _ =>
  simp only [U.az] at hl
  match cs, hl, h with
  | [c], _, h =>
   simp only [AVRepL] at h
   obtain ⟨v, r, rfl, h1, rfl⟩ := h
   simpa [pack, valOf, U.isAgg] using h1
theorem cells_im {M : Mem} : ∀ {u : U} {x : u.El} {cs F} (o : Nat), u.plain = true → Rep M.w0 false u x cs F → (∀ b ∈ F, M.Z b) → AVRepL M (cellsOf imSl u x o) cs
 | .bool, x, cs, F, _, _, h, hZ => by
  simp only [cellsOf, AVRepL]; rw [h.1]; exact ⟨_, _, rfl, mk_bool, rfl⟩
 | .int k, x, cs, F, _, _, h, hZ => by
  simp only [cellsOf, AVRepL]; rw [h.1]; exact ⟨_, _, rfl, mk_int, rfl⟩
 | .str, x, cs, F, _, _, h, hZ => by
  simp only [cellsOf, AVRepL]; rw [h.1]; exact ⟨_, _, rfl, mk_str, rfl⟩
 | .unit, x, cs, F, _, _, h, hZ => by simp only [cellsOf, AVRepL]; exact h.1
 | .oth, x, cs, F, _, _, h, hZ => by
  obtain ⟨rfl, v, rfl, _⟩ := h
  simp only [cellsOf, AVRepL]; exact ⟨v, [], rfl, by simp only [AVRep], rfl⟩
 | .bs u, x, cs, F, _, hp, h, hZ => by
  obtain ⟨rfl, v, rfl, ho⟩ := h
  simp only [cellsOf, AVRepL]
  refine ⟨v, [], rfl, ?_, rfl⟩
  simp only [AVRep]
  exact ⟨hp, [v], [], by simp [valC, U.isAgg], ⟨rfl, v, rfl, ho⟩, by simp⟩
 | .pt u, x, cs, F, _, hp, h, hZ => by
  have h' := h
  obtain ⟨v, rfl⟩ : ∃ v, cs = [v] := by
   have := Rep.length h
   match cs, this with
   | [v], _ => exact ⟨v, rfl⟩
  simp only [cellsOf, imSl, AVRepL]
  refine ⟨v, [], rfl, ?_, rfl⟩
  simp only [AVRep]
  exact ⟨hp, [v], F, by simp [valC, U.isAgg], h', hZ⟩
 | .tr u, x, cs, F, o, hp, h, hZ => by
  have hp' := hp
  simp only [U.plain, Bool.and_eq_true] at hp
  obtain ⟨c, kv, rfl, h1, h2⟩ := tr_split hp.2 h
  simp only [cellsOf]
  refine AVRepL.append (cells_im o hp.1 h1 (fun b hb => by cases hb)) ?_
  simp only [imSl, AVRepL]
  refine ⟨kv, [], rfl, ?_, rfl⟩
  simp only [AVRep]
  exact ⟨hp', [kv], F, by simp [valC, U.isAgg], h2, hZ⟩
 | .ar _ _, x, cs, F, _, hp, h, hZ => by cases hp
 | .sl e u, x, cs, F, _, hp, h, hZ => by
  have h' := h
  obtain ⟨v, rfl, _⟩ := h
  simp only [cellsOf, imSl, AVRepL]
  refine ⟨v, [], rfl, ?_, rfl⟩
  simp only [AVRep]
  exact ⟨hp, [v], F, by simp [valC, U.isAgg], h', hZ⟩
 | .pair a b, x, cs, F, o, hp, h, hZ => by
  obtain ⟨c, d, G, H, rfl, rfl, h1, h2⟩ := h
  simp only [U.plain, Bool.and_eq_true] at hp
  simp only [cellsOf]
  exact AVRepL.append (cells_im o hp.1 h1 (fun b hb => hZ b (by simp [hb]))) (cells_im _ hp.2 h2 (fun b hb => hZ b (by simp [hb])))
 where
 AVRepL.append {M : Mem} : ∀ {cs ds : List AV} {vs ws : List Value}, AVRepL M cs vs → AVRepL M ds ws → AVRepL M (cs ++ ds) (vs ++ ws)
  | [], _, _, _, h, k => by simp only [AVRepL] at h; subst h; exact k
  | c :: cs, _, _, _, h, k => by
   simp only [AVRepL] at h
   obtain ⟨v, r, rfl, h1, h2⟩ := h
   simp only [List.cons_append, AVRepL]
   exact ⟨v, _, rfl, h1, AVRepL.append h2 k⟩
theorem AVRepL.app {M : Mem} : ∀ {cs ds : List AV} {vs ws : List Value}, AVRepL M cs vs → AVRepL M ds ws → AVRepL M (cs ++ ds) (vs ++ ws) := cells_im.AVRepL.append
theorem atP_snoc : ∀ {p : List (Nat × Nat)} {e : Bool} {u : U} {l : List u.El} {e' u'} {k : List u'.El} {i c : Nat} {e2 u2} {k2 : List u2.El}, atP e u l p = some ⟨e', u', k⟩ → slAt u' (k.getD i u'.dflt) c = some ⟨e2, u2, k2⟩ → atP e u l (p ++ [(i, c)]) = some ⟨e2, u2, k2⟩
 | [], e, u, l, e', u', k, i, c, e2, u2, k2, h, hs => by
  simp only [atP, Option.some.injEq] at h
  cases h
  simp only [List.nil_append, atP, hs]
 | (j, d) :: p, e, u, l, e', u', k, i, c, e2, u2, k2, h, hs => by
  simp only [List.cons_append, atP] at h ⊢
  cases hq : slAt u (l.getD j u.dflt) d with
  | none => rw [hq] at h; cases h
  | some z =>
   obtain ⟨e3, u3, l3⟩ := z
   rw [hq] at h
   exact atP_snoc h hs
theorem hdrAt_snoc {w : World} : ∀ {p : List (Nat × Nat)} {e : Bool} {u : U} {l : List u.El} {v} {e' u'} {k : List u'.El} {a n cap} {i c : Nat} {v2} {e2 u2} {k2 : List u2.El}, atP e u l p = some ⟨e', u', k⟩ → hdrAt w u l v p = some (.slice (some a) n cap) → i < k.length →
  w.cell? (a.add (i * u'.sz + c)) = some v2 → slAt u' (k.getD i u'.dflt) c = some ⟨e2, u2, k2⟩ → hdrAt w u l v (p ++ [(i, c)]) = some v2
 | [], e, u, l, v, e', u', k, a, n, cap, i, c, v2, e2, u2, k2, h, hv, hi, hc, hs => by
  simp only [atP, Option.some.injEq] at h
  cases h
  simp only [hdrAt, Option.some.injEq] at hv
  subst hv
  simp only [List.nil_append, hdrAt, if_pos hi, hc, hs]
 | (j, d) :: p, e, u, l, v, e', u', k, a, n, cap, i, c, v2, e2, u2, k2, h, hv, hi, hc, hs => by
  simp only [List.cons_append, hdrAt] at hv ⊢
  simp only [atP] at h
  cases hq : slAt u (l.getD j u.dflt) d with
  | none => rw [hq] at h; cases h
  | some z =>
   obtain ⟨e3, u3, l3⟩ := z
   rw [hq] at h
   split at hv
   ·split at hv
    ·rename_i hj
     rw [if_pos hj]
     split at hv
     ·rename_i v1 hv1
      rw [hq] at hv
      exact hdrAt_snoc h hv hi hc hs
     ·cases hv
    ·cases hv
   ·cases hv
theorem slAt_flat : ∀ {u : U} {x : u.El} {c : Nat} {r}, u.plain = true → u.flat = true → slAt u x c = some r → False
 | .sl _ _, x, _, r, _, hf, _ => by cases hf
 | .pair a b, x, c, r, hp, hf, h => by
  simp only [U.plain, Bool.and_eq_true] at hp
  simp only [U.flat, Bool.and_eq_true] at hf
  simp only [slAt] at h
  by_cases hc : c < a.az
  ·rw [sw_true (by simpa [Nat.blt_eq] using hc)] at h; exact slAt_flat hp.1 hf.1 h
  ·rw [sw_false (blt_false hc)] at h; exact slAt_flat hp.2 hf.2 h
 | .bool, _, _, _, _, _, h => by simp [slAt] at h
 | .int _, _, _, _, _, _, h => by simp [slAt] at h
 | .str, _, _, _, _, _, h => by simp [slAt] at h
 | .unit, _, _, _, _, _, h => by simp [slAt] at h
 | .oth, _, _, _, _, _, h => by simp [slAt] at h
 | .bs _, _, _, _, _, _, h => by simp [slAt] at h
 | .pt _, _, _, _, _, hf, _ => by cases hf
 | .tr _, _, _, _, _, hf, _ => by cases hf
 | .ar _ _, _, _, _, _, _, h => by simp [slAt] at h
theorem cells_own {M : Mem} {id : Nat} {e : Bool} {u : U} {l : List u.El} {g : Nat} (hM : M.h id = .arr e u l g) {p : List (Nat × Nat)} {e' u'} {k : List u'.El} {a : Addr} {n cap i : Nat}
  (hat : atP e u l p = some ⟨e', u', k⟩) (hhd : hdrAt M.w u l (hdr (M.r id) l.length) p = some (.slice (some a) n cap)) (hi : i < k.length) (hp' : u'.plain = true)
  :
  ∀ {w : U} {x : w.El} {cs F} (o : Nat), w.plain = true → Rep M.w true w x cs F →
   (∀ c e2 (u2 : U) (k2 : List u2.El), slAt w x c = some ⟨e2, u2, k2⟩ → slAt u' (k.getD i u'.dflt) (o + c) = some ⟨e2, u2, k2⟩) → (∀ j v, cs[j]? = some v → M.w.cell? (a.add (i * u'.sz + (o + j))) = some v) →
   AVRepL M (cellsOf (fun c _ _ _ => .hs id (p ++ [(i, c)]) none g) w x o) cs
 | .bool, x, cs, F, _, _, h, _, _ => by simp only [cellsOf, AVRepL]; rw [h.1]; exact ⟨_, _, rfl, mk_bool, rfl⟩
 | .int k, x, cs, F, _, _, h, _, _ => by simp only [cellsOf, AVRepL]; rw [h.1]; exact ⟨_, _, rfl, mk_int, rfl⟩
 | .str, x, cs, F, _, _, h, _, _ => by simp only [cellsOf, AVRepL]; rw [h.1]; exact ⟨_, _, rfl, mk_str, rfl⟩
 | .unit, x, cs, F, _, _, h, _, _ => by simp only [cellsOf, AVRepL]; exact h.1
 | .oth, x, cs, F, _, _, h, _, _ => by
  obtain ⟨rfl, v, rfl, _⟩ := h
  simp only [cellsOf, AVRepL]; exact ⟨v, [], rfl, by simp only [AVRep], rfl⟩
 | .bs u, x, cs, F, _, hp, h, _, _ => by
  obtain ⟨rfl, v, rfl, ho⟩ := h
  simp only [cellsOf, AVRepL]
  refine ⟨v, [], rfl, ?_, rfl⟩
  simp only [AVRep]
  exact ⟨hp, [v], [], by simp [valC, U.isAgg], ⟨rfl, v, rfl, ho⟩, by simp⟩
 | .pt u, x, cs, F, _, hp, h, _, _ => by
  obtain ⟨v, rfl⟩ : ∃ v, cs = [v] := by
   have := Rep.length h
   match cs, this with
   | [v], _ => exact ⟨v, rfl⟩
  simp only [cellsOf, AVRepL]; exact ⟨v, [], rfl, by simp only [AVRep], rfl⟩
 | .tr u, x, cs, F, o, hp, h, hs, hc => by
  simp only [U.plain, Bool.and_eq_true] at hp
  obtain ⟨c, kv, rfl, h1, h2⟩ := tr_split hp.2 h
  have hlen := Rep.length h1
  have hz := az_sz hp.1
  simp only [cellsOf]
  refine AVRepL.app (cells_own hM hat hhd hi hp' o hp.1 h1 ?_ ?_) ?_
  ·intro c' e2 u2 k2 hq
   exact absurd (slAt_flat hp.1 hp.2 hq) (by simp)
  ·intro j v hj
   exact hc j v (by rw [List.getElem?_append_left (lt_of_getElem? hj)]; exact hj)
  ·simp only [AVRepL]
   refine ⟨kv, [], rfl, ?_, rfl⟩
   simp only [AVRep]
   intro e2 u2 l2 g2 b2 hM2
   rw [hM] at hM2
   cases hM2
   refine ⟨.inr (Nat.le_refl _), fun _ _ => ?_⟩
   have h1 := hs u.az false (.tr u) x.kids (by simp only [slAt]; rw [sw_true (by simp)])
   have h2 := hc u.az kv (by rw [List.getElem?_append_right (by omega), hlen, hz]; simp)
   exact ⟨false, .tr u, x.kids, kv, atP_snoc hat h1, hdrAt_snoc hat hhd hi h2 h1, by simp only [Win]⟩
 | .ar _ _, x, cs, F, _, hp, h, _, _ => by cases hp
 | .sl e1 u1, x, cs, F, o, hp, h, hs, hc => by
  obtain ⟨v, rfl, _⟩ := h
  simp only [cellsOf, AVRepL]
  refine ⟨v, [], rfl, ?_, rfl⟩
  simp only [AVRep]
  intro e2 u2 l2 g2 b2 hM2
  rw [hM] at hM2
  cases hM2
  refine ⟨.inr (Nat.le_refl _), fun _ _ => ?_⟩
  have h1 := hs 0 e1 u1 x (by simp [slAt])
  rw [Nat.add_zero] at h1
  have h2 := hc 0 v rfl
  rw [Nat.add_zero] at h2
  exact ⟨e1, u1, x, v, atP_snoc hat h1, hdrAt_snoc hat hhd hi h2 h1, by simp only [Win]⟩
 | .pair a1 b1, x, cs, F, o, hp, h, hs, hc => by
  obtain ⟨c, d, G, H, rfl, rfl, h1, h2⟩ := h
  simp only [U.plain, Bool.and_eq_true] at hp
  have hlen := Rep.length h1
  have hz := az_sz hp.1
  simp only [cellsOf]
  refine AVRepL.app (cells_own hM hat hhd hi hp' o hp.1 h1 ?_ ?_) (cells_own hM hat hhd hi hp' (o + a1.sz) hp.2 h2 ?_ ?_)
  ·intro c' e2 u2 k2 hq
   refine hs c' e2 u2 k2 ?_
   simp only [slAt]
   rw [sw_true, hq]
   have : c' < a1.az := slAt_lt hp.1 hq
   simpa [Nat.blt_eq] using this
  ·intro j v hj
   exact hc j v (by rw [List.getElem?_append_left (lt_of_getElem? hj)]; exact hj)
  ·intro c' e2 u2 k2 hq
   rw [Nat.add_assoc]
   refine hs (a1.sz + c') e2 u2 k2 ?_
   simp only [slAt]
   rw [sw_false (blt_false (by omega)), hz, Nat.add_sub_cancel_left, hq]
  ·intro j v hj
   rw [Nat.add_assoc]
   refine hc (a1.sz + j) v ?_
   rw [← hlen, List.getElem?_append_right (by omega), Nat.add_sub_cancel_left]
   exact hj
 where
 slAt_lt : ∀ {u : U} {x : u.El} {c : Nat} {r}, u.plain = true → slAt u x c = some r → c < u.az
  | .sl _ _, x, 0, r, _, _ => by simp [U.az]
  | .sl _ _, x, c + 1, r, _, h => by simp [slAt] at h
  | .pair a b, x, c, r, hp, h => by
   simp only [U.plain, Bool.and_eq_true] at hp
   simp only [slAt] at h
   by_cases hc : c < a.az
   ·simp only [U.az]; omega
   ·rw [sw_false (blt_false hc)] at h
    have := slAt_lt hp.2 h
    simp only [U.az]; omega
  | .bool, _, _, _, _, h => by simp [slAt] at h
  | .int _, _, _, _, _, h => by simp [slAt] at h
  | .str, _, _, _, _, h => by simp [slAt] at h
  | .unit, _, _, _, _, h => by simp [slAt] at h
  | .oth, _, _, _, _, h => by simp [slAt] at h
  | .bs _, _, _, _, _, h => by simp [slAt] at h
  | .pt _, _, _, _, _, h => by simp [slAt] at h
  | .tr u, _, c, _, _, h => by
   simp only [slAt] at h
   obtain ⟨h, _⟩ := sw_some h
   simp only [Nat.beq_eq] at h
   simp only [U.az]; omega
  | .ar _ _, _, _, _, _, h => by simp [slAt] at h
end Go.VM

namespace Go.VM
variable [Bor]
open Go.RowKit
theorem ble_true {a b : Nat} (h : Nat.ble a b = true) : a ≤ b := by simpa [Nat.ble_eq] using h
theorem list_piece {α : Type} {l : List α} {o n : Nat} {j : Nat} {v : α} (h : ((l.drop o).take n)[j]? = some v) : l[o + j]? = some v := by
 have := lt_of_getElem? h
 rw [List.length_take] at this
 rw [List.getElem?_take, if_pos (by omega), List.getElem?_drop] at h
 exact h
section
variable {X : Cx} {ρ : Type} {base : Nat} {h : Hp} {K : AV → Hp → Option ρ} {y : ρ}
theorem piece?_some {u : U} {cs : List AV} {o : Nat} {c : AV} (h : piece? u cs o = some c) : o + u.az ≤ cs.length ∧ u.plain = true ∧ c = pack u ((cs.drop o).take u.az) := by
 unfold piece? at h
 obtain ⟨h1, h2⟩ := sw_some h
 simp only [Bool.and_eq_true] at h1
 simp only [Option.some.injEq] at h2
 exact ⟨ble_true h1.1, h1.2, h2.symm⟩
theorem refs_pack {u : U} {cs : List AV} {j : Nat} (h : j ∈ refs (pack u cs)) : j ∈ refsL cs := by
 unfold pack at h
 split at h
 ·simpa [refs] using h
 ·simpa [refs] using h
 ·simpa [refs] using h
 ·split at h
  ·simpa [refsL] using h
  ·simp [refs] at h
theorem refs_cells {mk : Nat → Bool → (u : U) → List u.El → AV} {j id : Nat} (hm : ∀ c e u l, j ∈ refs (mk c e u l) → j = id) : ∀ {u : U} {x : u.El} {o : Nat}, j ∈ refsL (cellsOf mk u x o) → j = id
 | .bool, _, _, h => by simp [cellsOf, refsL, refs] at h
 | .int _, _, _, h => by simp [cellsOf, refsL, refs] at h
 | .str, _, _, h => by simp [cellsOf, refsL, refs] at h
 | .sl e u, x, o, h => by simp only [cellsOf, refsL, List.append_nil] at h; exact hm _ _ _ _ h
 | .unit, _, _, h => by simp [cellsOf, refsL] at h
 | .ar _ _, _, _, h => by simp [cellsOf, refsL, refs] at h
 | .oth, _, _, h => by simp [cellsOf, refsL, refs] at h
 | .bs _, _, _, h => by simp [cellsOf, refsL, refs] at h
 | .pt _, _, _, h => by
  simp only [cellsOf, refsL, List.append_nil] at h
  split at h <;> simp [refs] at h
 | .tr u, x, o, h => by
  simp only [cellsOf] at h
  rw [refsL_mem] at h
  obtain ⟨c, hc, hj⟩ := h
  rcases List.mem_append.1 hc with hc | hc
  ·exact refs_cells hm (refsL_mem.2 ⟨c, hc, hj⟩)
  ·simp only [List.mem_singleton] at hc; subst hc; exact hm _ _ _ _ hj
 | .pair a b, x, o, h => by
  simp only [cellsOf] at h
  rw [refsL_mem] at h
  obtain ⟨c, hc, hj⟩ := h
  rcases List.mem_append.1 hc with hc | hc
  ·exact refs_cells hm (refsL_mem.2 ⟨c, hc, hj⟩)
  ·exact refs_cells hm (refsL_mem.2 ⟨c, hc, hj⟩)
theorem refsL_piece {cs : List AV} {o n j : Nat} (h : j ∈ refsL ((cs.drop o).take n)) : j ∈ refsL cs := by
 obtain ⟨c, hc, hj⟩ := refsL_mem.1 h
 exact refsL_mem.2 ⟨c, List.mem_of_mem_drop (List.mem_of_mem_take hc), hj⟩
theorem load_ok {t : TypeId} {u : U} {x : Operand} {c c' : AV} (ht : TyOK X.P t u) (hc : loadA h u c = some c') (hy : K c' [] = some y) : Good X base (.load t x) [c] h K y := by
 -- what is asked: a value, and what it refers to is known
 have fin : ∀ (M : Mem) (a : Act) (o : Oper) (ad : Addr) (cs : List Value) , o.op = .load t x → a.eval x = .pointer (some ad) → u.plain = true → cs.length = u.sz → (∀ j v, cs[j]? = some v → M.w.cell? (ad.add j) = some v) → (execOp a.eval o).run X.P M.w = .ok (.value (valOf u cs)) M.w := by
  intro M a o ad cs ho ha hp hl hcs
  have := load_run (P := X.P) (t := t) (W := M.w) (a := ad) ht hl (fun hA => (sz_one hp hA).1) hcs
  simp only [execOp, ho, ha, Instr.loadAt, Instr.sureAddr, Sem.run_bind, Sem.run_pure, Result.andThen_ok, this]
 unfold loadA at hc
 split at hc
 ·rename_i id o'
  split at hc
  case h_4 => cases hc
  case h_3 v t0 hl =>
   obtain ⟨hfu, hc⟩ := sw_some hc
   obtain ⟨hle, hp, rfl⟩ := piece?_some hc
   refine ⟨_, [], hy, OpOK.pure (fun j hj => ?_) ?_⟩
   ·exfalso
    have h2 : ∀ (c : Nat) (e : Bool) (u : U) (l : List u.El), j ∈ refs (imSl c e u l) → False := fun c e u l h => by simp [imSl, refs] at h
    have h3 := refs_cells (mk := imSl) (j := j) (id := j + 1) (fun c e u l h => (h2 c e u l h).elim) (refsL_piece (refs_pack hj))
    omega
   ·intro o M tt used own a ho hvs hh hi
    have hx := (hi.ev x).1
    rw [map1 hvs] at hx
    have hM : M.h id = .tre v t0 := by rw [hh id (by rw [hl]; simp), hl]
    simp only [AVRep] at hx
    obtain ⟨ad, had, hv⟩ := hx (by rw [hM]; simp)
    have hrt := hi.rt id
    rw [hM] at hrt
    obtain ⟨hpv, hfv, F, hr, _⟩ := hrt
    rw [had] at hr
    cases t0 with
    | nil => have := (rep_pnil.1 hr).1; simp at this
    | node x0 ks =>
     obtain ⟨b, cc, t', G, hb', hw, rfl, hN⟩ := (rep_pt hfv).1 hr
     obtain rfl : ad = ⟨b, 0, none⟩ := by simpa using hb'
     obtain ⟨kc, d, G1, H1, hcc, rfl, h1, _⟩ := hN
     have hG := Rep.flat hfv h1
     subst hG
     have hcs : AVRepL M (cellsOf imSl v x0 0) kc := cells_im (M := M) 0 hpv (Rep.move (w' := M.w0) hfv (Rep.weak h1)) (fun b hb => by cases hb)
     have hle : o' + u.az ≤ (cellsOf imSl v x0 0).length := hle
     have hlen := hcs.length
     have hrep := pack_rep hp (hcs.piece o' u.az) (by rw [List.length_take, List.length_drop]; omega)
     refine ⟨_, hrep, fin M a o _ _ ho hv hp (by rw [List.length_take, List.length_drop, az_sz hp] at *; omega) ?_⟩
     intro j w hj
     have hj := list_piece hj
     rw [Addr.add_add _ _ _ rfl]
     have hlt := lt_of_getElem? hj
     simp only [World.cell?, Addr.add_block, hw, Addr.add_off, Addr.add_spot (a := ⟨b, 0, none⟩) rfl, Option.isSome_none, Bool.false_eq_true, if_false, Nat.zero_add]
     rw [← Array.getElem?_toList, hcc, List.getElem?_append_left hlt]
     exact hj
  case h_2 v x0 hl =>
   obtain ⟨hpv, hc⟩ := sw_some hc
   obtain ⟨hle, hp, rfl⟩ := piece?_some hc
   refine ⟨_, [], hy, OpOK.pure (fun j hj => ?_) ?_⟩
   ·have := refs_cells (mk := imSl) (j := j) (id := j) (fun c e u l h => rfl) (refsL_piece (refs_pack hj))
    exfalso
    have h2 : ∀ (c : Nat) (e : Bool) (u : U) (l : List u.El), j ∈ refs (imSl c e u l) → False := fun c e u l h => by simp [imSl, refs] at h
    have := refs_cells (mk := imSl) (j := j) (id := j + 1) (fun c e u l h => (h2 c e u l h).elim) (refsL_piece (refs_pack hj))
    omega
   ·intro o M tt used own a ho hvs hh hi
    have hx := (hi.ev x).1
    rw [map1 hvs] at hx
    have hM : M.h id = .imm v x0 := by rw [hh id (by rw [hl]; simp), hl]
    simp only [AVRep] at hx
    obtain ⟨ad, had, hv⟩ := hx (by rw [hM]; simp)
    have hrt := hi.rt id
    rw [hM] at hrt
    obtain ⟨ad', had', cc, t', fz, p, m, q, G, hs, hw, hcc, hpl, hr, hZb, hZ⟩ := hrt
    rw [had] at had'
    cases had'
    have hil : 0 < [x0].length := by simp
    obtain ⟨c1, c2, c3, F1, F2, F3, rfl, rfl, hl1, hxr, _⟩ := RepL.at (n := v.sz) (fun _ _ _ => Rep.length) v.dflt 0 hr hil
    have hxr : Rep M.w0 false v x0 c2 F2 := hxr
    have hlx := Rep.length hxr
    have hcs := cells_im (M := M) 0 hpv hxr (fun b hb => hZ b (by simp [hb]))
    have hlen := hcs.length
    have hrep := pack_rep hp (hcs.piece o' u.az) (by rw [List.length_take, List.length_drop]; omega)
    refine ⟨_, hrep, fin M a o _ _ ho hv hp (by rw [List.length_take, List.length_drop, az_sz hp] at *; omega) ?_⟩
    intro j w hj
    have hj := list_piece hj
    rw [Addr.add_add _ _ _ hs, ← Nat.zero_add o']
    have hlt := lt_of_getElem? hj
    have hw' : M.w.heap[ad.block]? = some (.cells cc t' fz) := by rw [hi.zf _ hZb]; exact hw
    simp only [World.cell?, Addr.add_block, hw', Addr.add_off, Addr.add_spot hs, Option.isSome_none, Bool.false_eq_true, if_false]
    rw [← Array.getElem?_toList, hcc, ← hpl]
    rw [show p ++ (c1 ++ c2 ++ c3) ++ q = (p ++ c1) ++ (c2 ++ (c3 ++ q)) from by simp]
    rw [show p.length + (0 + o' + j) = (p ++ c1).length + (o' + j) from by simp [hl1]]
    rw [List.getElem?_append_right (by omega), Nat.add_sub_cancel_left, List.getElem?_append_left (by omega)]
    exact hj
  case h_1 cs hl =>
   obtain ⟨hle, hp, rfl⟩ := piece?_some hc
   refine ⟨_, [], hy, ?_⟩
   intro o M tt used own a next Q ho hd hvs hh hi hb hn
   have hx := (hi.ev x).1
   rw [map1 hvs] at hx
   have hM : M.h id = .obj cs := by rw [hh id (by rw [hl]; simp), hl]
   simp only [AVRep] at hx
   obtain ⟨ad, ha, hv⟩ := hx (by rw [hM]; simp)
   have hrt := hi.rt id
   rw [hM] at hrt
   obtain ⟨b, cc, t', hb', hw, hcs, _⟩ := hrt
   rw [ha] at hb'
   cases hb'
   have hlen := hcs.length
   have hrep := pack_rep hp (hcs.piece o' u.az) (by rw [List.length_take, List.length_drop]; omega)
   have hrun := fin M a o _ ((cc.toList.drop o').take u.az) ho hv hp (by rw [List.length_take, List.length_drop, az_sz hp] at *; omega) (by
    intro j v hj
    have hj := list_piece hj
    rw [Addr.add_add _ _ _ rfl]
    simp only [World.cell?, Addr.add_block, hw, Addr.add_off, Addr.add_spot (a := ⟨b, 0, none⟩) rfl, Option.isSome_none, Bool.false_eq_true, if_false, Nat.zero_add]
    rw [← Array.getElem?_toList]; exact hj)
   refine wp_value hrun (hn M own _ rfl rfl rfl ?_)
   exact (hi.grow fun j hj => .inl hj).put hd hrep fun j hj => .inl (hi.uo id cs hM j (refsL_piece (refs_pack hj)))
 ·rename_i f cs k
  obtain ⟨hu, hc2⟩ := sw_some hc
  have hu := of_decide_eq_true hu
  simp only [Option.some.injEq] at hc2
  subst hu
  subst hc2
  clear hc
  refine ⟨_, [], hy, OpOK.pure (fun j hj => ⟨_, List.mem_singleton.2 rfl, ?_⟩) ?_⟩
  ·simp only [refs] at hj ⊢
   obtain ⟨c, hc, hj⟩ := refsL_mem.1 hj
   rcases mem_ins hc with rfl | hc
   ·simpa only [refs] using hj
   ·exact refsL_mem.2 ⟨c, hc, hj⟩
  ·intro o M tt used own a ho hvs hh hi
   have hx := (hi.ev x).1
   rw [map1 hvs] at hx
   have hx0 := hx
   simp only [AVRep] at hx
   obtain ⟨b, t', ws, hv, hw, hZ, hcs⟩ := hx
   refine ⟨.func (.func f) #[] (insK (a.eval x) ws k).toArray, ?_, ?_⟩
   ·rw [AVRep]
    exact ⟨_, rfl, hcs.ins hx0 k⟩
   ·have := fin M a o ⟨b, 0, none⟩ [.func (.func f) #[] (insK (a.eval x) ws k).toArray] ho hv rfl rfl (by
     intro j v hj
     match j, hj with
     | 0, hj =>
      simp only [List.getElem?_cons_zero, Option.some.injEq] at hj
      subst hj
      rw [Addr.add_zero]
      simp [World.cell?, hi.zf b hZ, hw]
     | j + 1, hj => simp at hj)
    exact this
 ·rename_i v l i o'
  obtain ⟨hpv, hc⟩ := sw_some hc
  obtain ⟨hle, hp, rfl⟩ := piece?_some hc
  refine ⟨_, [], hy, OpOK.pure (fun j hj => ?_) ?_⟩
  ·have := refs_cells (mk := imSl) (j := j) (id := j) (fun c e u l h => rfl) (refsL_piece (refs_pack hj))
   exfalso
   have h2 : ∀ (c : Nat) (e : Bool) (u : U) (l : List u.El), j ∈ refs (imSl c e u l) → False := fun c e u l h => by simp [imSl, refs] at h
   have := refs_cells (mk := imSl) (j := j) (id := j + 1) (fun c e u l h => (h2 c e u l h).elim) (refsL_piece (refs_pack hj))
   omega
  ·intro o M tt used own a ho hvs hh hi
   have hx := (hi.ev x).1
   rw [map1 hvs] at hx
   simp only [AVRep] at hx
   obtain ⟨hil, ad, ⟨cc, t', fz, p, m, q, G, hs, hw, hcc, hpl, hr, hZb, hZ⟩, hv⟩ := hx
   obtain ⟨c1, c2, c3, F1, F2, F3, rfl, rfl, hl1, hxr, _⟩ := RepL.at (n := v.sz) (fun _ _ _ => Rep.length) v.dflt i hr hil
   have hlx := Rep.length hxr
   have hcs := cells_im (M := M) 0 hpv hxr (fun b hb => hZ b (by simp [hb]))
   have hlen := hcs.length
   have hrep := pack_rep hp (hcs.piece o' u.az) (by rw [List.length_take, List.length_drop]; omega)
   refine ⟨_, hrep, fin M a o _ _ ho hv hp (by rw [List.length_take, List.length_drop, az_sz hp] at *; omega) ?_⟩
   intro j w hj
   have hj := list_piece hj
   rw [Addr.add_add _ _ _ hs]
   have hlt := lt_of_getElem? hj
   have hw' : M.w.heap[ad.block]? = some (.cells cc t' fz) := by rw [hi.zf _ hZb]; exact hw
   simp only [World.cell?, Addr.add_block, hw', Addr.add_off, Addr.add_spot hs, Option.isSome_none, Bool.false_eq_true, if_false]
   rw [← Array.getElem?_toList, hcc, ← hpl]
   rw [show p ++ (c1 ++ c2 ++ c3) ++ q = (p ++ c1) ++ (c2 ++ (c3 ++ q)) from by simp]
   rw [show p.length + (i * v.sz + o' + j) = (p ++ c1).length + (o' + j) from by simp [hl1]; omega]
   rw [List.getElem?_append_right (by omega), Nat.add_sub_cancel_left, List.getElem?_append_left (by omega)]
   exact hj
 ·rename_i id p g i o'
  split at hc
  case h_2 => cases hc
  case h_1 e1 u1 l1 g1 hl =>
   obtain ⟨hok, hc⟩ := sw_some hc
   split at hc
   case h_2 => cases hc
   case h_1 e' u' l' hat =>
    obtain ⟨hle, hp, rfl⟩ := piece?_some hc
    refine ⟨_, [], hy, OpOK.pure (fun j hj => ?_) ?_⟩
    ·refine ⟨.pe id p g i o', by simp, ?_⟩
     have := refs_cells (j := j) (id := id) (fun c e u l h => by simpa [refs] using h) (refsL_piece (refs_pack hj))
     simp [refs, this]
    ·intro o M tt used own a ho hvs hh hi
     have hx := (hi.ev x).1
     rw [map1 hvs] at hx
     have hM : M.h id = .arr e1 u1 l1 g1 := by rw [hh id (by rw [hl]; simp), hl]
     simp only [AVRep] at hx
     obtain ⟨hgg, hx⟩ := rowOld hx hM
     obtain ⟨e2, u2, l2, ad, cap, hat2, hhd, hil, hv⟩ := hx hok
     rw [hat] at hat2
     cases hat2
     obtain ⟨hp1, F, hsl, _, hown⟩ := hi.arr hM
     obtain ⟨hp', F1, F', F2, rfl, hsl', _⟩ := path_rep hp1 hsl hat hhd
     rcases hsl' with ⟨hn, _⟩ | ⟨a', cap', cc, t', fz, pp, m, q, G, hv', hs, he, hlc, hw, hcc, hpl, hr, rfl, _⟩
     ·simp at hn
     ·simp only [Value.slice.injEq, Option.some.injEq] at hv'
      obtain ⟨rfl, _, rfl⟩ := hv'
      obtain ⟨c1, c2, c3, G1, G2, G3, rfl, rfl, hl1, hxr, _⟩ := RepL.at (n := u'.sz) (fun _ _ _ => Rep.length) u'.dflt i hr hil
      have hlx := Rep.length hxr
      have hcell : ∀ j v, c2[j]? = some v → M.w.cell? (ad.add (i * u'.sz + j)) = some v := by
       intro j v hj
       have hlt := lt_of_getElem? hj
       simp only [World.cell?, Addr.add_block, hw, Addr.add_off, Addr.add_spot hs, Option.isSome_none, Bool.false_eq_true, if_false]
       rw [← Array.getElem?_toList, hcc, ← hpl]
       rw [show pp ++ (c1 ++ c2 ++ c3) ++ q = (pp ++ c1) ++ (c2 ++ (c3 ++ q)) from by simp]
       rw [show pp.length + (i * u'.sz + j) = (pp ++ c1).length + j from by simp [hl1]; omega]
       rw [List.getElem?_append_right (by omega), Nat.add_sub_cancel_left, List.getElem?_append_left (by omega)]
       exact hj
      have hcs := cells_own (M := M) hM hat hhd hil hp' 0 hp' hxr (fun c e2 u2 k2 hq => by rw [Nat.zero_add]; exact hq) (fun j v hj => by rw [Nat.zero_add]; exact hcell j v hj)
      have hlen := hcs.length
      have hrep := pack_rep hp (hcs.piece o' u.az) (by rw [List.length_take, List.length_drop]; omega)
      refine ⟨_, hrep, fin M a o _ _ ho hv hp (by rw [List.length_take, List.length_drop, az_sz hp] at *; omega) ?_⟩
      intro j w hj
      have hj := list_piece hj
      rw [Addr.add_add _ _ _ hs, Nat.add_assoc]
      exact hcell _ _ hj
 ·cases hc
end
end Go.VM

namespace Go.VM
variable [Bor]
open Go.RowKit
theorem lkU_killed {ks : List Nat} {h : Nat → Root} {id : Nat} : lkU (killed ks) h id = if id ∈ ks then .dead else h id := by
 induction ks with
 | nil => rfl
 | cons k ks ih =>
  simp only [killed, List.map_cons, lkU]
  by_cases hk : k = id
  ·subst hk; rw [sw_true (by simp)]; simp
  ·rw [sw_false (beq_false hk)]
   have : lkU (List.map (fun i => (i, Root.dead)) ks) h id = lkU (killed ks) h id := rfl
   rw [this, ih]
   have : id ≠ k := Ne.symm hk
   simp [this]
theorem lkU_cons {i : Nat} {r : Root} {e : Hp} {h : Nat → Root} {id : Nat} : lkU ((i, r) :: e) h id = if id = i then r else lkU e h id := by
 simp only [lkU]
 by_cases hk : i = id
 ·subst hk; rw [sw_true (by simp)]; simp
 ·rw [sw_false (beq_false hk), if_neg (Ne.symm hk)]
theorem Keeps.same {X : Cx} {M M' : Mem} {t used own a} (hi : Inv X M t used own a) {id : Nat} (hh : M'.h id = M.h id) (hr : M'.r id = M.r id) (hb : ∀ b, own b = some id → M'.w.heap[b]? = M.w.heap[b]?) : Keeps M M' id := by
 unfold Keeps
 cases hM : M.h id with
 | dead => left; rw [hh, hM]
 | obj cs => right; exact ⟨hr, .inl ⟨by simp, by rw [hh, hM]; intro _ _ _ _ _ h; cases h⟩⟩
 | imm u x => right; exact ⟨hr, .inl ⟨by simp, by rw [hh, hM]; intro _ _ _ _ _ h; cases h⟩⟩
 | bld T t f l => right; exact ⟨hr, .inl ⟨by simp, by rw [hh, hM]; intro _ _ _ _ _ h; cases h⟩⟩
 | tre u t => right; exact ⟨hr, .inl ⟨by simp, by rw [hh, hM]; intro _ _ _ _ _ h; cases h⟩⟩
 | mpt T l => right; exact ⟨hr, .inl ⟨by simp, by rw [hh, hM]; intro _ _ _ _ _ h; cases h⟩⟩
 | arr e u l g =>
  right
  refine ⟨hr, .inr ⟨e, u, l, l, g, g, false, false, .arr, by rw [hh, hM]; exact .arr, rfl, Nat.le_refl _, fun h => (by cases h), ?_⟩⟩
  intro p gg e' u' k v _ _ _ _ hat hhd
  obtain ⟨hp, F, hs, _, ho⟩ := hi.arr hM
  exact ⟨k, rfl, hat, hdrAt_frame hp hs (fun b hm => hb b (ho b hm)) hat hhd⟩
 | hol e u l g i o w =>
  right
  refine ⟨hr, .inr ⟨e, u, l, l, g, g, true, true, .hol, by rw [hh, hM]; exact .hol, rfl, Nat.le_refl _, fun _ => .inl rfl, ?_⟩⟩
  intro p gg e' u' k v _ _ hp _ hat hhd
  obtain rfl := hp rfl
  exact ⟨k, rfl, hat, hhd⟩
theorem BldAt.frame {W W' : World} {T t b : Nat} {f : Bool} {l : List Int} {F : List Nat} (hb : W'.heap[b]? = W.heap[b]?) (hF : ∀ x ∈ F, W'.heap[x]? = W.heap[x]?) (h : BldAt W T t f b l F) : BldAt W' T t f b l F := by
 obtain ⟨p, v, h1, h2, h3, rfl, h5, h6⟩ := h
 refine ⟨p, v, by rw [hb]; exact h1, h2, ⟨h3.1, h3.2.imp_right ?_⟩, rfl, h5, h6⟩
 rintro ⟨g, cap, cur, rfl, hg, hh, hr⟩
 exact ⟨g, cap, cur, rfl, hg, by rw [hF g (by simp [Value.ownBlock])]; exact hh, hr⟩
theorem RootRep.same {M M' : Mem} {own own' : Nat → Option Nat} {id : Nat} {R : Root} (h0 : M'.w0 = M.w0) (hZ : M'.Z = M.Z) (h : RootRep M own id R) (hr : M'.r id = M.r id) (hb : ∀ b, own b = some id → M'.w.heap[b]? = M.w.heap[b]? ∧ own' b = some id)
  (hk : ∀ cs, R = .obj cs → ∀ j ∈ refsL cs, Keeps M M' j) : RootRep M' own' id R := by
 cases R with
 | dead => trivial
 | obj cs =>
  obtain ⟨b, c, t, h1, h2, h3, h4⟩ := h
  exact ⟨b, c, t, by rw [hr]; exact h1, by rw [(hb b h4).1]; exact h2, AVRepL.mono h0 hZ (hk cs rfl) h3, (hb b h4).2⟩
 | arr e u l g =>
  obtain ⟨hp, F, h1, h2, h3⟩ := h
  exact ⟨hp, F, by rw [hr]; exact SlRep.frame (fun b hm => (hb b (h3 b hm)).1) h1, h2, fun b hm => (hb b (h3 b hm)).2⟩
 | imm u x =>
  obtain ⟨a, h1, h2⟩ := h
  exact ⟨a, by rw [hr]; exact h1, by rw [h0, hZ]; exact h2⟩
 | hol e u l g i o w =>
  obtain ⟨F, h1, h2, h3⟩ := h
  exact ⟨F, by rw [hr]; exact h1.frame (fun b hm => (hb b (h3 b hm)).1), h2, fun b hm => (hb b (h3 b hm)).2⟩
 | mpt T l =>
  obtain ⟨b, es, c, h1, h2, h3, h4⟩ := h
  exact ⟨b, es, c, by rw [hr]; exact h1, by rw [(hb b h4).1]; exact h2, h3, (hb b h4).2⟩
 | tre u t =>
  obtain ⟨hp, hf, F, h1, h2, h3⟩ := h
  exact ⟨hp, hf, F, by rw [hr]; exact Rep.frame (fun b hm => (hb b (h3 b hm)).1) h1, h2, fun b hm => (hb b (h3 b hm)).2⟩
 | bld T t f l =>
  obtain ⟨b, F, h1, h2, h3, h4⟩ := h
  exact ⟨b, F, by rw [hr]; exact h1, BldAt.frame (hb b h3).1 (fun x hx => (hb x (h4 x hx)).1) h2, (hb b h3).2, fun x hx => (hb x (h4 x hx)).2⟩
theorem Inv.pl_keep {X : Cx} {M M' : Mem} {t used own a} (hi : Inv X M t used own a) (hk : ∀ id, used id → Keeps M M' id) : ∀ j, j < X.np → ∀ e u l g b, RowIs (M'.h j) e u l g b → X.n0 j = (e, u, l.length) := by
 intro j hj e u l g b hl
 rcases hk j (hi.pu j hj) with h | ⟨_, ⟨_, h⟩ | ⟨e1, u1, l1, l1', g1, g1', b1, b1', h1, h2, h3, _⟩⟩
 ·rw [h] at hl; cases hl
 ·exact absurd hl (h _ _ _ _ _)
 ·obtain ⟨rfl, rfl, hl2, rfl, rfl⟩ := RowIs.uniq h2 hl
  cases hl2
  rw [h3]
  exact hi.pl j hj _ _ _ _ _ h1
theorem Inv.step {X : Cx} {M : Mem} {t used own a} (hi : Inv X M t used own a) {tgt : Nat} {R : Root} {ks : List Nat} {w' : World} {r' : Nat → Option Addr × Nat} {own' : Nat → Option Nat} {used' : Nat → Prop}
  (hused : ∀ j, used j → used' j) (ht : used' tgt) (hr : ∀ id, id ≠ tgt → r' id = M.r id) (hpin : tgt < X.np → r' tgt = M.r tgt)
  (hK : used tgt → Keeps M ⟨M.w0, M.Z, lkU ((tgt, R) :: killed ks) M.h, r', w'⟩ tgt)
  (hR : (∀ id, used id → id ≠ tgt → Keeps M ⟨M.w0, M.Z, lkU ((tgt, R) :: killed ks) M.h, r', w'⟩ id) → RootRep ⟨M.w0, M.Z, lkU ((tgt, R) :: killed ks) M.h, r', w'⟩ own' tgt R)
  (hRr : ∀ cs, R = .obj cs → ∀ j ∈ refsL cs, used' j)
  (hown : ∀ b id, own b = some id → id ≠ tgt → id ∉ ks → own' b = some id ∧ w'.heap[b]? = M.w.heap[b]?)
  (hown' : ∀ b id, own' b = some id → b < w'.heap.size ∧ ¬ M.Z b)
  (hz : ∀ b, M.Z b → w'.heap[b]? = M.w.heap[b]?) (hsz : M.w.heap.size ≤ w'.heap.size) (hos : w'.os = M.w.os) (htp : w'.tape = M.w.tape) (hot : w'.output = M.w.output) :
  Inv X ⟨M.w0, M.Z, lkU ((tgt, R) :: killed ks) M.h, r', w'⟩ t used' own' a := by
 have hlk : ∀ id, lkU ((tgt, R) :: killed ks) M.h id = if id = tgt then R else if id ∈ ks then .dead else M.h id := fun id => by rw [lkU_cons, lkU_killed]
 have hkeep : ∀ id, used id → id ≠ tgt → Keeps M ⟨M.w0, M.Z, lkU ((tgt, R) :: killed ks) M.h, r', w'⟩ id := by
  intro id hu hne
  by_cases hk : id ∈ ks
  ·left; show lkU _ _ id = _; rw [hlk, if_neg hne, if_pos hk]
  ·exact Keeps.same hi (by show lkU _ _ id = _; rw [hlk, if_neg hne, if_neg hk]) (hr id hne) (fun b hb => (hown b id hb hne hk).2)
 have hkeep' : ∀ id, used id → Keeps M ⟨M.w0, M.Z, lkU ((tgt, R) :: killed ks) M.h, r', w'⟩ id := by
  intro id hu
  by_cases hne : id = tgt
  ·subst hne; exact hK hu
  ·exact hkeep id hu hne
 refine { tm := ?_, tn := hi.tn, df := hi.df, rt := ?_, ow := hown', zf := ?_, zb := hi.zb, sz := Nat.le_trans hi.sz hsz, os := by rw [← hi.os]; exact hos, tp := by rw [← hi.tp]; exact htp, ot := by rw [← hi.ot]; exact hot,
          ut := fun i j hj => hused j (hi.ut i j hj), uo := ?_, ud := ?_, pin := ?_, pl := hi.pl_keep hkeep', pu := fun j hj => hused j (hi.pu j hj), bo := hi.bo, bz := hi.bz, gl := hi.gl, gz := hi.gz }
 ·intro i
  exact AVRep.mono (M := M) (M' := ⟨M.w0, M.Z, lkU ((tgt, R) :: killed ks) M.h, r', w'⟩) rfl rfl (fun id hm => hkeep' id (hi.ut i id hm)) (hi.tm i)
 ·intro id
  show RootRep _ own' id (lkU _ _ id)
  rw [hlk]
  by_cases hne : id = tgt
  ·subst hne; rw [if_pos rfl]; exact hR hkeep
  ·rw [if_neg hne]
   by_cases hk : id ∈ ks
   ·rw [if_pos hk]; trivial
   ·rw [if_neg hk]
    exact RootRep.same (M := M) rfl rfl (hi.rt id) (hr id hne) (fun b hb => ⟨(hown b id hb hne hk).2, (hown b id hb hne hk).1⟩) (fun cs hc j hj => hkeep' j (hi.uo id cs hc j hj))
 ·intro b hb
  rw [← hi.zf b hb]; exact hz b hb
 ·intro id cs hc j hj
  have hc : lkU ((tgt, R) :: killed ks) M.h id = .obj cs := hc
  rw [hlk] at hc
  split at hc
  ·exact hRr cs hc j hj
  ·split at hc
   ·cases hc
   ·exact hused j (hi.uo id cs hc j hj)
 ·intro id hd
  have hd : lkU ((tgt, R) :: killed ks) M.h id ≠ .dead := hd
  rw [hlk] at hd
  split at hd
  ·rename_i h; subst h; exact ht
  ·split at hd
   ·exact absurd rfl hd
   ·exact hused id (hi.ud id hd)
 ·intro j hj
  by_cases hne : j = tgt
  ·subst hne; rw [← hi.pin j hj]; exact hpin hj
  ·rw [← hi.pin j hj]; exact hr j hne
end Go.VM

namespace Go.VM
variable [Bor]
open Go.RowKit
theorem cells_of_one {v : Value} (h : v.oneCell' = true) : v.cells = #[v] := by cases v <;> first | rfl | cases h
theorem cell_one {X : Cx} {M : Mem} {t used own a} (hi : Inv X M t used own a) {h : Hp} (hh : ∀ id, lkH h id ≠ .dead → M.h id = lkH h id) {c : AV} {v : Value} (hc : cellA h c = true) (hv : AVRep M c v) : v.oneCell' = true := by
 cases c with
 | dead => cases hc
 | und => cases hc
 | agg _ => cases hc
 | tup _ => cases hc
 | px f cs k => cases hc
 | mp id => cases hc
 | nil => simp only [AVRep] at hv; subst hv; rfl
 | nilptr => simp only [AVRep] at hv; subst hv; rfl
 | nilfn => simp only [AVRep] at hv; subst hv; rfl
 | fn f cs => simp only [AVRep] at hv; obtain ⟨_, h, _⟩ := hv; subst h; rfl
 | pi u l i o => simp only [AVRep] at hv; obtain ⟨_, _, _, h⟩ := hv; rw [h]; rfl
 | im u x =>
  simp only [AVRep] at hv
  obtain ⟨hg, cs, F, hval, hr, _⟩ := hv
  have hone := Rep.one hr
  have hlen := Rep.length hr
  cases u with
  | unit => cases hc
  | pair a b => cases hc
  | ar n w => cases hc
  | tr a => cases hc
  | _ =>
   simp only [valC, U.isAgg, Bool.false_eq_true, if_false] at hval
   match cs, hlen with
   | [w], _ => simp at hval; subst hval; exact hone _ (by simp)
 | hs id p w g =>
  simp only [cellA] at hc
  split at hc
  case h_2 => cases hc
  case h_1 e u l g' hl =>
   have hM : M.h id = .arr e u l g' := by rw [hh id (by rw [hl]; simp), hl]
   simp only [AVRep] at hv
   obtain ⟨_, hv⟩ := rowOld hv hM
   obtain ⟨e', u', l', v', hat, hhd, hw⟩ := hv hc
   obtain ⟨hp, F, hsl, _⟩ := hi.arr hM
   cases w with
   | none =>
    simp only [Win] at hw
    subst hw
    obtain ⟨_, _, _, _, _, hsl', _⟩ := path_rep hp hsl hat hhd
    rcases hsl' with ⟨h, _⟩ | ⟨_, _, _, _, _, _, _, _, _, h, _⟩ <;> rw [h] <;> rfl
   | some an =>
    simp only [Win] at hw
    rcases hw with ⟨_, _, _, h⟩ | ⟨_, _, _, _, _, _, _, h, _⟩ <;> rw [h] <;> rfl
 | pe id p g i o =>
  simp only [cellA] at hc
  split at hc
  case h_2 => cases hc
  case h_1 e u l g' hl =>
   have hM : M.h id = .arr e u l g' := by rw [hh id (by rw [hl]; simp), hl]
   simp only [AVRep] at hv
   obtain ⟨_, hv⟩ := rowOld hv hM
   obtain ⟨_, _, _, _, _, _, _, _, h⟩ := hv hc
   rw [h]; rfl
 | tp id =>
  simp only [cellA] at hc
  split at hc
  case h_1 => cases hc
  case h_2 hl =>
   simp only [AVRep] at hv
   rw [hv (by rw [hh id (fun e => hl e)]; exact fun e => hl e)]; rfl
 | po id o =>
  simp only [cellA] at hc
  split at hc
  case h_1 => cases hc
  case h_2 hl =>
   simp only [AVRep] at hv
   obtain ⟨_, _, h⟩ := hv (by rw [hh id (fun e => hl e)]; exact fun e => hl e)
   rw [h]; rfl
theorem unpack_rep {X : Cx} {M : Mem} {t used own a} (hi : Inv X M t used own a) {h : Hp} (hh : ∀ id, lkH h id ≠ .dead → M.h id = lkH h id) {c : AV} {v : Value} (hc : (unpack c).all (cellA h) = true) (hv : AVRep M c v) :
  AVRepL M (unpack c) v.cells.toList ∧ ∀ u ∈ v.cells.toList, u.oneCell' = true := by
 have key : ∀ {cs : List AV} {vs : List Value}, cs.all (cellA h) = true → AVRepL M cs vs → ∀ u ∈ vs, u.oneCell' = true := by
  intro cs
  induction cs with
  | nil => intro vs _ h u hu; simp only [AVRepL] at h; subst h; cases hu
  | cons c cs ih =>
   intro vs ha hr u hu
   simp only [AVRepL] at hr
   obtain ⟨v, r, rfl, h1, h2⟩ := hr
   simp only [List.all_cons, Bool.and_eq_true] at ha
   rcases List.mem_cons.1 hu with rfl | hu
   ·exact cell_one hi hh ha.1 h1
   ·exact ih ha.2 h2 u hu
 cases c with
 | agg cs =>
  simp only [AVRep] at hv
  obtain ⟨vs, rfl, hr⟩ := hv
  simp only [unpack] at hc ⊢
  exact ⟨by simpa [Value.cells] using hr, fun u hu => key hc hr u (by simpa [Value.cells] using hu)⟩
 | _ =>
  simp only [unpack, List.all_cons, List.all_nil, Bool.and_true] at hc ⊢
  have h1 := cell_one hi hh hc hv
  rw [cells_of_one h1]
  refine ⟨by simp only [AVRepL]; exact ⟨v, [], rfl, hv, rfl⟩, fun u hu => ?_⟩
  simp at hu; subst hu; exact h1
end Go.VM

namespace Go.VM
variable [Bor]
open Go.RowKit
theorem alloc_sz (w : World) (o : Obj) : (w.alloc o).heap.size = w.heap.size + 1 := by show (w.heap.push o).size = _; simp
theorem alloc_old (w : World) (o : Obj) {k : Nat} (h : k < w.heap.size) : (w.alloc o).heap[k]? = w.heap[k]? := by show (w.heap.push o)[k]? = _; rw [Array.getElem?_push, if_neg (by omega)]
theorem alloc_new (w : World) (o : Obj) : (w.alloc o).heap[w.heap.size]? = some o := by show (w.heap.push o)[w.heap.size]? = _; simp
structure Grew (own : Nat → Option Nat) (ks : List Nat) (w w' : World) : Prop where
 os : w'.os = w.os
 tp : w'.tape = w.tape
 ot : w'.output = w.output
 sz : w.heap.size ≤ w'.heap.size
 bl : ∀ b, b < w.heap.size → (∀ id, own b = some id → id ∉ ks) → w'.heap[b]? = w.heap[b]?
def own1 (own : Nat → Option Nat) (ks : List Nat) (w w' : World) (base b : Nat) : Option Nat :=
 if b < w.heap.size then (match own b with | some id => if id ∈ ks then some base else some id | none => none) else if b < w'.heap.size then some base else none
theorem Inv.new {X : Cx} {M : Mem} {t used own a} (hi : Inv X M t used own a) {base : Nat} {ks : List Nat} {w' : World} {r1 : Option Addr × Nat} {R : Root} (hg : Grew own ks M.w w') (hb : ∀ j, j < 64 → ¬ used (base + j)) (hks : ∀ k ∈ ks, used k)
  (hR : ∀ M', M'.w0 = M.w0 → M'.Z = M.Z → M'.w = w' → (∀ id, M'.r id = if id = base then r1 else M.r id) → (∀ id, used id → Keeps M M' id) → RootRep M' (own1 own ks M.w w' base) base R) (hRr : ∀ cs, R = .obj cs → ∀ j ∈ refsL cs, used j) :
  Inv X ⟨M.w0, M.Z, lkU ((base, R) :: killed ks) M.h, fun id => if id = base then r1 else M.r id, w'⟩ t (fun j => used j ∨ base ≤ j ∧ j < base + 64) (own1 own ks M.w w' base) a := by
 have hbase : ¬ used base := by have := hb 0 (by omega); simpa using this
 have hne : ∀ id, used id → id ≠ base := fun id hu e => hbase (e ▸ hu)
 refine hi.step (fun j hj => .inl hj) (.inr ⟨Nat.le_refl _, by omega⟩) (fun id hid => by simp [hid]) (fun h => absurd (hi.pu _ h) hbase) (fun h => absurd h hbase) ?_ (fun cs hc j hj => .inl (hRr cs hc j hj)) ?_ ?_ ?_ hg.sz hg.os hg.tp hg.ot
 ·intro hk
  exact hR _ rfl rfl rfl (fun id => rfl) (fun id hu => hk id hu (hne id hu))
 ·intro b id hob hid hk
  have hlt := (hi.ow b id hob).1
  refine ⟨?_, hg.bl b hlt (fun id' h => by rw [hob] at h; cases h; exact hk)⟩
  simp only [own1, if_pos hlt, hob, if_neg hk]
 ·intro b id hob
  simp only [own1] at hob
  split at hob
  ·rename_i hlt
   refine ⟨Nat.lt_of_lt_of_le hlt hg.sz, ?_⟩
   cases ho : own b with
   | none => rw [ho] at hob; cases hob
   | some id' => exact (hi.ow b id' ho).2
  ·split at hob
   ·rename_i h1 h2
    refine ⟨h2, fun hZ => ?_⟩
    have := hi.zb b hZ
    have := hi.sz
    omega
   ·cases hob
 ·intro b hZ
  have h1 := hi.zb b hZ
  have h2 := hi.sz
  exact hg.bl b (by omega) (fun id ho => absurd hZ (hi.ow b id ho).2)
section
variable {X : Cx} {base : Nat} {h : Hp} {op : Op} {vs : List AV}
theorem OpOK.newObj {cs : List AV} (hrefs : ∀ j ∈ refsL cs, ∃ c ∈ vs, j ∈ refs c)
  (H : ∀ (o : Oper) (M : Mem) (t : List (Nat × AV)) (used : Nat → Prop) (own : Nat → Option Nat) (a : Act), o.op = op → op.operands.toList.map (evA X.E t) = vs → (∀ id, lkH h id ≠ .dead → M.h id = lkH h id) → Inv X M t used own a →
   ∃ (c : Array Value) (ty : TypeId), AVRepL M cs c.toList ∧ (execOp a.eval o).run X.P M.w = .ok (.value (.pointer (some ⟨M.w.heap.size, 0, none⟩))) (M.w.alloc (.cells c ty))) :
  OpOK X base op vs h (.po base 0) [(base, .obj cs)] := by
 intro o M t used own a next Q ho hd hvs hh hi hb hn
 obtain ⟨c, ty, hr, hrun⟩ := H o M t used own a ho hvs hh hi
 have hused : ∀ j ∈ refsL cs, used j := by
  intro j hj
  obtain ⟨c, hc, hj⟩ := hrefs j hj
  rw [← hvs] at hc
  obtain ⟨x, _, rfl⟩ := List.mem_map.1 hc
  exact (hi.ev x).2 j hj
 refine wp_value hrun ?_
 have hI := hi.new (base := base) (ks := []) (w' := M.w.alloc (.cells c ty)) (r1 := (some ⟨M.w.heap.size, 0, none⟩, 0)) (R := .obj cs) ⟨rfl, rfl, rfl, by rw [alloc_sz]; omega, fun b hb _ => alloc_old _ _ hb⟩ hb (by simp) ?_ (fun cs' h j hj => by cases h; exact hused j hj)
 ·refine hn _ _ _ ?_ ?_ ?_ (hI.put hd ?_ ?_)
  ·rfl
  ·rfl
  ·rfl
  ·simp only [AVRep]
   intro _
   exact ⟨⟨M.w.heap.size, 0, none⟩, by simp, by simp [Addr.add]⟩
  ·intro j hj
   simp only [refs, List.mem_singleton] at hj
   subst hj; exact .inr ⟨Nat.le_refl _, by omega⟩
 ·intro M' h0 hZ hw hr' hk
  refine ⟨M.w.heap.size, c, ty, by rw [hr']; simp, ?_, AVRepL.mono h0 hZ (fun j hj => hk j (hused j hj)) hr, ?_⟩
  ·rw [hw]; exact alloc_new _ _
  ·simp [own1, alloc_sz]
theorem OpOK.newArr {e : Bool} {u : U} {l : List u.El} {ks : List Nat} (hp : u.plain = true) (hks : ∀ k ∈ ks, (∃ c ∈ vs, k ∈ refs c) ∨ lkH h k ≠ .dead)
  (H : ∀ (o : Oper) (M : Mem) (t : List (Nat × AV)) (used : Nat → Prop) (own : Nat → Option Nat) (a : Act), o.op = op → op.operands.toList.map (evA X.E t) = vs → (∀ id, lkH h id ≠ .dead → M.h id = lkH h id) → Inv X M t used own a →
   ∃ (w' : World) (r1 : Option Addr × Nat) (F : List Nat), Grew own ks M.w w' ∧ SlRep w' true e u.sz (Rep w' true u) l (hdr r1 l.length) F ∧ F.Nodup ∧ (∀ b ∈ F, b < w'.heap.size ∧ (b < M.w.heap.size → ∃ k ∈ ks, own b = some k)) ∧
    (execOp a.eval o).run X.P M.w = .ok (.value (hdr r1 l.length)) w') :
  OpOK X base op vs h (.hs base [] none 0) ((base, .arr e u l 0) :: killed ks) := by
 intro o M t used own a next Q ho hd hvs hh hi hb hn
 obtain ⟨w', r1, F, hg, hs, hnd, hF, hrun⟩ := H o M t used own a ho hvs hh hi
 refine wp_value hrun ?_
 have hksu : ∀ k ∈ ks, used k := by
  intro k hk
  rcases hks k hk with hks | hks
  rotate_left
  ·exact hi.ud k (by rw [hh k hks]; exact hks)
  obtain ⟨c, hc, hj⟩ := hks
  rw [← hvs] at hc
  obtain ⟨x, _, rfl⟩ := List.mem_map.1 hc
  exact (hi.ev x).2 k hj
 have hI := hi.new (base := base) (ks := ks) (w' := w') (r1 := r1) (R := .arr e u l 0) hg hb hksu ?_ (fun cs' h => by cases h)
 ·refine hn _ _ _ ?_ ?_ ?_ (hI.put hd ?_ ?_)
  ·rfl
  ·rfl
  ·rfl
  ·simp only [AVRep]
   intro e2 u2 l2 g2 b2 hM
   have hM : RowIs (lkU ((base, Root.arr e u l 0) :: killed ks) M.h base) e2 u2 l2 g2 b2 := hM
   rw [lkU_cons, if_pos rfl] at hM
   cases hM
   exact ⟨.inl trivial, fun _ _ => ⟨e, u, l, hdr r1 l.length, rfl, by simp [hdrAt], by simp [Win]⟩⟩
  ·intro j hj
   simp only [refs, List.mem_singleton] at hj
   subst hj; exact .inr ⟨Nat.le_refl _, by omega⟩
 ·intro M' h0 hZ hw hr' hk
  refine ⟨hp, F, by rw [hw, hr' base, if_pos rfl]; exact hs, hnd, fun b hb => ?_⟩
  obtain ⟨h1, h2⟩ := hF b hb
  unfold own1
  by_cases hlt : b < M.w.heap.size
  ·obtain ⟨k, hk, ho⟩ := h2 hlt
   rw [if_pos hlt, ho]
   simp [hk]
  ·rw [if_neg hlt, if_pos h1]
end
end Go.VM

namespace Go.VM
variable [Bor]
open Go.RowKit
def putB (w : World) (b : Nat) (o : Obj) : World := { w with heap := w.heap.setIfInBounds b o }
theorem putB_sz {w : World} {b : Nat} {o : Obj} : (putB w b o).heap.size = w.heap.size := by simp [putB]
theorem putB_same {w : World} {b : Nat} {o : Obj} (h : b < w.heap.size) : (putB w b o).heap[b]? = some o := by simp [putB, Array.getElem?_setIfInBounds, h]
theorem putB_other {w : World} {b k : Nat} {o : Obj} (h : k ≠ b) : (putB w b o).heap[k]? = w.heap[k]? := by simp [putB, Array.getElem?_setIfInBounds, Ne.symm h]
theorem putB_putB {w : World} {b : Nat} {o o' : Obj} : putB (putB w b o) b o' = putB w b o' := by simp [putB]
theorem lt_of_heap {w : World} {b : Nat} {o : Obj} (h : w.heap[b]? = some o) : b < w.heap.size := by
 rcases Nat.lt_or_ge b w.heap.size with h' | h'
 ·exact h'
 ·simp [Array.getElem?_eq_none h'] at h
theorem setCell_put {w : World} {b off : Nat} {c : Array Value} {t : TypeId} {fz : Nat × Nat} {v : Value} (h : w.heap[b]? = some (.cells c t fz)) : w.setCell ⟨b, off, none⟩ v = putB w b (.cells (c.setIfInBounds off v) t fz) := by
 unfold World.setCell putB
 congr 1
 apply Array.ext_getElem?
 intro i
 rw [Array.getElem?_modify, Array.getElem?_setIfInBounds]
 by_cases hi : b = i
 ·subst hi
  rw [if_pos rfl, if_pos rfl, if_pos (lt_of_heap h), h]
  simp
 ·rw [if_neg hi, if_neg hi]
theorem splice_len {α : Type} {l m : List α} {o : Nat} (h : o + m.length ≤ l.length) : (splice l o m).length = l.length := by simp [splice]; omega
theorem splice_set {α : Type} {l : List α} {k : Nat} {v : α} {m : List α} (h : k < l.length) : splice (l.set k v) (k + 1) m = splice l k (v :: m) := by
 simp only [splice, List.length_cons]
 have h1 : (l.set k v).take (k + 1) = l.take k ++ [v] := by
  rw [List.set_eq_take_append_cons_drop, if_pos h]
  rw [List.take_append, List.take_of_length_le (by rw [List.length_take]; omega)]
  congr 1
  rw [List.length_take, show k + 1 - min k l.length = 1 from by omega]
  rfl
 have h2 : (l.set k v).drop (k + 1 + m.length) = l.drop (k + (m.length + 1)) := by
  rw [List.drop_set_of_lt (by omega)]
  congr 1; omega
 rw [h1, h2]; simp
theorem putB_self {w : World} {b : Nat} {o : Obj} (h : w.heap[b]? = some o) : putB w b o = w := by
 have hb := lt_of_heap h
 have : w.heap.setIfInBounds b o = w.heap := by
  apply Array.ext_getElem?
  intro k
  rw [Array.getElem?_setIfInBounds]
  by_cases hk : b = k
  ·subst hk; rw [if_pos rfl, if_pos hb, h]
  ·rw [if_neg hk]
 unfold putB
 rw [this]
theorem run_storeCells {P : Program} {b : Nat} {t : TypeId} {fz : Nat × Nat} {off : Nat} : ∀ (vs : List Value) (i : Nat) (c : Array Value) (w : World), w.heap[b]? = some (.cells c t fz) → off + i + vs.length ≤ c.size → (∀ v ∈ vs, v.oneCell' = true) → (∀ j, j < c.size → ¬ (fz.1 ≤ j ∧ j < fz.2)) →
  (storeCells ⟨b, off, none⟩ vs i).run P w = .ok () (putB w b (.cells (splice c.toList (off + i) vs).toArray t fz))
 | [], i, c, w, h, _, _, _ => by
  have hs : (splice c.toList (off + i) []).toArray = c := by simp [splice]
  rw [hs, putB_self h]
  rfl
 | v :: vs, i, c, w, h, hl, h1, hf => by
  simp only [List.length_cons] at hl
  have hadd : (⟨b, off, none⟩ : Addr).add i = ⟨b, off + i, none⟩ := by unfold Addr.add; split <;> simp_all
  have hcell : w.cell? ⟨b, off + i, none⟩ = some (c[off + i]'(by omega)) := by simp [World.cell?, h]
  have hfro : w.frozen? ⟨b, off + i, none⟩ = false := by
   obtain ⟨lo, hi⟩ := fz
   have := hf (off + i) (by omega)
   simp only [World.frozen?, h]
   simpa using this
  have hst : (store ⟨b, off + i, none⟩ v).run P w = .ok () (putB w b (.cells (c.setIfInBounds (off + i) v) t fz)) := by
   rw [run_store P w _ v .plain (h1 v (by simp)), hcell]
   simp only [hfro, Bool.false_eq_true, if_false, setCell_put h]
  have hsz : (c.setIfInBounds (off + i) v).size = c.size := by simp
  have ih := run_storeCells (P := P) (b := b) (t := t) (fz := fz) (off := off) vs (i + 1) (c.setIfInBounds (off + i) v) (putB w b (.cells (c.setIfInBounds (off + i) v) t fz)) (putB_same (lt_of_heap h)) (by rw [hsz]; omega) (fun v hv => h1 v (by simp [hv])) (fun j hj => hf j (by rw [hsz] at hj; exact hj))
  have hspl : splice (c.setIfInBounds (off + i) v).toList (off + (i + 1)) vs = splice c.toList (off + i) (v :: vs) := by
   rw [Array.toList_setIfInBounds, ← Nat.add_assoc]
   exact splice_set (by simpa using (by omega : off + i < c.size))
  rw [hspl, putB_putB] at ih
  simp only [storeCells, Sem.run_bind, hadd, hst, Result.andThen_ok]
  exact ih
section
variable {X : Cx} {ρ : Type} {base : Nat} {h : Hp} {K : AV → Hp → Option ρ} {y : ρ}
theorem zero_rep {M : Mem} : ∀ {u : U} {cs : List Value} (o : Nat), u.plain = true → ZeroC u cs → AVRepL M (cellsOf (fun _ _ _ _ => .nil) u u.dflt o) cs
 | .bool, cs, _, _, h => by simp only [ZeroC] at h; subst h; simp only [cellsOf, U.dflt, AVRepL]; exact ⟨_, _, rfl, mk_bool, rfl⟩
 | .int k, cs, _, _, h => by simp only [ZeroC] at h; subst h; simp only [cellsOf, U.dflt, AVRepL]; exact ⟨_, _, rfl, mk_int, rfl⟩
 | .str, cs, _, _, h => by simp only [ZeroC] at h; subst h; simp only [cellsOf, U.dflt, AVRepL]; exact ⟨_, _, rfl, mk_str, rfl⟩
 | .sl e u, cs, _, _, h => by simp only [ZeroC] at h; subst h; simp only [cellsOf, U.dflt, AVRepL]; exact ⟨_, _, rfl, by simp only [AVRep], rfl⟩
 | .unit, cs, _, _, h => by simp only [ZeroC] at h; subst h; simp only [cellsOf, AVRepL]
 | .oth, cs, _, _, h => by obtain ⟨v, rfl, _⟩ := h; simp only [cellsOf, AVRepL]; exact ⟨_, _, rfl, by simp only [AVRep], rfl⟩
 | .pt u, cs, _, _, h => by simp only [ZeroC] at h; subst h; simp only [cellsOf, U.dflt, AVRepL]; exact ⟨_, _, rfl, by simp only [AVRep], rfl⟩
 | .tr u, cs, o, hp, h => by
  obtain ⟨c, rfl, h1⟩ := h
  simp only [U.plain, Bool.and_eq_true] at hp
  simp only [cellsOf, U.dflt]
  refine AVRepL.app (zero_rep o hp.1 h1) ?_
  simp only [AVRepL]; exact ⟨_, _, rfl, by simp only [AVRep], rfl⟩
 | .ar _ _, cs, _, hp, h => by cases hp
 | .bs u, cs, _, hp, h => by
  simp only [ZeroC] at h; subst h
  simp only [cellsOf, U.dflt, AVRepL]
  refine ⟨_, [], rfl, ?_, rfl⟩
  simp only [AVRep]
  exact ⟨hp, [_], [], by simp [valC, U.isAgg], ⟨rfl, _, rfl, Bor.nil u⟩, by simp⟩
 | .pair a b, cs, o, hp, h => by
  obtain ⟨c, d, rfl, h1, h2⟩ := h
  simp only [U.plain, Bool.and_eq_true] at hp
  simp only [cellsOf, U.dflt]
  exact AVRepL.app (zero_rep o hp.1 h1) (zero_rep _ hp.2 h2)
theorem zero_refs : ∀ {u : U} {o j : Nat}, j ∉ refsL (cellsOf (fun _ _ _ _ => .nil) u u.dflt o) := by
 intro u o j hj
 have h1 := refs_cells (mk := fun _ _ _ _ => .nil) (j := j) (id := j + 1) (fun c e u l h => by simp [refs] at h) hj
 omega
theorem good_plain {u : U} (h : u.good = true) (hn : ∀ n v, u ≠ .ar n v) : u.plain = true := by cases u <;> first | exact h | exact absurd rfl (hn _ _)
theorem alloc_ok {t : TypeId} {u : U} (ht : TyOK X.P t u) (hn : ∀ n v, u ≠ .ar n v) (hy : K (.po base 0) [(base, .obj (zeroA u))] = some y) : Good X base (.alloc t) [] h K y := by
 refine ⟨_, _, hy, OpOK.newObj (fun j hj => absurd hj zero_refs) ?_⟩
 intro o M tt used own a ho' hvs hh hi
 obtain ⟨i, z, h1, h2, h3, _⟩ := ht.z hn
 refine ⟨z.cells, t, zero_rep 0 (good_plain ht.g hn) h3, ?_⟩
 have hz : (zeroValue t).run X.P M.w = .ok z M.w := by
  simp only [zeroValue, Sem.run_bind, run_info h1, Result.andThen_ok, h2]; rfl
 simp only [execOp, ho', Instr.alloc, Sem.run_bind, hz, Result.andThen_ok]
 rfl
theorem box_ok {t : TypeId} {x : Operand} {c : AV} (hc : (unpack c).all (cellA h) = true) (hy : K (.po base 0) [(base, .obj (unpack c))] = some y) : Good X base (.box t x) [c] h K y := by
 have hru : ∀ j ∈ refsL (unpack c), j ∈ refs c := by
  intro j hj
  unfold unpack at hj
  split at hj
  ·simpa [refs] using hj
  ·simpa [refsL] using hj
 refine ⟨_, _, hy, OpOK.newObj (fun j hj => ⟨c, by simp, hru j hj⟩) ?_⟩
 intro o M tt used own a ho hvs hh hi
 have hx := (hi.ev x).1
 rw [map1 hvs] at hx
 obtain ⟨hr, _⟩ := unpack_rep hi hh hc hx
 refine ⟨(a.eval x).cells, t, hr, ?_⟩
 simp only [execOp, ho, Instr.box, newVar, newRow]
 rfl
end
end Go.VM

