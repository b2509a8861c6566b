/- How arguments that come in read as this claim's own values: numbers, bools, texts, structs, slices of these. By this session. -/
import Derived.Test.YthlinnbamejmaaaWWords
import Derived.Deep.Slices
import Derived.Deep.Fields
import Derived.ChangeArms
import Derived.ChangeSame
namespace Go.Proofs.YthlinnbamejmaaaO
open Go.ChangeShapes Go.WideShapes Go.Deep Go.RowKit Go.Proofs.YthlinnbamejmaaaW.PrintWords
variable {H : Type} {enc : TypeId × Value → H} {P : Program} {w : World} {base : Nat} {spare : Nat → Bool} {held : Bool}

/-- What is read at type t is told by the kind k, and G is known of it. -/
def Opens {α : Type} (enc : TypeId × Value → H) (P : Program) (w : World) (base : Nat) (spare : Nat → Bool) (held : Bool) (t : TypeId) (k : Kd α) (G : α → Prop) : Prop :=
  ∀ (fuel : Nat) (cs : List Value) (x : DataW H × List MemPlace), DataW.trod enc P w base spare held fuel t cs = some x → ∃ a : α, k.K w a cs ∧ G a

theorem opens_int {t : TypeId} {ik : IntKind} (h : P.underlying t = some (.int ik)) : Opens enc P w base spare held t (Kd.int ik) (fun n => (Lit.int ik n).wf = true) := by
  intro fuel cs x hx
  obtain ⟨n, rfl, _, hw⟩ := DataW.trod_int h hx
  exact ⟨n, rfl, hw⟩
theorem opens_bool {t : TypeId} (h : P.underlying t = some .bool) : Opens enc P w base spare held t Kd.bool (fun _ => True) := by
  intro fuel cs x hx
  obtain ⟨b, rfl, _⟩ := DataW.trod_bool h hx
  exact ⟨b, rfl, trivial⟩
theorem opens_string {t : TypeId} (h : P.underlying t = some .string) : Opens enc P w base spare held t Kd.string (fun s => s.size ≤ 9223372036854775807) := by
  intro fuel cs x hx
  obtain ⟨s, rfl, _, hs⟩ := DataW.trod_string h hx
  exact ⟨s, rfl, hs⟩
theorem cells_of {a : Addr} {n : Nat} {cs : List Value} (h : w.cells? base a n = some cs) : cs.length = n ∧ ∀ j u, cs[j]? = some u → w.cell? (a.add j) = some u := by
  obtain ⟨_, hl, hc⟩ := World.cells?_some h
  refine ⟨hl, fun j u hj => ?_⟩
  have hlt : j < n := by
    rcases List.getElem?_eq_some_iff.mp hj with ⟨hj', _⟩
    omega
  rw [hc j hlt]; exact hj
theorem choose_list {α : Type} {p : Nat → α → Prop} (n : Nat) (h : ∀ i, i < n → ∃ a, p i a) : ∃ l : List α, l.length = n ∧ ∀ i a, l[i]? = some a → p i a := by
  induction n with
  | zero => exact ⟨[], rfl, fun i a h => by simp at h⟩
  | succ n ih =>
    obtain ⟨l, hl, hp⟩ := ih (fun i hi => h i (by omega))
    obtain ⟨a, ha⟩ := h n (by omega)
    refine ⟨l ++ [a], by simp [hl], fun i b hb => ?_⟩
    by_cases c : i < l.length
    · rw [List.getElem?_append_left c] at hb; exact hp i b hb
    · rw [List.getElem?_append_right (by omega)] at hb
      have : i = l.length := by
        rcases List.getElem?_eq_some_iff.mp hb with ⟨hj', _⟩
        simp at hj'; omega
      subst this
      simp at hb
      subst hb; rw [hl]; exact ha
theorem opens_slice {α : Type} {t e : TypeId} {k : Kd α} {G : α → Prop} (h : P.underlying t = some (.slice e)) (hz : P.cellsOf e = k.sz) (he : Opens enc P w base spare held e k G) : Opens enc P w base spare held t (Kd.slice e k) (fun l => (l.length ≤ 9223372036854775807) ∧ ∀ x ∈ l, G x) := by
  intro fuel cs x hx
  rcases open_slice h hx with ⟨rfl, _⟩ | ⟨a, len, cap, m, n, D, Pl, rfl, _, hl, hm, hmm, _, hi⟩
  · exact ⟨[], ⟨none, 0, rfl, Nat.le_refl _, Kd.C_nil _ _⟩, by simp, fun x hx => by simp at hx⟩
  · have hlm : len ≤ m := by rw [hmm]; split <;> omega
    obtain ⟨l, hll, hp⟩ := choose_list (p := fun i a0 => (∃ c : List Value, c.length = k.sz ∧ k.K w a0 c ∧ ∀ j u, c[j]? = some u → w.cell? (a.add (i * k.sz + j)) = some u) ∧ G a0) len (fun i hi0 => by
      obtain ⟨cs', hc, ht'⟩ := hi i (by omega)
      obtain ⟨a0, hk, hg⟩ := he n cs' _ ht'
      obtain ⟨h1, h2⟩ := cells_of hc
      refine ⟨a0, ⟨cs', by rw [h1, hz], hk, fun j u hj => ?_⟩, hg⟩
      rw [← hz, ← Go.Deep.add_add]; exact h2 j u hj)
    have hmax : len ≤ 9223372036854775807 := Nat.le_trans hl hm
    refine ⟨l, ⟨some a, cap, by rw [hll], by omega, ?_⟩, by omega, fun y hy => ?_⟩
    · refine ⟨rfl, by omega, fun _ => ⟨a, rfl, fun i p hi => ?_⟩⟩
      obtain ⟨⟨c, h1, h2, h3⟩, _⟩ := hp i p hi
      exact ⟨c, h1, h2, h3⟩
    · obtain ⟨i, hi', rfl⟩ := List.mem_iff_getElem.mp hy
      exact (hp i _ (List.getElem?_eq_getElem hi')).2

/-! ### the parts of a struct -/
theorem cutAt {α : Type} (cs : List α) (o z : Nat) : cs.drop o = (cs.drop o).take z ++ cs.drop (o + z) := by
  have := (List.take_append_drop z (cs.drop o)).symm
  rw [List.drop_drop] at this
  exact this
theorem last_ {α : Type} (cs : List α) (o z : Nat) (h : cs.length = o + z) : (cs.drop o).take z = cs.drop o := List.take_of_length_le (by rw [List.length_drop]; omega)

/-- A field of a struct, read. -/
theorem field_ {t : TypeId} {fs : Array Field} {fuel : Nat} {cs : List Value} {x : DataW H × List MemPlace} (ht : P.underlying t = some (.struct fs)) (h : DataW.trod enc P w base spare held fuel t cs = some x) :
    cs.length = P.cellsOf t ∧ ∀ (i : Nat) (f : Field), fs[i]? = some f → ∃ n y, DataW.trod enc P w base spare held n f.type ((cs.drop f.offset).take (P.cellsOf f.type)) = some y := by
  obtain ⟨xs, n, _, _, hlen, hxl, hf⟩ := DataW.trod_struct ht h
  refine ⟨hlen, fun i f hi => ?_⟩
  have hlt : i < fs.size := (Array.getElem?_eq_some_iff.1 hi).1
  exact ⟨n, xs[i]'(by omega), (hf i f hi).trans (List.getElem?_eq_getElem (by omega))⟩
/-- The field's value, by its kind. -/
theorem part_opens {α : Type} {t ft : TypeId} {fs : Array Field} {fuel : Nat} {cs : List Value} {x : DataW H × List MemPlace} {k : Kd α} {G : α → Prop} (ht : P.underlying t = some (.struct fs)) (h : DataW.trod enc P w base spare held fuel t cs = some x) (i o z : Nat) (f : Field) (hi : fs[i]? = some f) (hft : f.type = ft) (ho : f.offset = o) (hz : P.cellsOf ft = z)
    (hk : Opens enc P w base spare held ft k G) : ∃ a, k.K w a ((cs.drop o).take z) ∧ G a := by
  obtain ⟨_, hf⟩ := field_ ht h
  obtain ⟨n, y, hy⟩ := hf i f hi
  subst hft ho hz
  exact hk n _ y hy
theorem opens_imp {α : Type} {t : TypeId} {k : Kd α} {G G' : α → Prop} (h : Opens enc P w base spare held t k G) (hg : ∀ a, G a → G' a) : Opens enc P w base spare held t k G' := by
  intro fuel cs x hx
  obtain ⟨a, h1, h2⟩ := h fuel cs x hx
  exact ⟨a, h1, hg a h2⟩
/-- An argument that is a slice. -/
theorem arg_slice {α : Type} {t e : TypeId} {k : Kd α} {G : List α → Prop} {v : Value} {d : DataW H} {p : List MemPlace} {b0 : Nat} {r : Reach} (hu : P.underlying t = some (.slice e)) (hv : Value.okWide P w r b0 t v) (ho : Opens enc P w base spare held t (Kd.slice e k) G) (h : DataW.Trod enc P w base spare held t v d p) :
    ∃ (A : Option Addr) (c : Nat) (l : List α), v = .slice A l.length c ∧ l.length ≤ c ∧ Kd.C k w A l.length l ∧ G l := by
  obtain ⟨fuel, hf⟩ := h
  obtain ⟨l, ⟨A, c, hcs, hl, hC⟩, hg⟩ := ho fuel _ _ hf
  obtain ⟨A', n', c', rfl⟩ := okWide_slice hu hv
  have : Value.slice A' n' c' = .slice A l.length c := by simpa [Value.cells] using hcs
  rw [this]
  exact ⟨A, c, l, rfl, hl, hC, hg⟩
/-- An argument that is a struct: its value lies in its cells. -/
theorem arg_struct {α : Type} {t : TypeId} {fs : Array Field} {k : Kd α} {G : α → Prop} {v : Value} {d : DataW H} {p : List MemPlace} {b0 : Nat} {r : Reach} (hu : P.underlying t = some (.struct fs)) (hv : Value.okWide P w r b0 t v) (ho : Opens enc P w base spare held t k G) (h : DataW.Trod enc P w base spare held t v d p) :
    ∃ (cs : List Value) (x : α), v = .agg cs.toArray ∧ k.K w x cs ∧ G x := by
  obtain ⟨fuel, hf⟩ := h
  obtain ⟨cs, rfl, hsz⟩ := okWide_struct hu hv
  obtain ⟨x, hk, hg⟩ := ho fuel _ _ hf
  refine ⟨cs.toList, x, by simp, ?_, hg⟩
  simpa [Value.cells] using hk
end Go.Proofs.YthlinnbamejmaaaO
