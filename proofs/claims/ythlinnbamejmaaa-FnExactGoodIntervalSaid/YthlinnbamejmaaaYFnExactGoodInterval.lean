import Derived.Test.YthlinnbamejmaaaPFnExactGoodIntervalx6
import Derived.Test.YthlinnbamejmaaaOpen
import Derived.WalkKit
import Derived.KernelRfl
namespace Go.Proofs.Ythlinnbamejmaaa.PFnExactGoodInterval
open Go.RowKit Go.Proofs.YthlinnbamejmaaaW.PrintWords Go.Proofs.YthlinnbamejmaaaW.PrintLast Go.Proofs.YthlinnbamejmaaaW.PrintMore
open Go.Proofs.YthlinnbamejmaaaO
set_option linter.unusedVariables false
def g83 (x : S83) : Prop := (fun n : Int => (Lit.int .i64 n).wf = true) x.f0 ∧ (fun n : Int => (Lit.int .i64 n).wf = true) x.f1
theorem opens83 {H : Type} (enc : TypeId × Value → H) (w : World) {base : Nat} {spare : Nat → Bool} {held : Bool} : Opens enc Try.prog w base spare held 83 k83 g83 := by
  intro fuel cs x h
  have hlen : cs.length = 2 := (field_ Try.underlying83 h).1.trans (by kernel_rfl)
  obtain ⟨a0, k0, q0⟩ := part_opens Try.underlying83 h 0 0 1 _ rfl rfl rfl (by kernel_rfl) (opens_int Try.underlying3)
  obtain ⟨a1, k1, q1⟩ := part_opens Try.underlying83 h 1 1 1 _ rfl rfl rfl (by kernel_rfl) (opens_int Try.underlying3)
  rw [last_ cs 1 1 (by omega)] at k1
  exact ⟨⟨a0, a1⟩, ⟨_, _, cutAt cs 0 1, k0, k1⟩, ⟨q0, q1⟩⟩
/-- THE ONE PURE STATEMENT of laws_FnExactGoodInterval. -/
def laws_FnExactGoodInterval.Pure : Prop := ∀ (a0_0 : Int) (l0_1 : List (S83)) (l0_2 : List (S83)) (l0_3 : List (S83)) (l0_4 : List (S83)) (l0_5 : List (S83)) (l0_6 : List Int), (fun n : Int => (Lit.int .i64 n).wf = true) a0_0 → (fun l : List (S83) => (l.length ≤ 9223372036854775807) ∧ ∀ x ∈ l, g83 x) l0_1 → (fun l : List (S83) => (l.length ≤ 9223372036854775807) ∧ ∀ x ∈ l, g83 x) l0_2 → (fun l : List (S83) => (l.length ≤ 9223372036854775807) ∧ ∀ x ∈ l, g83 x) l0_3 → (fun l : List (S83) => (l.length ≤ 9223372036854775807) ∧ ∀ x ∈ l, g83 x) l0_4 → (fun l : List (S83) => (l.length ≤ 9223372036854775807) ∧ ∀ x ∈ l, g83 x) l0_5 → (fun l : List Int => (l.length ≤ 9223372036854775807) ∧ ∀ x ∈ l, (fun n : Int => (Lit.int .i64 n).wf = true) x) l0_6 → ∃ k, laws_FnExactGoodInterval.f k a0_0 l0_1 l0_2 l0_3 l0_4 l0_5 l0_6 = some true
end Go.Proofs.Ythlinnbamejmaaa.PFnExactGoodInterval
