/-
  Texts that the law leans on. Nothing here is trusted.
-/
import Derived.Test.YtlmnbignmbhfmaaGreatEngLc
import Derived.WalkKit
import Derived.ProofKit
import Derived.OpenShut
import Derived.ShutString
import Derived.ChangeOld
import Derived.Below
import Derived.Deep.Slices
import Derived.Deep.Fields
set_option linter.unusedVariables false
set_option linter.unusedSimpArgs false
namespace Go.Eng
open Go Go.RowKit
theorem wf_in {k : IntKind} {a : Int} (h : (Lit.int k a).wf = true) : inR k a := by
  simp only [Lit.wf, Bool.and_eq_true, decide_eq_true_eq] at h
  cases k <;> exact h
theorem er_len {α β : Type} {f : α → β} {X : List α} {x : List β} (h : X.map f = x) : X.length = x.length := by rw [← h, List.length_map]
theorem nx {α β : Type} {f : α → β} {C : α → List Value} {P : α → Prop} {X : List α} {x : List β} {zs : List Value} (h : X.map f = x) (hP : ∀ p ∈ X, P p) (hz : zs = ec C X) : ∃ X', X'.map f = x ∧ (∀ p ∈ X', P p) ∧ X'.length = x.length ∧ zs = ec C X' := ⟨X, h, hP, er_len h, hz⟩
def cl {α : Type} (b : Nat) (a : List α) : Option (List α) := ck (a.length * b ≤ 140737488355328) <| some a
end Go.Eng
