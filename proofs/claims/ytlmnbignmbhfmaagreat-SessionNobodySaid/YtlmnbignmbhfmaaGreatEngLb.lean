/-
  Texts that the law leans on. Nothing here is trusted.
-/
import Derived.Test.YtlmnbignmbhfmaaGreatEngY
import Derived.KernelRfl
set_option linter.unusedVariables false
set_option linter.unusedSimpArgs false
namespace Go.Eng
open Go Go.RowKit
def ck (p : Prop) [Decidable p] {α : Type} (e : Option α) : Option α := if p then e else none
inductive St1 (σ ρ : Type) where
  | go (s : σ)
  | out (r : ρ)
section
variable {σ ρ α β : Type} {step : σ → Option (St1 σ ρ)} {s : σ}
end
def ei (k : IntKind) (l : List Int) : List Value := l.map (Value.int k)
def es (l : List ByteArray) : List Value := l.map Value.string
def ec {α : Type} (c : α → List Value) (l : List α) : List Value := l.flatMap c
instance inR_dec (k : IntKind) (n : Int) : Decidable (inR k n) := by cases k <;> (unfold inR; infer_instance)
theorem tn {i : Int} {n : Nat} (h : 0 ≤ i ∧ i < (n : Int)) : i.toNat < n := by omega
def inL (l : List (Nat × Nat)) (f id : Nat) : Bool :=
  match l with
  | [] => false
  | (a, b) :: r => match Nat.beq a f, Nat.beq b id with | true, true => true | _, _ => inL r f id
def isBytes (l : List Int) : Prop := ∀ c ∈ l, 0 ≤ c ∧ c ≤ 255
instance isBytes_dec (l : List Int) : Decidable (isBytes l) := by unfold isBytes; infer_instance
end Go.Eng
