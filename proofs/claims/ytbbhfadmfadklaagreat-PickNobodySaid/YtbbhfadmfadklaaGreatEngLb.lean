/-
  Texts that the law leans on. Nothing here is trusted.
-/
import Derived.Test.YtbbhfadmfadklaaGreatEngY
import Derived.KernelRfl
set_option linter.unusedVariables false
set_option linter.unusedSimpArgs false
namespace Go.Eng
open Go Go.RowKit
def Gives {α : Type} (x : Option α) (Φ : α → Prop) : Prop := ∃ a, x = some a ∧ Φ a
def ck (p : Prop) [Decidable p] {α : Type} (e : Option α) : Option α := if p then e else none
inductive St1 (σ ρ : Type) where
  | go (s : σ)
  | out (r : ρ)
section
variable {σ ρ α β : Type} {step : σ → Option (St1 σ ρ)} {s : σ}
theorem some_st {a : α} {Φ : α → Prop} (H : Gives (some a) Φ) : Φ a := by
  obtain ⟨b, h, hb⟩ := H
  cases h
  exact hb
theorem fin_st {a r : α} (H : Gives (some a) fun b => b = r) : a = r := some_st (Φ := fun b => b = r) H
theorem ck_st {p : Prop} {_ : Decidable p} {e : Option α} {Φ : α → Prop} (H : Gives (ck p e) Φ) : p ∧ Gives e Φ := by
  unfold ck at H
  by_cases h : p
  · rw [if_pos h] at H; exact ⟨h, H⟩
  · rw [if_neg h] at H; obtain ⟨_, h, _⟩ := H; cases h
theorem ob_ck {p : Prop} {_ : Decidable p} {e : Option α} {Φ : α → Prop} {G : Prop} (H : Gives (ck p e) Φ) (k : p → Gives e Φ → G) : Ob p ∧ G := ⟨⟨(ck_st H).1⟩, k (ck_st H).1 (ck_st H).2⟩
theorem if_st {p : Prop} {_ : Decidable p} {a b : Option α} {Φ : α → Prop} {G1 G2 : Prop} (H : Gives (if p then a else b) Φ) (k1 : p → Gives a Φ → G1) (k2 : ¬ p → Gives b Φ → G2) : (p → G1) ∧ (¬ p → G2) := by
  refine ⟨fun h => k1 h ?_, fun h => k2 h ?_⟩
  · rwa [if_pos h] at H
  · rwa [if_neg h] at H
end
def gmin (a b : Int) : Int := if b < a then b else a
def gmax (a b : Int) : Int := if b > a then b else a
def ei (k : IntKind) (l : List Int) : List Value := l.map (Value.int k)
def eb (l : List Bool) : List Value := l.map Value.bool
def es (l : List ByteArray) : List Value := l.map Value.string
def ec {α : Type} (c : α → List Value) (l : List α) : List Value := l.flatMap c
def bS (b : Bool) : SV := .b (b = true) (instDecidableEqBool b true)
instance inR_dec (k : IntKind) (n : Int) : Decidable (inR k n) := by cases k <;> (unfold inR; infer_instance)
theorem tn {i : Int} {n : Nat} (h : 0 ≤ i ∧ i < (n : Int)) : i.toNat < n := by omega
def inL (l : List (Nat × Nat)) (f id : Nat) : Bool :=
  match l with
  | [] => false
  | (a, b) :: r => match Nat.beq a f, Nat.beq b id with | true, true => true | _, _ => inL r f id
def isBytes (l : List Int) : Prop := ∀ c ∈ l, 0 ≤ c ∧ c ≤ 255
instance isBytes_dec (l : List Int) : Decidable (isBytes l) := by unfold isBytes; infer_instance
end Go.Eng
