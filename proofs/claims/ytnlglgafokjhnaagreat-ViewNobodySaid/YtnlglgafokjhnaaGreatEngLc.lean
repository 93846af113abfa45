/-
  Texts that the law leans on. Nothing here is trusted.
-/
import Derived.Test.YtnlglgafokjhnaaGreatEngRd
set_option linter.unusedVariables false
set_option linter.unusedSimpArgs false
namespace Go.Eng
open Go
section
variable {σ ρ α β : Type} {Φ Ψ : α → Prop} {Ω : β → Prop}
theorem g_some {a : α} (h : Φ a) : Gives (some a) Φ := ⟨a, rfl, h⟩
theorem g_bind {x : Option β} {f : β → Option α} (h : Gives x Ω) (hf : ∀ b, Ω b → Gives (f b) Φ) : Gives (x.bind f) Φ := by
  obtain ⟨b, rfl, hb⟩ := h
  exact hf b hb
theorem g_ck {p : Prop} {_ : Decidable p} {e : Option α} (hp : p) (h : Gives e Φ) : Gives (ck p e) Φ := by unfold ck; rw [if_pos hp]; exact h
theorem g_i64 {n : Int} {_ : Decidable (inR .i64 n)} {e : Option α} (h1 : -9223372036854775808 ≤ n ∧ n ≤ 9223372036854775807) (h : Gives e Φ) : Gives (ck (inR .i64 n) e) Φ := g_ck h1 h
theorem g_if {p : Prop} {_ : Decidable p} {a b : Option α} (h1 : p → Gives a Φ) (h2 : ¬ p → Gives b Φ) : Gives (if p then a else b) Φ := by
  split
  · exact h1 ‹_›
  · exact h2 ‹_›
theorem g_jo {A : (β → Option α) → Option α} {k : β → Option α} (h : Gives (A k) Φ) : Gives (jn A k) Φ := h
def rnd (Q : σ → Prop) (μ : σ → Nat) (m : Nat) (R : ρ → Prop) (x : St1 σ ρ) : Prop := match x with | .go s => Q s ∧ μ s < m | .out r => R r
theorem g_go {Q : σ → Prop} {μ : σ → Nat} {m : Nat} {R : ρ → Prop} {s : σ} (h : Q s) (hm : μ s < m) : Gives (some (St1.go s)) (rnd Q μ m R) := ⟨_, rfl, h, hm⟩
theorem g_out {Q : σ → Prop} {μ : σ → Nat} {m : Nat} {R : ρ → Prop} {r : ρ} (h : R r) : Gives (some (St1.out (σ := σ) r)) (rnd Q μ m R) := ⟨_, rfl, h⟩
theorem g_loop {step : σ → Option (St1 σ ρ)} {R : ρ → Prop} (Q : σ → Prop) (μ : σ → Nat) (h : ∀ s, Q s → Gives (step s) (rnd Q μ (μ s) R)) {s : σ} (hs : Q s) : Gives (loopO step s) R := by
  have := loopO_rel (step := step) (Q := Q) (R := R) μ (fun s hs => by
    obtain ⟨x, hx, hr⟩ := h s hs
    cases x with
    | go s' => exact .inr ⟨s', hx, hr⟩
    | out r => exact .inl ⟨r, hx, hr⟩) s hs
  exact this
end
section
variable {σ ρ α β γ : Type}
def Le (x y : Option α) : Prop := ∀ r, x = some r → y = some r
theorem le_refl {x : Option α} : Le x x := fun _ h => h
end
end Go.Eng
