/-
  Texts that the law leans on. Nothing here is trusted.
-/
import Derived.Test.YtlmnbignmbhfmaaGreatEngRd
set_option linter.unusedVariables false
set_option linter.unusedSimpArgs false
namespace Go.Eng
open Go
section
variable {σ ρ α β : Type} {Φ Ψ : α → Prop} {Ω : β → Prop}
end
section
variable {σ ρ α β γ : Type}
def Le (x y : Option α) : Prop := ∀ r, x = some r → y = some r
theorem le_refl {x : Option α} : Le x x := fun _ h => h
end
end Go.Eng
