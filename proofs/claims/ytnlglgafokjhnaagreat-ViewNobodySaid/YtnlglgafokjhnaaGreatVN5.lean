/-
  Texts that the law leans on. Nothing here is trusted.
-/
import Derived.Test.YtnlglgafokjhnaaGreatVN4
set_option linter.unusedVariables false
set_option linter.unusedSimpArgs false
namespace Go.Proofs.YtnlglgafokjhnaaGreat
open Go Go.Eng
theorem g38_eq (v : (ByteArray × Int × Bool × List Int × Nat)) : Gives (g38 v) fun r => True := by
  unfold g38
  rw [gmin_eq, gmin_eq]
  exact g_ck (by omega) (g_ck (by omega) (g_some trivial))
theorem g10_eq (a : (Int × ByteArray × ByteArray × List ByteArray × Int × Int × Nat × Nat × Nat × ByteArray × Int × Bool × List Int × Nat × ByteArray × ByteArray)) : Gives (g10 a) fun r => True := by
  unfold g10
  rw [gmin_eq, gmin_eq, gmin_eq, gmin_eq]
  refine g_ck (by omega) (g_ck (by omega) (g_ck (by omega) (g_ck (by omega) (g_bind (g38_eq _) fun w _ => g_jo (g_bind (Ω := fun o : List ByteArray => True)
    (g_loop (fun p : List ByteArray × Int => 0 ≤ p.2 ∧ p.2 ≤ 40 ∧ p.1.length = p.2.toNat) (fun p => 40 - p.2.toNat) ?_ ⟨by simp, by simp, rfl⟩) fun o ho => g_some trivial)))))
  rintro ⟨l, i⟩ ⟨h0, h1, h2⟩
  dsimp only at h0 h1 h2 ⊢
  rw [gmin_eq]
  refine g_if (fun hlt => g_if (fun h40 => ?_) fun _ => g_out trivial) fun _ => g_out trivial
  exact g_ck (by omega) (g_ck (by omega) (g_ck (by omega) (g_ck (by omega) (g_i64 (by omega) (g_go ⟨by dsimp only; omega, by dsimp only; omega, by dsimp only; rw [List.length_append, List.length_singleton]; omega⟩ (by dsimp only; omega))))))
theorem g4_eq (a : DP) : Gives (g4 a) fun r => True := by
  unfold g4
  rw [gmin_eq]
  refine g_ck (by omega) (g_jo (g_bind (Ω := fun _ => True)
    (g_loop (fun p => 0 ≤ p.2 ∧ p.2 ≤ 12 ∧ p.1.length = p.2.toNat) (fun p => 12 - p.2.toNat) ?_ ⟨by simp, by simp, rfl⟩) fun o ho => g_jo (g_bind (Ω := fun o : List ByteArray => True)
    (g_loop (fun p : List ByteArray × Int => 0 ≤ p.2 ∧ p.2 ≤ 18 ∧ p.1.length = p.2.toNat) (fun p => 18 - p.2.toNat) ?_ ⟨by simp, by simp, rfl⟩) fun o ho => g_some trivial)))
  · rintro ⟨l, i⟩ ⟨h0, h1, h2⟩
    dsimp only at h0 h1 h2 ⊢
    refine g_if (fun hlt => g_if (fun h40 => ?_) fun _ => g_out trivial) fun _ => g_out trivial
    exact g_ck (by omega) (g_bind (g10_eq _) fun v _ => g_ck (by omega) (g_i64 (by omega) (g_go ⟨by dsimp only; omega, by dsimp only; omega, by dsimp only; rw [List.length_append, List.length_singleton]; omega⟩ (by dsimp only; omega))))
  · rintro ⟨l, i⟩ ⟨h0, h1, h2⟩
    dsimp only at h0 h1 h2 ⊢
    rw [gmin_eq]
    refine g_if (fun hlt => g_if (fun h40 => ?_) fun _ => g_out trivial) fun _ => g_out trivial
    exact g_ck (by omega) (g_ck (by omega) (g_ck (by omega) (g_ck (by omega) (g_i64 (by omega) (g_go ⟨by dsimp only; omega, by dsimp only; omega, by dsimp only; rw [List.length_append, List.length_singleton]; omega⟩ (by dsimp only; omega))))))
theorem g4_some (a : DP) : ∃ v, g4 a = some v := by
  obtain ⟨v, h, _⟩ := g4_eq a
  exact ⟨v, h⟩
end Go.Proofs.YtnlglgafokjhnaaGreat
