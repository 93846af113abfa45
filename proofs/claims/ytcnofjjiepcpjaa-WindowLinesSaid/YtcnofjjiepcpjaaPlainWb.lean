import Derived.Test.YtcnofjjiepcpjaaPlainW
import Derived.Test.YtcnofjjiepcpjaaLiftW2
set_option linter.unusedVariables false
namespace Go.Proofs.Ytcnofjjiepcpjaa
open Go Go.Eng

theorem g24_true : g24 = some true := e24_le 100 true (by kernel_rfl)
theorem lists_gives {a0 a1 a2 a3 : Int} (h0 : inR .i64 a0) (h1 : inR .i64 a1) (h2 : inR .i64 a2) (h3 : inR .u8 a3) : Gives (g4 a0 a1 a2 a3) fun r => r = true := by
  unfold g4
  refine g_bind (g21_gives h0 h1 h2) fun b hb => g_bind (g22_gives h0 h1 h2) fun c hc => ?_
  have e := lst_one hb hc
  subst e
  refine g_f (by simp) (g_f (by simp) ?_)
  have g23g : ∀ a3, a3 ≤ 1000 → (inR .i64 c.1 ∧ inR .i64 c.2 ∧ c.1 ≤ c.2 ∧ inR .i64 (c.2 - c.1)) → Gives (g23 a0 a1 a2 a3) fun x => x = (run c.1 (min a3 (c.2 - c.1)).toNat, true) := fun a3 h hi => g23_gives h0 h1 h2 h hb hi
  simp only [gmin_eq]
  simp only [inR] at h0 h1 h2 h3 g23g
  obtain ⟨x, y⟩ := c
  obtain ⟨b1, b2⟩ := hb
  dsimp only at b1 b2 g23g ⊢
  have hx : 0 ≤ x ∧ x ≤ max 0 (max 0 a0 - max 0 a1) ∧ (max 0 a1 / 2 < a2 → x = min (a2 - max 0 a1 / 2) (max 0 (max 0 a0 - max 0 a1))) ∧ (¬ max 0 a1 / 2 < a2 → x = 0) := by
    rw [b1]; split
    · exact ⟨by omega, by omega, fun _ => rfl, fun h => absurd ‹_› h⟩
    · exact ⟨by omega, by omega, fun h => absurd h ‹_›, fun _ => rfl⟩
  have hy : (max 0 a1 < max 0 a0 - x → y = x + max 0 a1) ∧ (¬ max 0 a1 < max 0 a0 - x → y = max 0 a0) := by
    rw [b2]; split
    · exact ⟨fun _ => rfl, fun h => absurd ‹_› h⟩
    · exact ⟨fun h => absurd h ‹_›, fun _ => rfl⟩
  clear b1 b2
  refine g_jn (fun v => v = false) (fun k hk => ?_) fun v hv => ?_
  · have last : (0 ≤ a1 ∧ a1 ≤ a0 → y - x = a1) → Gives (if a1 ≤ a0 then if 0 ≤ a1 then ck (inR .i64 (y - x)) (k (decide (¬ (y - x) = a1))) else k false else k false) _ := fun hh =>
      g_if (fun h => g_if (fun h' => g_i64 (by omega) (hk _ (by simp; exact hh ⟨h', h⟩))) fun _ => hk _ rfl) fun _ => hk _ rfl
    refine g_if (fun _ => g_if (fun _ => g_if (fun _ => g_if (fun _ => g_f (by omega) (g_f (by omega) (last (by omega)))) fun _ => last (by omega)) fun _ => last (by omega)) fun _ => last (by omega)) fun _ => last (by omega)
  · refine g_f (by simp [hv]) (g_i64 (by omega) (g_i64 (by omega) (g_bind (g23g (min a3 (y - x)) (by omega) (by omega)) fun v hv => ?_)))
    subst hv
    dsimp only
    rw [run_len]
    refine g_f (by simp) (g_f (by omega) (g_jn (fun _ => True) (fun k hk => ?_) fun _ _ => ?_))
    · refine g_bind (Ω := fun o => o = .inr ()) (g_loop (fun s => 0 ≤ s ∧ s ≤ max 0 (min a3 (y - x))) (fun s => (max 0 (min a3 (y - x)) - s).toNat) ?_ (by omega)) ?_
      · rintro s ⟨hs1, hs2⟩
        refine g_if (fun h => g_ck (by omega) (g_i64 (by omega) ?_)) fun h => g_out rfl
        rw [run_get _ _ _ (by omega)]
        refine g_f (by omega) (g_i64 (by omega) (g_go ⟨by omega, by omega⟩ (by omega)))
      · rintro _ rfl
        exact hk _ trivial
    · have fin : Gives (g24.bind fun v => some v) fun r => r = true := g_call g24_true (g_some rfl)
      refine g_i64 (by omega) (g_if (fun h => g_bind (g23g 200 (by omega) (by omega)) fun v hv => ?_) fun _ => fin)
      subst hv
      dsimp only
      rw [run_len]
      exact g_f (by simp) (g_i64 (by omega) (g_f (by omega) fin))
end Go.Proofs.Ytcnofjjiepcpjaa
