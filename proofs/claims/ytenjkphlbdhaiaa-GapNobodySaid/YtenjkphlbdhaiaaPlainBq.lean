import Derived.Test.YtenjkphlbdhaiaaPlainBp
import Derived.Test.YtenjkphlbdhaiaaLiftM6
set_option linter.unusedVariables false
set_option linter.unusedSimpArgs false
namespace Go.Proofs.Ytenjkphlbdhaiaa
open Go Go.Eng

theorem g55_nil : g55 [] = some ⟨#[]⟩ := rfl
theorem nobody_gives (a0 : List ByteArray) (a1 : Int) : Gives (g6 a0 a1) fun r => r = true := by
  obtain ⟨T, hT, _⟩ := g22_gives a0
  unfold g6
  refine g_jn (fun _ => True) (fun k hk => g_bind (g_loop (R := fun o => o = .inr ()) (fun i : Int => 0 ≤ i ∧ i ≤ 2) (fun i : Int => (2 - i).toNat) ?_ ⟨Int.le_refl _, by omega⟩) ?_) fun _ _ => ?_
  · rintro i ⟨h0, h1⟩
    refine g_if (fun hi => g_ck ⟨h0, hi⟩ (g_if (fun _ => ?_) fun hn0 => g_if (fun _ => ?_) fun hn1 => absurd (show i = ((1 : Nat) : Int) by omega) hn1)) fun _ => g_out rfl
    all_goals
      repeat' first
        | with_reducible exact g_go ⟨by omega, by omega⟩ (by omega)
        | with_reducible refine g_call hT ?_
        | with_reducible refine g_call g55_nil ?_
        | with_reducible refine g_jn (fun _ => True) (fun k hk => g_bind (g_loop (R := fun _ => True) (fun _ => True) (fun _ => 0) (fun _ _ => g_f (by decide) (g_out trivial)) trivial) fun _ _ => hk _ trivial) fun _ _ => ?_
        | with_reducible refine g_jn (fun _ => True) (fun k hk => g_i64 (by omega) (g_bind (g_loop (R := fun _ => True) (fun _ => True) (fun _ => 0) (fun _ _ => g_f (by decide) (g_out trivial)) trivial) fun _ _ => hk _ trivial)) fun _ _ => ?_
        | with_reducible refine g_i64 (by omega) ?_
        | with_reducible refine g_f (by omega) ?_
        | with_reducible refine g_f (not_not_intro rfl) ?_
  · rintro _ rfl
    exact g_sm (fun r hr => by cases hr) (fun _ _ => hk () trivial)
  · exact g_call awake_true (g_some rfl)
theorem nobody_law {a0 : List ByteArray} {a1 : Int} (_ : ∀ a ∈ a0, (fun a : ByteArray => a.size ≤ maxLen) a) (_ : inR .i64 a1) : Gives (g6 a0 a1) fun b => b = true := nobody_gives a0 a1

end Go.Proofs.Ytenjkphlbdhaiaa
