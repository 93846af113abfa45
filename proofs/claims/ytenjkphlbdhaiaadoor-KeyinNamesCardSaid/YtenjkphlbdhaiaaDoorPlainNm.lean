import Derived.Test.YtenjkphlbdhaiaaDoorPlainKM
import Derived.Test.YtenjkphlbdhaiaaDoorLiftD7
set_option linter.unusedVariables false
set_option linter.unusedSimpArgs false
namespace Go.Proofs.YtenjkphlbdhaiaaDoor
open Go Go.Eng

theorem code_or {c : Int} (h : 1 ≤ c ∧ c ≤ 16) : c = 1 ∨ c = 2 ∨ c = 3 ∨ c = 4 ∨ c = 5 ∨ c = 6 ∨ c = 7 ∨ c = 8 ∨ c = 9 ∨ c = 10 ∨ c = 11 ∨ c = 12 ∨ c = 13 ∨ c = 14 ∨ c = 15 ∨ c = 16 := by omega
theorem num_or {c : Int} (h : 1 ≤ c ∧ c ≤ 12) : c = 1 ∨ c = 2 ∨ c = 3 ∨ c = 4 ∨ c = 5 ∨ c = 6 ∨ c = 7 ∨ c = 8 ∨ c = 9 ∨ c = 10 ∨ c = 11 ∨ c = 12 := by omega
/-- a code's word -/
theorem word_eq (c : Int) (S : ByteArray) (n : Int) (x y z : Bool) (hS : S.size ≤ 140737488355328) :
    ∃ v, g28 (c, S, n, x, y, z) = some v ∧ g29 (c, S, n, x, y, z) = some v ∧ v.size ≤ S.size + 20 := by
  by_cases h1 : 1 ≤ c ∧ c ≤ 16
  · rcases code_or h1 with rfl | rfl | rfl | rfl | rfl | rfl | rfl | rfl | rfl | rfl | rfl | rfl | rfl | rfl | rfl | rfl <;> exact ⟨_, rfl, rfl, Nat.le_trans (by decide) (Nat.le_add_left _ _)⟩
  by_cases h2 : c = 17
  · subst h2
    have hs : (lit [99, 116, 114, 108, 45]).size = 5 := rfl
    refine ⟨lit [99, 116, 114, 108, 45] ++ S, ?_, ?_, ?_⟩
    · refine g_eq ?_
      unfold g28
      repeat refine g_f (by dsimp only; omega) ?_
      exact g_t (by rfl) (g_ck (by rw [hs]; dsimp only; omega) (g_some rfl))
    · refine g_eq ?_
      unfold g29
      exact g_jn (fun v => v = false) (fun k hk => g_if (fun _ => hk _ (by rfl)) fun h => absurd (show (1:Int) ≤ 17 by decide) h) fun v hv => by
        subst hv
        exact g_f (by decide) (g_t (by rfl) (g_ck (by rw [hs]; dsimp only; omega) (g_some rfl)))
    · rw [ByteArray.size_append, hs]; omega
  by_cases h3 : c = 18 ∧ 1 ≤ n ∧ n ≤ 12
  · obtain ⟨rfl, h3⟩ := h3
    rcases num_or h3 with rfl | rfl | rfl | rfl | rfl | rfl | rfl | rfl | rfl | rfl | rfl | rfl
    · exact ⟨lit [102, 49], by kernel_rfl, by kernel_rfl, Nat.le_trans (by decide) (Nat.le_add_left _ _)⟩
    · exact ⟨lit [102, 50], by kernel_rfl, by kernel_rfl, Nat.le_trans (by decide) (Nat.le_add_left _ _)⟩
    · exact ⟨lit [102, 51], by kernel_rfl, by kernel_rfl, Nat.le_trans (by decide) (Nat.le_add_left _ _)⟩
    · exact ⟨lit [102, 52], by kernel_rfl, by kernel_rfl, Nat.le_trans (by decide) (Nat.le_add_left _ _)⟩
    · exact ⟨lit [102, 53], by kernel_rfl, by kernel_rfl, Nat.le_trans (by decide) (Nat.le_add_left _ _)⟩
    · exact ⟨lit [102, 54], by kernel_rfl, by kernel_rfl, Nat.le_trans (by decide) (Nat.le_add_left _ _)⟩
    · exact ⟨lit [102, 55], by kernel_rfl, by kernel_rfl, Nat.le_trans (by decide) (Nat.le_add_left _ _)⟩
    · exact ⟨lit [102, 56], by kernel_rfl, by kernel_rfl, Nat.le_trans (by decide) (Nat.le_add_left _ _)⟩
    · exact ⟨lit [102, 57], by kernel_rfl, by kernel_rfl, Nat.le_trans (by decide) (Nat.le_add_left _ _)⟩
    · exact ⟨lit [102, 49, 48], by kernel_rfl, by kernel_rfl, Nat.le_trans (by decide) (Nat.le_add_left _ _)⟩
    · exact ⟨lit [102, 49, 49], by kernel_rfl, by kernel_rfl, Nat.le_trans (by decide) (Nat.le_add_left _ _)⟩
    · exact ⟨lit [102, 49, 50], by kernel_rfl, by kernel_rfl, Nat.le_trans (by decide) (Nat.le_add_left _ _)⟩
  · have hr : ∀ v : ByteArray, (⟨#[]⟩ : ByteArray).size ≤ S.size + 20 := fun _ => Nat.zero_le _
    refine ⟨⟨#[]⟩, ?_, ?_, Nat.zero_le _⟩
    · refine g_eq ?_
      unfold g28
      repeat refine g_f (by dsimp only; omega) ?_
      refine g_if (fun h => ?_) fun _ => g_some rfl
      dsimp only at h
      exact g_if (fun ha => g_f (fun hb => h3 ⟨h, ha, hb⟩) (g_some rfl)) fun _ => g_some rfl
    · refine g_eq ?_
      unfold g29
      refine g_jn (fun v => v = false) (fun k hk => g_if (fun ha => hk _ (decide_eq_false (by dsimp only at ha ⊢; omega))) fun _ => hk _ rfl) fun v hv => ?_
      subst hv
      refine g_f (by decide) (g_f (by dsimp only; omega) ?_)
      refine g_jn (fun v => v = false) (fun k hk => g_if (fun hc => g_if (fun ha => hk _ (decide_eq_false (by dsimp only at hc ha ⊢; omega))) fun _ => hk _ rfl) fun _ => hk _ rfl) fun v hv => ?_
      subst hv
      refine g_f (by decide) ?_
      refine g_jn (fun v => v = false) (fun k hk => g_if (fun hc => g_if (fun ha => hk _ (decide_eq_false (by dsimp only at hc ha ⊢; omega))) fun _ => hk _ rfl) fun _ => hk _ rfl) fun v hv => ?_
      subst hv
      exact g_f (by decide) (g_some rfl)
/-- a key's name: both put the same words ahead of the code's -/
theorem name_eq (c : Int) (S : ByteArray) (n : Int) (x y z : Bool) (hS : S.size ≤ 140737488355328) :
    ∃ v, g21 (c, S, n, x, y, z) = some v ∧ g22 (c, S, n, x, y, z) = some v := by
  obtain ⟨w, e1, e2, hw⟩ := word_eq c S n x y z hS
  have es : (lit [115, 104, 105, 102, 116, 45]).size = 6 := rfl
  have ec : (lit [99, 116, 108, 45]).size = 4 := rfl
  have ea : (lit [97, 108, 116, 45]).size = 4 := rfl
  have run : ∃ v, g21 (c, S, n, x, y, z) = some v := by
    have : Gives (g21 (c, S, n, x, y, z)) fun _ => True := by
      unfold g21
      refine g_call e1 ?_
      repeat' first
        | exact g_some trivial
        | refine g_ck (by simp only [ByteArray.size_append, es, ec, ea]; omega) ?_
        | refine g_if (fun _ => ?_) fun _ => ?_
    obtain ⟨v, h, _⟩ := this
    exact ⟨v, h⟩
  obtain ⟨v, hv⟩ := run
  refine ⟨v, hv, ?_⟩
  rw [← hv]
  unfold g21 g22
  rw [e1, e2]
theorem names_gives {a0 : Int × ByteArray × Int × Bool × Bool × Bool} (hS : a0.2.1.size ≤ 140737488355328) : Gives (g6 a0) fun r => r = true := by
  obtain ⟨c, S, n, x, y, z⟩ := a0
  obtain ⟨v, e1, e2⟩ := name_eq c S n x y z hS
  unfold g6
  refine g_jn (fun _ => True) (fun k hk => g_bind (g_loop (R := fun o => o = .inr ()) (fun i : Int => 0 ≤ i ∧ i ≤ 2) (fun i : Int => (2 - i).toNat) ?_ ⟨Int.le_refl _, by omega⟩) ?_) fun _ _ => ?_
  · rintro i ⟨h0, h1⟩
    refine g_if (fun hi => g_ck ⟨h0, hi⟩ (g_if (fun _ => ?_) fun hn0 => g_if (fun _ => ?_) fun hn1 => absurd (show i = ((1 : Nat) : Int) by omega) hn1)) fun _ => g_out rfl
    all_goals exact g_i64 (by omega) (g_i64 (by omega) (g_i64 (by omega) (g_i64 (by omega) (g_f (by omega) (g_i64 (by omega) (g_go ⟨by omega, by omega⟩ (by omega)))))))
  · rintro _ rfl
    exact g_sm (fun r hr => by cases hr) (fun _ _ => hk () trivial)
  · exact g_call e1 (g_call e2 (g_if (fun _ => g_call awake_true (g_some rfl)) fun h => absurd rfl h))
theorem names_law {a0 : Int × ByteArray × Int × Bool × Bool × Bool} (_ : inR .i64 a0.1 ∧ a0.2.1.size ≤ maxLen ∧ inR .i64 a0.2.2.1 ∧ True ∧ True ∧ True) (hS : a0.2.1.size ≤ 140737488355328) : Gives (g6 a0) fun b => b = true := names_gives hS

end Go.Proofs.YtenjkphlbdhaiaaDoor
