import Derived.Test.YtcnofjjiepcpjaaLiftW3
import Derived.Test.YtcnofjjiepcpjaaEngLc
set_option linter.unusedVariables false
namespace Go.Proofs.Ytcnofjjiepcpjaa
open Go Go.Eng

/-- the first and the last line that are shown -/
def lst (a0 a1 a2 : Int) (r : Int × Int) : Prop :=
  r.1 = (if max 0 a1 / 2 < a2 then min (a2 - max 0 a1 / 2) (max 0 (max 0 a0 - max 0 a1)) else 0) ∧ r.2 = (if max 0 a1 < max 0 a0 - r.1 then r.1 + max 0 a1 else max 0 a0)
theorem half (a : Int) : Int.tdiv (max 0 a) 2 = max 0 a / 2 := Int.tdiv_eq_ediv_of_nonneg (by omega)
theorem g21_gives {a0 a1 a2 : Int} (h0 : inR .i64 a0) (h1 : inR .i64 a1) (h2 : inR .i64 a2) : Gives (g21 a0 a1 a2) (lst a0 a1 a2) := by
  simp only [inR] at h0 h1 h2
  unfold g21 lst
  simp only [gmin_eq, gmax_eq, half]
  refine g_i64 (by omega) (g_i64 (by omega) (g_jn (fun v => v = (if max 0 a1 / 2 < a2 then min (a2 - max 0 a1 / 2) (max 0 (max 0 a0 - max 0 a1)) else 0)) (fun k hk => ?_) fun v hv => ?_))
  · refine g_if (fun h => g_i64 (by omega) (hk _ ?_)) fun h => hk _ ?_
    · rw [if_pos h]
    · rw [if_neg h]
  · have : 0 ≤ v ∧ v ≤ max 0 (max 0 a0 - max 0 a1) := by rw [hv]; split <;> omega
    refine g_i64 (by omega) (g_if (fun h => g_i64 (by omega) (g_some ⟨hv, ?_⟩)) fun h => g_some ⟨hv, ?_⟩)
    · rw [if_pos h]
    · rw [if_neg h]
theorem g22_gives {a0 a1 a2 : Int} (h0 : inR .i64 a0) (h1 : inR .i64 a1) (h2 : inR .i64 a2) : Gives (g22 a0 a1 a2) (lst a0 a1 a2) := by
  simp only [inR] at h0 h1 h2
  unfold g22 lst
  simp only [gmin_eq, gmax_eq, half]
  refine g_i64 (by omega) (g_jn (fun v => v = (if max 0 a1 / 2 < a2 then min (a2 - max 0 a1 / 2) (max 0 (max 0 a0 - max 0 a1)) else 0)) (fun k hk => ?_) fun v hv => ?_)
  · refine g_i64 (by omega) (g_if (fun h => g_i64 (by omega) (g_i64 (by omega) (hk _ ?_))) fun h => hk _ ?_)
    · rw [if_pos h]; omega
    · rw [if_neg h]
  · have : 0 ≤ v ∧ v ≤ max 0 (max 0 a0 - max 0 a1) := by rw [hv]; split <;> omega
    refine g_i64 (by omega) (g_if (fun h => (g_some ⟨hv, ?_⟩)) fun h => g_i64 (by omega) (g_some ⟨hv, ?_⟩))
    · dsimp only; split <;> omega
    · dsimp only; split <;> omega
theorem lst_one {a0 a1 a2 : Int} {r s : Int × Int} (h : lst a0 a1 a2 r) (h' : lst a0 a1 a2 s) : s = r := by
  obtain ⟨x, y⟩ := r
  obtain ⟨u, v⟩ := s
  obtain ⟨h1, h2⟩ := h
  obtain ⟨h3, h4⟩ := h'
  have e : u = x := h3.trans h1.symm
  dsimp only at h1 h2 h3 h4
  subst e
  rw [h2, h4]
/-- so many of the lines from a place on -/
def run (a : Int) : Nat → List Int
  | 0 => []
  | n + 1 => run a n ++ [a + n]
theorem run_len (a : Int) : ∀ n, (run a n).length = n
  | 0 => rfl
  | n + 1 => by simp [run, run_len a n]
theorem run_get (a : Int) : ∀ (n i : Nat), i < n → (run a n).getD i 0 = a + i
  | 0, i, h => by omega
  | n + 1, i, h => by
    rw [run]
    simp only [List.getD_eq_getElem?_getD]
    by_cases e : i < n
    · rw [List.getElem?_append_left (by rw [run_len]; exact e)]
      have := run_get a n i e
      rwa [List.getD_eq_getElem?_getD] at this
    · have : i = n := by omega
      subst this
      rw [List.getElem?_append_right (by rw [run_len]; exact Nat.le_refl _), run_len]
      simp
theorem g23_gives {a0 a1 a2 a3 : Int} (h0 : inR .i64 a0) (h1 : inR .i64 a1) (h2 : inR .i64 a2) (h3 : a3 ≤ 1000) {r : Int × Int} (hr : lst a0 a1 a2 r) (hi : inR .i64 r.1 ∧ inR .i64 r.2 ∧ r.1 ≤ r.2 ∧ inR .i64 (r.2 - r.1)) :
    Gives (g23 a0 a1 a2 a3) fun x => x = (run r.1 (min a3 (r.2 - r.1)).toNat, true) := by
  unfold g23
  refine g_jn (fun v => v = run r.1 (min a3 (r.2 - r.1)).toNat) (fun k hk => ?_) fun v hv => g_some (by rw [hv])
  refine g_bind (g21_gives h0 h1 h2) fun b hb => ?_
  have e := lst_one hr hb
  subst e
  obtain ⟨i1, i2, i3, i4⟩ := hi
  simp only [inR] at i1 i2 i4
  refine g_bind (Ω := fun o => (∃ l, o = .inl l ∧ l = run b.1 (min a3 (b.2 - b.1)).toNat) ∨ ∃ l, o = .inr (.inr l) ∧ l = run b.1 (min a3 (b.2 - b.1)).toNat)
    (g_loop (fun s => ∃ n : Nat, s = (run b.1 n, b.1 + n) ∧ (n : Int) ≤ max 0 (min a3 (b.2 - b.1))) (fun s => (b.2 - s.2).toNat) ?_ ⟨0, by simp [run], by simp; omega⟩) ?_
  · rintro _ ⟨n, rfl, hn⟩
    dsimp only
    rw [run_len]
    refine g_if (fun h => ?_) fun h => ?_
    · refine g_i64 (by omega) (g_if (fun h' => g_out (.inl ⟨_, rfl, ?_⟩)) fun h' => g_f (by omega) (g_ck (by omega) (g_i64 (by omega) (g_go ⟨n + 1, ?_, by omega⟩ ?_))))
      · congr 1; omega
      · simp [run]; omega
      · dsimp only; omega
    · refine g_out (.inr ⟨_, rfl, ?_⟩)
      congr 1; omega
  · rintro _ (⟨l, rfl, hl⟩ | ⟨l, rfl, hl⟩)
    · exact hk _ hl
    · exact hk _ hl
end Go.Proofs.Ytcnofjjiepcpjaa
