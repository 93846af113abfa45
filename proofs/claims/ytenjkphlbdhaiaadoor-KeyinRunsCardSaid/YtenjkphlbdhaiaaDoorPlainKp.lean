import Derived.Test.YtenjkphlbdhaiaaDoorPlainKo
set_option linter.unusedVariables false
set_option linter.unusedSimpArgs false
namespace Go.Proofs.YtenjkphlbdhaiaaDoor
open Go Go.Eng

def endI (B : List Int) : Int := match endAt B with | some k => k | none => -1
theorem g25_eq {B : List Int} (hB : Byt B) (hn : B.length ≤ 1000000) : g25 B = some (endI B) := by
  refine g_eq ?_
  unfold g25
  refine g_jn (fun _ => endAt B = none) (fun k hk => g_bind (g_loop (R := fun o => (∃ j : Nat, o = .inl (j : Int) ∧ endAt B = some j) ∨ (o = .inr () ∧ endAt B = none)) (fun i : Int => 0 ≤ i ∧ i ≤ B.length ∧ ∀ j : Nat, (j : Int) < i → (B.drop j).take 6 ≠ E6) (fun i : Int => ((B.length : Int) - i).toNat) ?_ ⟨Int.le_refl _, by omega, fun j hj => by omega⟩) ?_) fun _ h => g_some (by unfold endI; rw [h])
  · rintro i ⟨h0, h1, h2⟩
    refine g_i64 (by omega) (g_if (fun hi => ?_) fun hi => g_out (.inr ⟨rfl, endAt_none.2 fun j hj => ?_⟩))
    · have e6' : (i + 6).toNat - i.toNat = 6 := by omega
      rw [e6']
      have hl : lit [27, 91, 50, 48, 49, 126] = strOf E6 := rfl
      have hE : isBytes E6 := by intro c hc; simp [E6] at hc; omega
      have hb : isBytes ((B.drop i.toNat).take 6) := byt_sub hB
      rw [hl]
      refine g_i64 (by omega) (g_ck (by omega) (g_ck hb (g_if (fun h => g_out (.inl ⟨i.toNat, congrArg Sum.inl (show i = ((i.toNat : Nat) : Int) by omega), endAt_some.2 ⟨(str_eq hb hE).1 h, fun j hj => h2 j (by omega)⟩⟩)) fun h => g_i64 (by omega) (g_go ⟨by omega, by omega, fun j hj => ?_⟩ (by omega)))))
      by_cases hji : (j : Int) < i
      · exact h2 j hji
      · have : j = i.toNat := by omega
        subst this
        exact fun e => h ((str_eq hb hE).2 e)
    · have := take6_len hj
      exact h2 j (by omega) hj
  · rintro o (⟨j, rfl, hs⟩ | ⟨rfl, hs⟩)
    · exact g_sm (fun r hr => by cases hr; exact g_some (by unfold endI; rw [hs])) (fun r hr => by cases hr)
    · exact g_sm (fun r hr => by cases hr) (fun _ _ => hk () hs)
theorem pkey_ref {p : List Int} (hp : Byt p) (hl : p.length ≤ 1000000) : ∃ s, g26 p = some s ∧ pkey p = (16, s, 0, false, false, false) := by
  obtain ⟨s, h1, h2⟩ := text_same hp hl
  refine ⟨s, h2, ?_⟩
  unfold pkey txt
  rw [h2]
  rfl
theorem take_len {B : List Int} {n : Nat} : (B.drop n).take (((B.length : Nat) : Int).toNat - n) = B.drop n := List.take_of_length_le (by rw [List.length_drop]; omega)
/-- one round of the document's Feed, from what is known of the state -/
def FI (b : List Int) (pa0 : Bool) (s : List Int × Bool × List Ky) : Prop := Byt s.1 ∧ s.2.2.length + s.1.length ≤ b.length ∧ ∀ {B' pa' ks}, Run s.1 s.2.1 B' pa' ks → Run b pa0 B' pa' (s.2.2 ++ ks)
theorem FI.fin {b : List Int} {pa0 : Bool} {B : List Int} {pa : Bool} {out : List Ky} (h : FI b pa0 (B, pa, out)) (hs : st1 B pa = none) : Run b pa0 B pa out := by
  have := h.2.2 (.stop hs)
  rwa [List.append_nil] at this
theorem FI.step {b : List Int} {pa0 : Bool} {B : List Int} {pa : Bool} {out : List Ky} (h : FI b pa0 (B, pa, out)) {B1 : List Int} {pa1 : Bool} {ks : List Ky} (hs : st1 B pa = some (B1, pa1, ks)) (hk : ks.length ≤ 1) : FI b pa0 (B1, pa1, out ++ ks) ∧ B1.length < B.length := by
  have hl := st1_len h.1 hs
  refine ⟨⟨hl.2, ?_, fun r => ?_⟩, hl.1⟩
  · have := h.2.1
    have := hl.1
    dsimp only at *
    rw [List.length_append]
    omega
  · dsimp only
    rw [List.append_assoc]
    exact h.2.2 (.step hs r)

end Go.Proofs.YtenjkphlbdhaiaaDoor
