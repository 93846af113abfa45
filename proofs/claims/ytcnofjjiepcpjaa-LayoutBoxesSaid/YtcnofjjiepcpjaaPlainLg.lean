import Derived.Test.YtcnofjjiepcpjaaPlainLf
set_option linter.unusedVariables false
namespace Go.Proofs.Ytcnofjjiepcpjaa
open Go Go.Eng

/-! ### those of one weight -/
def fairQ (l : List Pt) (on : List Bool) (sz : List Int) : Prop :=
  ∀ i k, i < l.length → k < l.length → st on i = true → st on k = true → (pt l i).2.2.1 = (pt l k).2.2.1 → gz sz i < (pt l i).2.1 → gz sz k < (pt l k).2.1 → ex l sz i - ex l sz k ≤ 1
theorem lay_fair {gap : Int} {l : List Pt} {on : List Bool} {left : Int} (d : Dat gap l) : szOk l on (lay l on left).1 ∧ fairQ l on (lay l on left).1 := by
  have := lay_ind (l := l) (on := on) (left := left) (I := fun s => szOk l on s.1 ∧ fairQ l on s.1) ⟨szOk_0 d.o, fun i k hi hk h1 h2 _ _ _ => by
    dsimp only
    unfold ex
    rw [s0_get _ _ _ _ hi, s0_get _ _ _ _ hk, if_pos h1, if_pos h2]
    omega⟩ (by
    rintro ⟨sz, lf⟩ ⟨h1, h2⟩ h4 h5
    dsimp only at h1 h2 h4 h5 ⊢
    have f := nx_in l on sz l.length
    have c := nx_cand l on sz l.length (by omega)
    have mn := nx_min d h1 l.length (Nat.le_refl _) (by omega)
    have hn := h1.n
    refine ⟨szOk_go h1 h5, fun i k hi hk o1 o2 hw m1 m2 => ?_⟩
    have ht : (nx l on sz l.length).toNat < l.length := by omega
    generalize (nx l on sz l.length).toNat = t at *
    have wt := d.o t ht
    unfold okP at wt
    rw [gz_set (by omega)] at m1 m2
    have exs : ∀ j, ex l (sz.set t (gz sz t + 1)) j = if t = j then ex l sz j + 1 else ex l sz j := fun j => by
      unfold ex
      rw [gz_set (by omega)]
      split
      · rename_i e; subst e; omega
      · rfl
    rw [exs, exs]
    have key : ∀ j, j < l.length → st on j = true → (pt l j).2.2.1 = (pt l t).2.2.1 → gz sz j < (pt l j).2.1 → ex l sz t ≤ ex l sz j := fun j hj o1 hw hm => by
      have := mn j hj ⟨o1, by rw [hw]; exact c.2.1, hm⟩
      rw [hw] at this
      have c2 := c.2.1
      exact Int.le_of_mul_le_mul_right this (by omega)
    by_cases e1 : t = i
    · subst e1
      by_cases e2 : t = k
      · subst e2; rw [if_pos rfl]; omega
      · rw [if_pos rfl, if_neg e2]
        rw [if_neg e2] at m2
        have := key k hk o2 hw.symm m2
        omega
    · rw [if_neg e1]
      rw [if_neg e1] at m1
      by_cases e2 : t = k
      · subst e2
        rw [if_pos rfl]
        have := h2 i t hi hk o1 o2 hw m1 c.2.2
        omega
      · rw [if_neg e2]
        rw [if_neg e2] at m2
        exact h2 i k hi hk o1 o2 hw m1 m2)
  exact this.1
theorem fair_gives {room gap : Int} {L : List Pt} (h0 : inR .i64 room) (h1 : inR .i64 gap) (h2 : ∀ a ∈ L, inR .i64 a.1 ∧ inR .i64 a.2.1 ∧ inR .i64 a.2.2.1 ∧ inR .i64 a.2.2.2) : Gives (g9 room gap L) fun r => r = true := by
  unfold g9
  have fin : Gives (g36.bind fun v => some v) fun r => r = true := g_call g36_true (g_some rfl)
  refine g_jn (fun v => v.length ≤ 65) (fun k hk => few_gives hk) fun l hl => ?_
  refine g_bind g34_gives fun a ha => ?_
  subst ha
  refine g_if (fun h => fin) fun h => ?_
  have h : chk room gap l = 0 := by omega
  obtain ⟨c1, c2, c3⟩ := chk_ok h
  have d : Dat gap l := ⟨by omega, c2, c3⟩
  refine g_bind g37_gives fun v hv => g_bind g38_gives fun w hw => ?_
  rw [if_pos h] at hv hw
  subst hv hw
  have ho : (sty gap l room).length = l.length := sty_len
  generalize sty gap l room = on at ho ⊢
  obtain ⟨z, f⟩ := lay_fair (on := on) (left := room - nd gap l on) d
  dsimp only
  generalize (lay l on (room - nd gap l on)).1 = sz at z f ⊢
  have zn := z.n
  refine g_f (by simp) (g_f (by simp) (g_f (by omega) (g_f (by omega) ?_)))
  refine g_jn (fun _ => True) (fun k hk => ?_) fun _ _ => fin
  refine g_bind (Ω := fun o => o = .inr ()) (g_loop (fun s : Int => ∃ m : Nat, s = m ∧ m ≤ l.length) (fun s => ((l.length : Int) - s).toNat) ?_ ⟨0, rfl, Nat.zero_le _⟩) ?_
  · rintro _ ⟨m, rfl, hm⟩
    simp only [Int.toNat_natCast]
    refine g_if (fun hml => ?_) fun _ => g_out rfl
    refine g_jn (fun _ => True) (fun k hk => ?_) fun _ _ => g_i64 (by omega) (g_go ⟨m + 1, by simp, by omega⟩ (by omega))
    refine g_bind (Ω := fun o => o = .inr ()) (g_loop (fun s : Int => ∃ p : Nat, s = p ∧ p ≤ m) (fun s => ((m : Int) - s).toNat) ?_ ⟨0, rfl, Nat.zero_le _⟩) ?_
    · rintro _ ⟨p, rfl, hp⟩
      simp only [Int.toNat_natCast]
      refine g_if (fun hpm => ?_) fun _ => g_out rfl
      refine g_jn (fun _ => True) (fun k hk => g_ck (by omega) ?_) fun _ _ => g_i64 (by omega) (g_go ⟨p + 1, by simp, by omega⟩ (by omega))
      have zm := z.in d (i := m) (by omega)
      have zp := z.in d (i := p) (by omega)
      refine g_if (fun _ => hk _ trivial) fun o1 => g_ck (by omega) (g_if (fun _ => hk _ trivial) fun o2 => g_ck (by omega) (g_ck (by omega) (g_if (fun _ => hk _ trivial) fun hw => g_ck (by omega) (g_ck (by omega) (g_if (fun _ => hk _ trivial) fun x1 => g_ck (by omega) (g_ck (by omega) (g_if (fun _ => hk _ trivial) fun x2 => ?_)))))))
      have o1 : st on m = true := by simpa using o1
      have o2 : st on p = true := by simpa using o2
      have b1 := (z.i m (by omega)).1 o1
      have b2 := (z.i p (by omega)).1 o2
      have hw : (pt l m).2.2.1 = (pt l p).2.2.1 := by simp only [pt]; omega
      have q1 := f m p (by omega) (by omega) o1 o2 hw (by simp only [gz, pt] at b1 ⊢; omega) (by simp only [gz, pt] at b2 ⊢; omega)
      have q2 := f p m (by omega) (by omega) o2 o1 hw.symm (by simp only [gz, pt] at b2 ⊢; omega) (by simp only [gz, pt] at b1 ⊢; omega)
      simp only [ex, gz, pt] at q1 q2 zm zp
      exact g_ck (by omega) (g_ck (by omega) (g_i64 (by omega) (g_ck (by omega) (g_ck (by omega) (g_i64 (by omega) (g_i64 (by omega) (g_f (by omega) (g_f (by omega) (hk _ trivial)))))))))
    · rintro _ rfl
      exact g_sm (fun _ e => by cases e) fun _ _ => hk _ trivial
  · rintro _ rfl
    exact g_sm (fun _ e => by cases e) fun _ _ => hk _ trivial
end Go.Proofs.Ytcnofjjiepcpjaa
