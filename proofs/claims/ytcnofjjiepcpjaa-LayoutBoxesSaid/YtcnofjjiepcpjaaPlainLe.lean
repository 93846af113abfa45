import Derived.Test.YtcnofjjiepcpjaaPlainLd
set_option linter.unusedVariables false
namespace Go.Proofs.Ytcnofjjiepcpjaa
open Go Go.Eng

theorem shF_ind {l : List Pt} {on : List Bool} {I : List Int × Int → Prop} (hs : ∀ s, I s → ¬ s.2 ≤ 0 → ¬ nx l on s.1 l.length < 0 → I (s.1.set (nx l on s.1 l.length).toNat (gz s.1 (nx l on s.1 l.length).toNat + 1), s.2 - 1)) :
    ∀ (k : Nat) s, I s → s.2 < (k : Int) → I (shF l on k s) ∧ ((shF l on k s).2 ≤ 0 ∨ nx l on (shF l on k s).1 l.length < 0)
  | 0, s, h, hk => ⟨h, .inl (by rw [shF]; omega)⟩
  | k + 1, s, h, hk => by
    rw [shF]
    split
    · rename_i e; exact ⟨h, e⟩
    · rename_i e
      exact shF_ind hs k _ (hs s h (by omega) (by omega)) (by dsimp only; omega)
theorem lay_ind {l : List Pt} {on : List Bool} {left : Int} {I : List Int × Int → Prop} (h0 : I (s0 l on l.length, left)) (hs : ∀ s, I s → ¬ s.2 ≤ 0 → ¬ nx l on s.1 l.length < 0 → I (s.1.set (nx l on s.1 l.length).toNat (gz s.1 (nx l on s.1 l.length).toNat + 1), s.2 - 1)) :
    I (lay l on left) ∧ ((lay l on left).2 ≤ 0 ∨ nx l on (lay l on left).1 l.length < 0) := shF_ind hs _ _ h0 (by dsimp only; omega)
/-- what those that stay have together -/
def TN (on : List Bool) (sz : List Int) : Nat → Int
  | 0 => 0
  | k + 1 => if st on k = true then TN on sz k + gz sz k else TN on sz k
theorem TN_0 {l : List Pt} {on : List Bool} {m : Nat} : ∀ k, k ≤ m → TN on (s0 l on m) k = SN l on k
  | 0, _ => rfl
  | k + 1, h => by
    rw [TN, SN, TN_0 k (by omega)]
    split
    · rename_i e; rw [s0_get _ _ _ _ (by omega), if_pos e]
    · rfl
theorem TN_set {on : List Bool} {sz : List Int} {i : Nat} {v : Int} (h : i < sz.length) (hi : st on i = true) : ∀ k, TN on (sz.set i v) k = TN on sz k + if i < k then v - gz sz i else 0
  | 0 => by simp [TN]
  | k + 1 => by
    have ih := TN_set (v := v) h hi k
    rw [TN, TN, gz_set h]
    by_cases e : i = k
    · subst e
      rw [if_pos hi, if_pos hi, if_pos rfl, ih, if_neg (by omega), if_pos (by omega)]
      omega
    · rw [if_neg e]
      split <;> rw [ih] <;> split <;> split <;> omega
theorem SN_zero {l : List Pt} {on : List Bool} : ∀ k, CN on k = 0 → SN l on k = 0
  | 0, _ => rfl
  | k + 1, h => by
    have := CN_in on k
    rw [CN] at h
    rw [SN]
    split at h
    · omega
    · rename_i e; rw [if_neg e]; exact SN_zero k h
theorem sty_stop {gap : Int} {l : List Pt} {room : Int} : CN (sty gap l room) l.length = 0 ∨ nd gap l (sty gap l room) ≤ room := by
  have : ∀ (k : Nat) on, on.length = l.length → CN on l.length < (k : Int) → CN (stF gap l room k on) l.length = 0 ∨ nd gap l (stF gap l room k on) ≤ room := by
    intro k
    induction k with
    | zero => intro on _ h; have := CN_in on l.length; omega
    | succ k ih =>
      intro on hl h
      rw [stF]
      split
      · rename_i e; exact e
      · rename_i e
        have f := fs_in l on l.length
        have g : ¬ fs l on l.length < 0 := fun e' => e (.inl ((fs_neg l on l.length).1 e'))
        have cs := CN_set (on := on) (i := (fs l on l.length).toNat) (by omega) (fs_on l on l.length (by omega)) l.length
        rw [if_pos (by omega)] at cs
        exact ih _ (by simpa using hl) (by omega)
  exact this _ _ (by simp) (by rw [CN_al _ (Nat.le_refl _)]; omega)
theorem sty_nd {gap : Int} {l : List Pt} {room : Int} (h : 0 ≤ room) : nd gap l (sty gap l room) ≤ room := by
  rcases sty_stop (gap := gap) (l := l) (room := room) with e | e
  · unfold nd
    rw [e, SN_zero _ e, show max (0 : Int) (0 - 1) = 0 from rfl]
    omega
  · exact e
/-- the sizes that are shared out -/
theorem lay_all {gap : Int} {l : List Pt} {on : List Bool} {left : Int} (d : Dat gap l) (h : 0 ≤ left) :
    szOk l on (lay l on left).1 ∧ TN on (lay l on left).1 l.length + (lay l on left).2 = SN l on l.length + left ∧ 0 ≤ (lay l on left).2 ∧ ((lay l on left).2 = 0 ∨ ∀ i, i < l.length → ¬ cand l on (lay l on left).1 i) := by
  have := lay_ind (l := l) (on := on) (left := left) (I := fun s => szOk l on s.1 ∧ TN on s.1 l.length + s.2 = SN l on l.length + left ∧ 0 ≤ s.2) ⟨szOk_0 d.o, by dsimp only; rw [TN_0 _ (Nat.le_refl _)], h⟩ (by
    rintro ⟨sz, lf⟩ ⟨h1, h2, h3⟩ h4 h5
    dsimp only at h1 h2 h3 h4 h5 ⊢
    have f := nx_in l on sz l.length
    have c := nx_cand l on sz l.length (by omega)
    have hn := h1.n
    refine ⟨szOk_go h1 h5, ?_, by omega⟩
    rw [TN_set (by omega) c.1, if_pos (by omega)]
    omega)
  obtain ⟨⟨h1, h2, h3⟩, h4⟩ := this
  refine ⟨h1, h2, h3, ?_⟩
  rcases h4 with h4 | h4
  · exact .inl (by omega)
  · exact .inr (nx_neg l on _ l.length h4)
theorem TN_in {gap : Int} {l : List Pt} {on : List Bool} {sz : List Int} (d : Dat gap l) (hz : szOk l on sz) : ∀ k, k ≤ l.length → 0 ≤ TN on sz k ∧ TN on sz k ≤ 500 * k
  | 0, _ => by simp [TN]
  | k + 1, h => by
    have := TN_in d hz k (by omega)
    have := hz.in d (i := k) (by omega)
    rw [TN]
    split <;> omega
theorem holds_gives {room gap : Int} {L : List Pt} (h0 : inR .i64 room) (h1 : inR .i64 gap) (h2 : ∀ a ∈ L, inR .i64 a.1 ∧ inR .i64 a.2.1 ∧ inR .i64 a.2.2.1 ∧ inR .i64 a.2.2.2) : Gives (g7 room gap L) fun r => r = true := by
  unfold g7
  have fin : Gives (g36.bind fun v => some v) fun r => r = true := g_call g36_true (g_some rfl)
  refine g_jn (fun v => v.length ≤ 65) (fun k hk => few_gives hk) fun l hl => ?_
  refine g_bind g34_gives fun a ha => ?_
  subst ha
  refine g_if (fun h => g_bind g35_gives fun b hb => g_t (by rw [hb]; exact h) fin) fun h => ?_
  have h : chk room gap l = 0 := by omega
  obtain ⟨c1, c2, c3⟩ := chk_ok h
  have d : Dat gap l := ⟨by omega, c2, c3⟩
  refine g_bind g37_gives fun v hv => g_bind g38_gives fun w hw => ?_
  rw [if_pos h] at hv hw
  subst hv hw
  have nr := sty_nd (gap := gap) (l := l) (room := room) (by omega)
  have ho : (sty gap l room).length = l.length := sty_len
  generalize sty gap l room = on at nr ho ⊢
  have hlen := lay_len (l := l) (on := on) (left := room - nd gap l on)
  obtain ⟨z1, z2, z3, z4⟩ := lay_all (on := on) (left := room - nd gap l on) d (by omega)
  dsimp only
  generalize lay l on (room - nd gap l on) = T at z1 z2 z3 z4 hlen ⊢
  obtain ⟨sz, lf⟩ := T
  dsimp only at z1 z2 z3 z4 hlen ⊢
  refine g_f (by simp) (g_f (by simp) (g_f (by omega) (g_f (by omega) ?_)))
  refine g_jn (fun v : Int × Int × Bool => v.1 = TN on sz l.length ∧ v.2.1 = CN on l.length ∧ (v.2.2 = true → lf = 0)) (fun k hk => ?_) fun v hv => ?_
  · refine g_bind (Ω := fun o => ∃ v : Int × Int × Bool, o = .inr v ∧ v.1 = TN on sz l.length ∧ v.2.1 = CN on l.length ∧ (v.2.2 = true → lf = 0))
      (g_loop (fun s : Int × Int × Bool × Int => ∃ m : Nat, s.2.2.2 = m ∧ m ≤ l.length ∧ s.1 = TN on sz m ∧ s.2.1 = CN on m ∧ (s.2.2.1 = true → lf = 0)) (fun s => ((l.length : Int) - s.2.2.2).toNat) ?_ ⟨0, rfl, Nat.zero_le _, rfl, rfl, fun e => by cases e⟩) ?_
    · rintro ⟨_, _, hg, _⟩ ⟨m, rfl, hm, rfl, rfl, hh⟩
      dsimp only at hh ⊢
      simp only [Int.toNat_natCast]
      have t1 := TN_in d z1 m hm
      have n1 := CN_in on m
      refine g_if (fun h' => g_ck (by omega) (g_ck (by omega) ?_)) fun h' => g_out ⟨_, rfl, by rw [show m = l.length by omega], by rw [show m = l.length by omega], hh⟩
      have zi := z1.i m (by omega)
      have zr := z1.in d (i := m) (by omega)
      refine g_if (fun h3 => g_ck (by omega) (g_f ?_ (g_i64 (by omega) (g_go ⟨m + 1, by simp, by omega, ?_, ?_, hh⟩ (by dsimp only; omega))))) fun h3 => ?_
      · exact not_not_intro (zi.2 (by simpa using h3))
      · rw [TN, if_neg h3]
      · rw [CN, if_neg h3]
      have h3 : st on m = true := by simpa using h3
      have zi := zi.1 h3
      simp only [gz, pt] at zi zr
      refine g_ck (by omega) (g_f (by omega) (g_ck (by omega) (g_f (by omega) (g_i64 (by omega) (g_ck (by omega) (g_i64 (by omega) ?_))))))
      have e1 : TN on sz (m + 1) = TN on sz m + sz.getD m 0 := by rw [TN, if_pos h3]
      have e2 : CN on (m + 1) = CN on m + 1 := by rw [CN, if_pos h3]
      refine g_if (fun h4 => g_i64 (by omega) (g_go ⟨m + 1, by simp, by omega, e1.symm, e2.symm, fun _ => hh h4⟩ (by dsimp only; omega))) fun h4 => g_if (fun h5 => g_ck (by omega) (g_i64 (by omega) (g_go ⟨m + 1, by simp, by omega, e1.symm, e2.symm, fun h6 => ?_⟩ (by dsimp only; omega)))) fun h5 => g_i64 (by omega) (g_go ⟨m + 1, by simp, by omega, e1.symm, e2.symm, fun h6 => by cases h6⟩ (by dsimp only; omega))
      simp only [decide_eq_true_eq] at h6
      rcases z4 with z4 | z4
      · exact z4
      · exact absurd ⟨h3, by simp only [pt]; omega, by simp only [gz, pt]; omega⟩ (z4 m (by omega))
    · rintro _ ⟨v, rfl, hv⟩
      exact g_sm (fun _ e => by cases e) fun w e => by cases e; exact hk _ hv
  · obtain ⟨x, y, hg⟩ := v
    obtain ⟨rfl, rfl, hh⟩ := hv
    dsimp only at hh ⊢
    have t1 := TN_in d z1 l.length (Nat.le_refl _)
    have n1 := CN_in on l.length
    refine g_jn (fun v => v = room - lf) (fun k hk => ?_) fun v hv => ?_
    · have e : nd gap l on = SN l on l.length + gap * max 0 (CN on l.length - 1) := rfl
      refine g_if (fun h' => ?_) fun h' => hk _ ?_
      · have m1 := d.mul (x := CN on l.length - 1) (by omega)
        rw [show max 0 (CN on l.length - 1) = CN on l.length - 1 by omega] at e
        exact g_i64 (by omega) (g_i64 (by omega) (g_i64 (by omega) (hk _ (by omega))))
      · rw [show max 0 (CN on l.length - 1) = 0 by omega] at e
        omega
    · subst hv
      refine g_t (by omega) (g_if (fun _ => fin) fun h' => g_t ?_ fin)
      have := hh (by simpa using h')
      omega
end Go.Proofs.Ytcnofjjiepcpjaa
