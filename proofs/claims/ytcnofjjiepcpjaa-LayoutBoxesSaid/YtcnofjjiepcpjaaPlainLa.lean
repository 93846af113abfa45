import Derived.Test.YtcnofjjiepcpjaaLiftL3
import Derived.Test.YtcnofjjiepcpjaaEngLd
set_option linter.unusedVariables false
namespace Go.Proofs.Ytcnofjjiepcpjaa
open Go Go.Eng

abbrev Pt := Int × Int × Int × Int
abbrev pt (l : List Pt) (i : Nat) : Pt := l.getD i default
def okP (p : Pt) : Prop := 0 ≤ p.1 ∧ p.1 ≤ p.2.1 ∧ p.2.1 ≤ 500 ∧ 0 ≤ p.2.2.1 ∧ p.2.2.1 ≤ 100 ∧ 0 ≤ p.2.2.2 ∧ p.2.2.2 ≤ 9
def okAll (l : List Pt) : Prop := ∀ i, i < l.length → okP (pt l i)
open Classical in
noncomputable def chk (room gap : Int) (l : List Pt) : Int :=
  if 0 ≤ room ∧ room ≤ 500 ∧ 0 ≤ gap ∧ gap ≤ 9 then (if 1 ≤ l.length ∧ l.length ≤ 64 then (if okAll l then 0 else 1) else 3) else 160
theorem chk_ok {room gap : Int} {l : List Pt} (h : chk room gap l = 0) : (0 ≤ room ∧ room ≤ 500 ∧ 0 ≤ gap ∧ gap ≤ 9) ∧ (1 ≤ l.length ∧ l.length ≤ 64) ∧ okAll l := by
  unfold chk at h
  split at h
  · rename_i h1
    split at h
    · rename_i h2
      split at h
      · rename_i h3; exact ⟨h1, h2, h3⟩
      · cases h
    · cases h
  · cases h
theorem chk_of {room gap : Int} {l : List Pt} (h1 : 0 ≤ room ∧ room ≤ 500 ∧ 0 ≤ gap ∧ gap ≤ 9) (h2 : 1 ≤ l.length ∧ l.length ≤ 64) (h3 : okAll l) : chk room gap l = 0 := by
  unfold chk; rw [if_pos h1, if_pos h2, if_pos h3]

theorem g75_gives {a b c : Int} : Gives (g75 a b c) fun r => r = decide (b ≤ a ∧ a ≤ c) := by
  unfold g75
  exact g_if (fun h => g_some (by simp [h])) fun h => g_some (by simp [h])
theorem g77_gives {p : Pt} : Gives (g77 p) fun r => (r = true ↔ okP p) := by
  unfold g77 okP
  refine g_if (fun h1 => g_if (fun h2 => g_if (fun h3 => g_if (fun h4 => g_if (fun h5 => g_if (fun h6 => g_some ?_) fun h => g_some ?_) fun h => g_some ?_) fun h => g_some ?_) fun h => g_some ?_) fun h => g_some ?_) fun h => g_some ?_
  all_goals simp
  all_goals omega
theorem g76_gives {l : List Pt} : Gives (g76 l) fun r => r = (if 1 ≤ l.length ∧ l.length ≤ 64 then chk 0 0 l else 3) := by
  unfold g76
  refine g_bind g75_gives fun b hb => g_if (fun h => g_some ?_) fun h => ?_
  · rw [if_neg]
    subst hb
    simp at h
    omega
  have hn : 1 ≤ l.length ∧ l.length ≤ 64 := by subst hb; simp at h; omega
  rw [if_pos hn]
  refine g_jn (fun _ => okAll l) (fun k hk => ?_) fun _ ho => g_some (chk_of (by omega) hn ho).symm
  refine g_bind (Ω := fun o => (o = .inl () ∧ ¬ okAll l) ∨ (o = .inr () ∧ okAll l)) (g_loop (fun s : Int => ∃ m : Nat, s = m ∧ m ≤ l.length ∧ ∀ i, i < m → okP (pt l i)) (fun s : Int => ((l.length : Int) - s).toNat) ?_ ⟨0, rfl, Nat.zero_le _, fun i hi => by omega⟩) ?_
  · rintro _ ⟨m, rfl, hm, ho⟩
    simp only [Int.toNat_natCast]
    refine g_if (fun h => g_ck (by omega) ?_) fun h => g_out (.inr ⟨rfl, fun i hi => ho i (by omega)⟩)
    have bad : ¬ okP (pt l m) → ¬ okAll l := fun hb ha => hb (ha m (by omega))
    unfold okP at bad
    refine g_if (fun h1 => g_out (.inl ⟨rfl, bad (by simp only [pt]; omega)⟩)) fun h1 => g_if (fun h2 => g_out (.inl ⟨rfl, bad (by simp only [pt]; omega)⟩)) fun h2 => g_if (fun h3 => g_out (.inl ⟨rfl, bad (by simp only [pt]; omega)⟩)) fun h3 => g_bind g75_gives fun u hu => g_if (fun h4 => g_out (.inl ⟨rfl, bad ?_⟩)) fun h4 => g_bind g75_gives fun v hv => g_if (fun h5 => g_out (.inl ⟨rfl, bad ?_⟩)) fun h5 => g_i64 (by omega) (g_go ⟨m + 1, by simp, by omega, fun i hi => ?_⟩ (by omega))
    · subst hu; simp only [decide_eq_true_eq] at h4; simp only [pt]; omega
    · subst hv; simp only [decide_eq_true_eq] at h5; simp only [pt]; omega
    · by_cases e : i < m
      · exact ho i e
      · have : i = m := by omega
        subst this
        subst hu hv
        simp only [decide_eq_true_eq, Decidable.not_not] at h4 h5
        unfold okP
        simp only [pt]
        omega
  · rintro o (⟨rfl, hn'⟩ | ⟨rfl, ho⟩)
    · refine g_sm (fun _ _ => g_some ?_) fun _ e => by cases e
      unfold chk
      rw [if_pos (by omega), if_pos hn, if_neg hn']
    · exact g_sm (fun _ e => by cases e) fun _ _ => hk _ ho
theorem g34_gives {room gap : Int} {l : List Pt} : Gives (g34 room gap l) fun r => r = chk room gap l := by
  unfold g34
  refine g_bind g75_gives fun u hu => g_if (fun h => g_some ?_) fun h => g_bind g75_gives fun v hv => g_if (fun h' => g_some ?_) fun h' => g_bind g76_gives fun r hr => g_some ?_
  · subst hu; simp at h; unfold chk; rw [if_neg (by omega)]
  · subst hv; simp at h'; unfold chk; rw [if_neg (by omega)]
  · subst hu hv hr
    simp at h h'
    unfold chk
    rw [if_pos (show 0 ≤ room ∧ room ≤ 500 ∧ 0 ≤ gap ∧ gap ≤ 9 by omega)]
    split
    · rw [if_pos (by omega)]
    · rfl
theorem g35_gives {room gap : Int} {l : List Pt} : Gives (g35 room gap l) fun r => r = chk room gap l := by
  unfold g35
  have n1 : (room < 0 ∨ 500 < room ∨ gap < 0 ∨ 9 < gap) → 160 = chk room gap l := fun h => by unfold chk; rw [if_neg (by omega)]
  refine g_if (fun h => g_some (n1 (by omega))) fun h1 => g_if (fun h => g_some (n1 (by omega))) fun h2 => g_if (fun h => g_some (n1 (by omega))) fun h3 => g_if (fun h => g_some (n1 (by omega))) fun h4 => ?_
  have hr : 0 ≤ room ∧ room ≤ 500 ∧ 0 ≤ gap ∧ gap ≤ 9 := by omega
  have n2 : (l.length < 1 ∨ 64 < l.length) → 3 = chk room gap l := fun h => by unfold chk; rw [if_pos hr, if_neg (by omega)]
  refine g_if (fun h => g_some (n2 (by omega))) fun h5 => g_if (fun h => g_some (n2 (by omega))) fun h6 => ?_
  have hn : 1 ≤ l.length ∧ l.length ≤ 64 := by omega
  refine g_jn (fun _ => okAll l) (fun k hk => ?_) fun _ ho => g_some (chk_of hr hn ho).symm
  refine g_bind (Ω := fun o => (o = .inl () ∧ ¬ okAll l) ∨ (o = .inr () ∧ okAll l)) (g_loop (fun s : Int => ∃ m : Nat, s = m ∧ m ≤ l.length ∧ ∀ i, i < m → okP (pt l i)) (fun s : Int => ((l.length : Int) - s).toNat) ?_ ⟨0, rfl, Nat.zero_le _, fun i hi => by omega⟩) ?_
  · rintro _ ⟨m, rfl, hm, ho⟩
    simp only [Int.toNat_natCast]
    refine g_if (fun h => g_ck (by omega) (g_bind g77_gives fun b hb => g_if (fun h' => g_out (.inl ⟨rfl, fun ha => ?_⟩)) fun h' => g_i64 (by omega) (g_go ⟨m + 1, by simp, by omega, fun i hi => ?_⟩ (by omega)))) fun h => g_out (.inr ⟨rfl, fun i hi => ho i (by omega)⟩)
    · exact h' (hb.2 (ha m (by omega)))
    · by_cases e : i < m
      · exact ho i e
      · have : i = m := by omega
        subst this
        have : b = true := by cases b <;> simp_all
        exact hb.1 this
  · rintro o (⟨rfl, hn'⟩ | ⟨rfl, ho⟩)
    · refine g_sm (fun _ _ => g_some ?_) fun _ e => by cases e
      unfold chk
      rw [if_pos hr, if_pos hn, if_neg hn']
    · exact g_sm (fun _ e => by cases e) fun _ _ => hk _ ho

/-! ### what those that stay need -/
abbrev st (on : List Bool) (i : Nat) : Bool := on.getD i false
def SN (l : List Pt) (on : List Bool) : Nat → Int
  | 0 => 0
  | k + 1 => if st on k = true then SN l on k + (pt l k).1 else SN l on k
def CN (on : List Bool) : Nat → Int
  | 0 => 0
  | k + 1 => if st on k = true then CN on k + 1 else CN on k
theorem CN_in (on : List Bool) : ∀ k, 0 ≤ CN on k ∧ CN on k ≤ k
  | 0 => by simp [CN]
  | k + 1 => by have := CN_in on k; unfold CN; split <;> omega
theorem SN_in {l : List Pt} {on : List Bool} (ho : okAll l) : ∀ k, k ≤ l.length → 0 ≤ SN l on k ∧ SN l on k ≤ 500 * k
  | 0, _ => by simp [SN]
  | k + 1, h => by
    have := SN_in (on := on) ho k (by omega)
    have h2 := ho k (by omega)
    unfold okP at h2
    unfold SN
    split <;> omega
def nd (gap : Int) (l : List Pt) (on : List Bool) : Int := SN l on l.length + gap * max 0 (CN on l.length - 1)
structure Dat (gap : Int) (l : List Pt) : Prop where
  g : 0 ≤ gap ∧ gap ≤ 9
  n : 1 ≤ l.length ∧ l.length ≤ 64
  o : okAll l
theorem Dat.mul {gap : Int} {l : List Pt} (d : Dat gap l) {x : Int} (h : 0 ≤ x ∧ x ≤ 64) : 0 ≤ gap * x ∧ gap * x ≤ 576 := by
  have h1 := d.g
  have a := Int.mul_nonneg h1.1 h.1
  have b : gap * x ≤ 9 * x := Int.mul_le_mul_of_nonneg_right h1.2 h.1
  omega
theorem nd_in {gap : Int} {l : List Pt} {on : List Bool} (d : Dat gap l) : 0 ≤ nd gap l on ∧ nd gap l on ≤ 33000 := by
  have h1 := CN_in on l.length
  have h2 := SN_in (on := on) d.o l.length (Nat.le_refl _)
  have h3 := d.n
  have h4 := d.mul (x := max 0 (CN on l.length - 1)) (by omega)
  unfold nd
  omega
theorem g92_gives {gap : Int} {l : List Pt} {on : List Bool} (d : Dat gap l) (hl : on.length = l.length) : Gives (g92 gap on l) fun r => r = (nd gap l on, CN on l.length) := by
  unfold g92
  simp only [gmax_eq]
  have hn := d.n
  refine g_jn (fun v => v = (SN l on l.length, CN on l.length)) (fun k hk => ?_) fun v hv => ?_
  · refine g_bind (g_loop (fun s => ∃ m : Nat, s = (SN l on m, CN on m, (m : Int)) ∧ m ≤ l.length) (fun s : Int × Int × Int => ((l.length : Int) - s.2.2).toNat) ?_ ⟨0, rfl, Nat.zero_le _⟩) hk
    rintro _ ⟨m, rfl, hm⟩
    have c1 := CN_in on m
    have s1 := SN_in (on := on) d.o m hm
    simp only [Int.toNat_natCast]
    refine g_if (fun h => ?_) fun h => g_out (by rw [show m = l.length by omega])
    have h2 := d.o m (by omega)
    unfold okP at h2
    simp only [pt] at h2
    refine g_ck (by omega) (g_ck (by omega) (g_if (fun h' => g_i64 (by omega) (g_i64 (by omega) (g_i64 (by omega) (g_go ⟨m + 1, ?_, by omega⟩ (by simp; omega))))) fun h' => g_i64 (by omega) (g_go ⟨m + 1, ?_, by omega⟩ (by simp; omega))))
    · simp only [SN, CN, st, h', if_true, pt]; simp
    · simp only [SN, CN, st, h']; simp
  · subst hv
    have c1 := CN_in on l.length
    have s1 := SN_in (on := on) d.o l.length (Nat.le_refl _)
    have m1 := d.mul (x := max 0 (CN on l.length - 1)) (by omega)
    exact g_i64 (by dsimp only; omega) (g_i64 (by dsimp only; omega) (g_i64 (by dsimp only; omega) (g_some rfl)))
theorem g82_gives {gap : Int} {l : List Pt} {on : List Bool} (d : Dat gap l) (hl : on.length = l.length) : Gives (g82 gap l on) fun r => r = nd gap l on := by
  unfold g82
  have hn := d.n
  refine g_jn (fun v => v = (SN l on l.length, CN on l.length)) (fun k hk => ?_) fun v hv => ?_
  · refine g_bind (g_loop (fun s => ∃ m : Nat, s = (SN l on m, CN on m, (m : Int)) ∧ m ≤ l.length) (fun s : Int × Int × Int => ((l.length : Int) - s.2.2).toNat) ?_ ⟨0, rfl, Nat.zero_le _⟩) fun o ho => hk _ ho
    rintro _ ⟨m, rfl, hm⟩
    have c1 := CN_in on m
    have s1 := SN_in (on := on) d.o m hm
    simp only [Int.toNat_natCast]
    refine g_if (fun h => ?_) fun h => g_out (by rw [show m = l.length by omega])
    have h2 := d.o m (by omega)
    unfold okP at h2
    simp only [pt] at h2
    refine g_ck (by omega) (g_if (fun h' => g_ck (by omega) (g_i64 (by omega) (g_i64 (by omega) (g_i64 (by omega) (g_go ⟨m + 1, ?_, by omega⟩ (by simp; omega)))))) fun h' => g_i64 (by omega) (g_go ⟨m + 1, ?_, by omega⟩ (by simp; omega)))
    · simp only [SN, CN, st, h', if_true, pt]; simp
    · simp only [SN, CN, st, h']; simp
  · subst hv
    have c1 := CN_in on l.length
    have s1 := SN_in (on := on) d.o l.length (Nat.le_refl _)
    dsimp only
    refine g_if (fun h => ?_) fun h => g_some ?_
    · have m1 := d.mul (x := CN on l.length - 1) (by omega)
      refine g_i64 (by omega) (g_i64 (by omega) (g_i64 (by omega) (g_some ?_)))
      unfold nd
      rw [show max 0 (CN on l.length - 1) = CN on l.length - 1 by omega]
    · unfold nd
      rw [show max 0 (CN on l.length - 1) = 0 by omega]
      omega
end Go.Proofs.Ytcnofjjiepcpjaa
