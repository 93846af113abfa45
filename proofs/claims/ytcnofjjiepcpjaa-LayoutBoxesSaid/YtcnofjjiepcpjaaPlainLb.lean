import Derived.Test.YtcnofjjiepcpjaaPlainLa
set_option linter.unusedVariables false
namespace Go.Proofs.Ytcnofjjiepcpjaa
open Go Go.Eng

abbrev al (n : Nat) : List Bool := List.replicate n true
theorem st_al {n i : Nat} (h : i < n) : st (al n) i = true := by simp [st, al, List.getD_eq_getElem?_getD, h]
theorem CN_al {n : Nat} : ∀ k, k ≤ n → CN (al n) k = k
  | 0, _ => rfl
  | k + 1, h => by
    rw [CN, if_pos (st_al (by omega)), CN_al k (by omega)]
    omega
theorem al_of {l : List Bool} {n : Nat} (hl : l.length = n) (h : ∀ i, i < n → st l i = true) : l = al n := by
  rw [al, List.eq_replicate_iff]
  refine ⟨hl, fun b hb => ?_⟩
  obtain ⟨i, hi, rfl⟩ := List.getElem_of_mem hb
  have := h i (by omega)
  rwa [st, List.getD_eq_getElem?_getD, List.getElem?_eq_getElem hi] at this
theorem g83_gives {l : List Pt} (h : l.length ≤ 64) : Gives (g83 l) fun r => r = al l.length := by
  unfold g83
  refine g_jn (fun v => v = al l.length) (fun k hk => ?_) fun v hv => g_some hv
  refine g_bind (g_loop (fun s : List Bool × Int => ∃ m : Nat, s = (al m, (m : Int)) ∧ m ≤ l.length) (fun s => ((l.length : Int) - s.2).toNat) ?_ ⟨0, rfl, Nat.zero_le _⟩) hk
  rintro _ ⟨m, rfl, hm⟩
  refine g_if (fun h' => g_ck (by simp; omega) (g_i64 (by omega) (g_go ⟨m + 1, ?_, by omega⟩ (by simp; omega)))) fun h' => g_out (by rw [show m = l.length by omega])
  simp [al, List.replicate_succ']
theorem g51_gives {gap : Int} {l : List Pt} : Gives (g51 gap l) fun r => r = if chk 0 gap l = 0 then (nd gap l (al l.length), 0) else (0, chk 0 gap l) := by
  unfold g51
  refine g_bind g34_gives fun v hv => ?_
  subst hv
  refine g_if (fun h => g_some (by rw [if_neg h])) fun h => ?_
  have h : chk 0 gap l = 0 := by omega
  obtain ⟨c1, c2, c3⟩ := chk_ok h
  have d : Dat gap l := ⟨by omega, c2, c3⟩
  exact g_bind (g83_gives c2.2) fun on hon => by subst hon; exact g_bind (g82_gives d (by simp)) fun r hr => g_some (by rw [if_pos h, hr])
theorem g50_gives {gap : Int} {l : List Pt} : Gives (g50 gap l) fun r => r = if chk 0 gap l = 0 then (nd gap l (al l.length), 0) else (0, chk 0 gap l) := by
  unfold g50
  refine g_bind g35_gives fun v hv => ?_
  subst hv
  refine g_if (fun h => g_some (by rw [if_neg h])) fun h => ?_
  have h : chk 0 gap l = 0 := by omega
  obtain ⟨c1, c2, c3⟩ := chk_ok h
  have d : Dat gap l := ⟨by omega, c2, c3⟩
  have m1 := d.mul (x := (l.length : Int) - 1) (by omega)
  refine g_i64 (by omega) (g_i64 (by omega) (g_jn (fun v => v = nd gap l (al l.length)) (fun k hk => ?_) fun v hv => g_some (by rw [if_pos h, hv])))
  refine g_bind (g_loop (fun s : Int × Int => ∃ m : Nat, s = (gap * ((l.length : Int) - 1) + SN l (al l.length) m, (m : Int)) ∧ m ≤ l.length) (fun s => ((l.length : Int) - s.2).toNat) ?_ ⟨0, by simp [SN], Nat.zero_le _⟩) hk
  rintro _ ⟨m, rfl, hm⟩
  have s1 := SN_in (on := al l.length) d.o m hm
  simp only [Int.toNat_natCast]
  refine g_if (fun h' => ?_) fun h' => g_out ?_
  · have h2 := d.o m (by omega)
    unfold okP at h2
    simp only [pt] at h2
    refine g_ck (by omega) (g_i64 (by omega) (g_i64 (by omega) (g_go ⟨m + 1, ?_, by omega⟩ (by simp; omega))))
    simp only [SN, st_al (show m < l.length by omega), if_true, pt]
    simp [Int.add_assoc]
  · have : m = l.length := by omega
    subst this
    unfold nd
    rw [CN_al _ (Nat.le_refl _), show max 0 ((l.length : Int) - 1) = (l.length : Int) - 1 by omega]
    omega

/-! ### which is dropped -/
def fs (l : List Pt) (on : List Bool) : Nat → Int
  | 0 => -1
  | k + 1 => if st on k = true ∧ (fs l on k < 0 ∨ (pt l k).2.2.2 ≤ (pt l (fs l on k).toNat).2.2.2) then (k : Int) else fs l on k
theorem fs_in (l : List Pt) (on : List Bool) : ∀ k, -1 ≤ fs l on k ∧ fs l on k < k
  | 0 => by simp [fs]
  | k + 1 => by have := fs_in l on k; unfold fs; split <;> omega
theorem fs_on (l : List Pt) (on : List Bool) : ∀ k, 0 ≤ fs l on k → st on (fs l on k).toNat = true
  | 0, h => by simp [fs] at h
  | k + 1, h => by
    unfold fs at h ⊢
    split
    · rename_i h'; simpa using h'.1
    · rename_i h'; rw [if_neg h'] at h; exact fs_on l on k h
theorem fs_neg (l : List Pt) (on : List Bool) : ∀ k, fs l on k < 0 ↔ CN on k = 0
  | 0 => by simp [fs, CN]
  | k + 1 => by
    have ih := fs_neg l on k
    have c := CN_in on k
    unfold fs CN
    by_cases h : st on k = true
    · rw [if_pos h]
      split
      · omega
      · rename_i h'
        have : ¬ fs l on k < 0 := fun e => h' ⟨h, .inl e⟩
        omega
    · rw [if_neg h, if_neg (fun e => h e.1)]
      exact ih
theorem g84_gives {l : List Pt} {on : List Bool} (hl : on.length = l.length) (hn : l.length ≤ 64) : Gives (g84 l on) fun r => r = fs l on l.length := by
  unfold g84
  refine g_jn (fun v => v = fs l on l.length) (fun k hk => ?_) fun v hv => g_some hv
  refine g_bind (g_loop (fun s : Int × Int => ∃ m : Nat, s = (fs l on m, (m : Int)) ∧ m ≤ l.length) (fun s => ((l.length : Int) - s.2).toNat) ?_ ⟨0, rfl, Nat.zero_le _⟩) hk
  rintro _ ⟨m, rfl, hm⟩
  have f := fs_in l on m
  simp only [Int.toNat_natCast]
  refine g_if (fun h => g_ck (by omega) ?_) fun h => g_out (by rw [show m = l.length by omega])
  have step : ∀ v : Int, v = fs l on (m + 1) → Gives (some (St1.go (ρ := Int) (v, (m : Int) + 1))) (rnd (fun s : Int × Int => ∃ m : Nat, s = (fs l on m, (m : Int)) ∧ m ≤ l.length) (fun s => ((l.length : Int) - s.2).toNat) ((l.length : Int) - (fs l on m, (m : Int)).2).toNat fun v => v = fs l on l.length) := fun v hv =>
    g_go ⟨m + 1, by rw [hv]; simp, by omega⟩ (by simp; omega)
  refine g_if (fun h1 => g_if (fun h2 => g_i64 (by omega) (step _ ?_)) fun h2 => g_ck (by omega) (g_ck (by omega) (g_if (fun h3 => g_i64 (by omega) (step _ ?_)) fun h3 => g_i64 (by omega) (step _ ?_)))) fun h1 => g_i64 (by omega) (step _ ?_)
  · rw [fs, if_pos ⟨h1, .inl h2⟩]
  · rw [fs, if_pos ⟨h1, .inr h3⟩]
  · rw [fs, if_neg (fun e => e.2.elim h2 h3)]
  · rw [fs, if_neg (fun e => h1 e.1)]

theorem st_set {on : List Bool} {i j : Nat} (h : i < on.length) : st (on.set i false) j = if i = j then false else st on j := by
  simp only [st, List.getD_eq_getElem?_getD, List.getElem?_set]
  split
  · rename_i e; subst e; simp [h]
  · rfl
theorem CN_set {on : List Bool} {i : Nat} (h : i < on.length) (hi : st on i = true) : ∀ k, CN (on.set i false) k = if i < k then CN on k - 1 else CN on k
  | 0 => by simp [CN]
  | k + 1 => by
    have ih := CN_set h hi k
    unfold CN
    rw [st_set h]
    by_cases e : i = k
    · subst e
      rw [if_pos rfl, if_pos hi, ih]
      simp
    · rw [if_neg e, ih]
      split <;> split <;> split <;> first | omega | rfl
/-- those that stay, so many rounds -/
def stF (gap : Int) (l : List Pt) (room : Int) : Nat → List Bool → List Bool
  | 0, on => on
  | k + 1, on => if CN on l.length = 0 ∨ nd gap l on ≤ room then on else stF gap l room k (on.set (fs l on l.length).toNat false)
def sty (gap : Int) (l : List Pt) (room : Int) : List Bool := stF gap l room (l.length + 1) (al l.length)
/-- what holds on the way -/
def stQ (gap : Int) (l : List Pt) (room : Int) (on : List Bool) : Prop := on.length = l.length ∧ ∃ k : Nat, CN on l.length < k ∧ stF gap l room k on = sty gap l room
theorem stQ_0 {gap : Int} {l : List Pt} {room : Int} : stQ gap l room (al l.length) := ⟨by simp, l.length + 1, by rw [CN_al _ (Nat.le_refl _)]; omega, rfl⟩
theorem stQ_stop {gap : Int} {l : List Pt} {room : Int} {on : List Bool} (h : stQ gap l room on) (hs : CN on l.length = 0 ∨ nd gap l on ≤ room) : on = sty gap l room := by
  obtain ⟨_, k, hk, e⟩ := h
  have := CN_in on l.length
  cases k with
  | zero => omega
  | succ k => rwa [stF, if_pos hs] at e
theorem stQ_go {gap : Int} {l : List Pt} {room : Int} {on : List Bool} (h : stQ gap l room on) (h1 : ¬ CN on l.length = 0) (h2 : ¬ nd gap l on ≤ room) :
    stQ gap l room (on.set (fs l on l.length).toNat false) ∧ (CN (on.set (fs l on l.length).toNat false) l.length).toNat < (CN on l.length).toNat ∧ 0 ≤ fs l on l.length := by
  obtain ⟨hl, k, hk, e⟩ := h
  have c := CN_in on l.length
  have f := fs_in l on l.length
  have g : ¬ fs l on l.length < 0 := fun e => h1 ((fs_neg l on l.length).1 e)
  have cs := CN_set (on := on) (i := (fs l on l.length).toNat) (by omega) (fs_on l on l.length (by omega)) l.length
  rw [if_pos (by omega)] at cs
  cases k with
  | zero => omega
  | succ k =>
    rw [stF, if_neg (by omega)] at e
    exact ⟨⟨by simpa using hl, k, by omega, e⟩, by omega, by omega⟩
theorem g52_gives {room gap : Int} {l : List Pt} : Gives (g52 room gap l) fun r => r = if chk room gap l = 0 then (sty gap l room, 0) else ([], chk room gap l) := by
  unfold g52
  refine g_bind g34_gives fun v hv => ?_
  subst hv
  refine g_if (fun h => g_some (by rw [if_neg h])) fun h => ?_
  have h : chk room gap l = 0 := by omega
  obtain ⟨c1, c2, c3⟩ := chk_ok h
  have d : Dat gap l := ⟨by omega, c2, c3⟩
  refine g_bind (g83_gives c2.2) fun on hon => ?_
  subst hon
  refine g_jn (fun v => v = sty gap l room) (fun k hk => ?_) fun v hv => g_some (by rw [if_pos h, hv])
  refine g_bind (g_loop (stQ gap l room) (fun on => (CN on l.length).toNat) ?_ stQ_0) hk
  rintro on hq
  have f := fs_in l on l.length
  refine g_bind (g84_gives hq.1 c2.2) fun v hv => ?_
  subst hv
  refine g_if (fun h1 => g_bind (g82_gives d hq.1) fun w hw => ?_) fun h1 => g_out (stQ_stop hq (.inl ((fs_neg l on l.length).1 (by omega))))
  subst hw
  refine g_if (fun h2 => g_bind (g84_gives hq.1 c2.2) fun v hv => ?_) fun h2 => g_out (stQ_stop hq (.inr (by omega)))
  subst hv
  have h0 : ¬ CN on l.length = 0 := fun e => by have := (fs_neg l on l.length).2 e; omega
  obtain ⟨s1, s2, s3⟩ := stQ_go hq h0 (by omega)
  exact g_ck (by have := hq.1; omega) (g_go s1 s2)
theorem st_set2 {on : List Bool} {i j : Nat} (h : i < on.length) : st (on.set i true) j = if i = j then true else st on j := by
  simp only [st, List.getD_eq_getElem?_getD, List.getElem?_set]
  split
  · rename_i e; subst e; simp [h]
  · rfl
theorem g79_gives {room gap : Int} {l : List Pt} (d : Dat gap l) : Gives (g79 room gap l) fun r => r = sty gap l room := by
  unfold g79
  have hn := d.n
  refine g_ck (by omega) (g_jn (fun v => v = al l.length) (fun k hk => ?_) fun v hv => ?_)
  · refine g_bind (g_loop (fun s : List Bool × Int => ∃ m : Nat, s.2 = m ∧ m ≤ l.length ∧ s.1.length = l.length ∧ ∀ i, i < m → st s.1 i = true) (fun s => ((l.length : Int) - s.2).toNat) ?_ ⟨0, rfl, Nat.zero_le _, by simp, fun i hi => by omega⟩) hk
    rintro ⟨on, _⟩ ⟨m, rfl, hm, hl, ho⟩
    dsimp only at hl ho ⊢
    simp only [Int.toNat_natCast]
    refine g_if (fun h => g_ck (by omega) (g_i64 (by omega) (g_go ⟨m + 1, by simp, by omega, by simpa using hl, fun i hi => ?_⟩ (by simp; omega)))) fun h => g_out (al_of hl fun i hi => ho i (by omega))
    dsimp only
    rw [st_set2 (by omega)]
    split
    · rfl
    · exact ho i (by omega)
  · subst hv
    refine g_bind (g_loop (stQ gap l room) (fun on => (CN on l.length).toNat) ?_ stQ_0) fun v hv => g_some hv
    rintro on hq
    have f := fs_in l on l.length
    have hl := hq.1
    refine g_bind (g92_gives d hq.1) fun v hv => ?_
    subst hv
    dsimp only
    refine g_if (fun h1 => g_out (stQ_stop hq (.inl h1))) fun h1 => g_if (fun h2 => g_out (stQ_stop hq (.inr h2))) fun h2 => ?_
    refine g_jn (fun v => v = fs l on l.length) (fun k hk => ?_) fun v hv => ?_
    · refine g_bind (g_loop (fun s : Int × Int => ∃ m : Nat, s = (fs l on m, (m : Int)) ∧ m ≤ l.length) (fun s => ((l.length : Int) - s.2).toNat) ?_ ⟨0, rfl, Nat.zero_le _⟩) hk
      rintro _ ⟨m, rfl, hm⟩
      have f := fs_in l on m
      simp only [Int.toNat_natCast]
      refine g_if (fun h => g_ck (by omega) (g_ck (by omega) ?_)) fun h => g_out (by rw [show m = l.length by omega])
      have step : ∀ v : Int, v = fs l on (m + 1) → Gives (some (St1.go (ρ := Int) (v, (m : Int) + 1))) (rnd (fun s : Int × Int => ∃ m : Nat, s = (fs l on m, (m : Int)) ∧ m ≤ l.length) (fun s => ((l.length : Int) - s.2).toNat) ((l.length : Int) - (fs l on m, (m : Int)).2).toNat fun v => v = fs l on l.length) := fun v hv =>
        g_go ⟨m + 1, by rw [hv]; simp, by omega⟩ (by simp; omega)
      refine g_if (fun h1 => g_if (fun h2 => g_i64 (by omega) (step _ ?_)) fun h2 => g_ck (by omega) (g_if (fun h3 => g_i64 (by omega) (step _ ?_)) fun h3 => g_i64 (by omega) (step _ ?_))) fun h1 => g_i64 (by omega) (step _ ?_)
      · rw [fs, if_pos ⟨h1, .inl h2⟩]
      · rw [fs, if_pos ⟨h1, .inr h3⟩]
      · rw [fs, if_neg (fun e => e.2.elim h2 h3)]
      · rw [fs, if_neg (fun e => h1 e.1)]
    · subst hv
      obtain ⟨s1, s2, s3⟩ := stQ_go hq h1 h2
      exact g_ck (by omega) (g_go s1 s2)
theorem sty_len {gap : Int} {l : List Pt} {room : Int} : (sty gap l room).length = l.length := by
  have : ∀ k on, on.length = l.length → (stF gap l room k on).length = l.length := by
    intro k
    induction k with
    | zero => intro on h; exact h
    | succ k ih => intro on h; rw [stF]; split; exact h; exact ih _ (by simpa using h)
  exact this _ _ (by simp)
end Go.Proofs.Ytcnofjjiepcpjaa
