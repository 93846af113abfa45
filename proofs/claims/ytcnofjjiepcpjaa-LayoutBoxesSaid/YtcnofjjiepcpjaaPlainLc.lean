import Derived.Test.YtcnofjjiepcpjaaPlainLb
set_option linter.unusedVariables false
namespace Go.Proofs.Ytcnofjjiepcpjaa
open Go Go.Eng

abbrev gz (sz : List Int) (i : Nat) : Int := sz.getD i 0
def cand (l : List Pt) (on : List Bool) (sz : List Int) (i : Nat) : Prop := st on i = true ∧ (pt l i).2.2.1 ≠ 0 ∧ gz sz i < (pt l i).2.1
/-- what one has beyond its least, and one more -/
def ex (l : List Pt) (sz : List Int) (i : Nat) : Int := gz sz i - (pt l i).1 + 1
open Classical in
noncomputable def nx (l : List Pt) (on : List Bool) (sz : List Int) : Nat → Int
  | 0 => -1
  | k + 1 => if cand l on sz k ∧ (nx l on sz k < 0 ∨ ex l sz k * (pt l (nx l on sz k).toNat).2.2.1 < ex l sz (nx l on sz k).toNat * (pt l k).2.2.1) then (k : Int) else nx l on sz k
theorem nx_in (l : List Pt) (on : List Bool) (sz : List Int) : ∀ k, -1 ≤ nx l on sz k ∧ nx l on sz k < k
  | 0 => by simp [nx]
  | k + 1 => by have := nx_in l on sz k; unfold nx; split <;> omega
theorem nx_cand (l : List Pt) (on : List Bool) (sz : List Int) : ∀ k, 0 ≤ nx l on sz k → cand l on sz (nx l on sz k).toNat
  | 0, h => by simp [nx] at h
  | k + 1, h => by
    unfold nx at h ⊢
    split
    · rename_i h'; simpa using h'.1
    · rename_i h'; rw [if_neg h'] at h; exact nx_cand l on sz k h
theorem nx_neg (l : List Pt) (on : List Bool) (sz : List Int) : ∀ k, nx l on sz k < 0 → ∀ i, i < k → ¬ cand l on sz i
  | 0, _, i, hi => by omega
  | k + 1, h, i, hi => by
    unfold nx at h
    split at h
    · omega
    · rename_i h'
      by_cases e : i < k
      · exact nx_neg l on sz k h i e
      · have : i = k := by omega
        subst this
        exact fun hc => h' ⟨hc, .inl h⟩
/-- all have theirs: what stays from its least to its most, the others nothing -/
structure szOk (l : List Pt) (on : List Bool) (sz : List Int) : Prop where
  n : sz.length = l.length
  i : ∀ i, i < l.length → (st on i = true → (pt l i).1 ≤ gz sz i ∧ gz sz i ≤ (pt l i).2.1) ∧ (st on i = false → gz sz i = 0)
theorem nx_min {gap : Int} {l : List Pt} {on : List Bool} {sz : List Int} (d : Dat gap l) (hz : szOk l on sz) : ∀ k, k ≤ l.length → 0 ≤ nx l on sz k → ∀ i, i < k → cand l on sz i →
    ex l sz (nx l on sz k).toNat * (pt l i).2.2.1 ≤ ex l sz i * (pt l (nx l on sz k).toNat).2.2.1
  | 0, _, _, i, hi, _ => by omega
  | k + 1, hk, h, i, hi, hc => by
    unfold nx at h ⊢
    split
    · rename_i h'
      rw [Int.toNat_natCast]
      by_cases e : i = k
      · subst e; exact Int.le_refl _
      · rcases h'.2 with h1 | h1
        · exact absurd hc (nx_neg l on sz k h1 i (by omega))
        · by_cases h2 : nx l on sz k < 0
          · exact absurd hc (nx_neg l on sz k h2 i (by omega))
          · have f := nx_in l on sz k
            have ih := nx_min d hz k (by omega) (by omega) i (by omega) hc
            have cb := nx_cand l on sz k (by omega)
            generalize (nx l on sz k).toNat = b at ih h1 cb
            have wk := d.o k (by omega)
            have wi := d.o i (by omega)
            have wb : 0 < (pt l b).2.2.1 := by
              have : b < l.length := by
                by_cases q : b < l.length
                · exact q
                · have := cb.2.1
                  simp only [pt, List.getD_eq_getElem?_getD, List.getElem?_eq_none (by omega : l.length ≤ b)] at this
                  exact absurd rfl this
              have := d.o b this
              unfold okP at this
              have := cb.2.1
              omega
            unfold okP at wk wi
            generalize ex l sz k = ek at *
            generalize ex l sz b = eb at *
            generalize ex l sz i = ei at *
            have a1 : ek * (pt l b).2.2.1 * (pt l i).2.2.1 ≤ eb * (pt l k).2.2.1 * (pt l i).2.2.1 := Int.mul_le_mul_of_nonneg_right (by omega) (by omega)
            have a2 : eb * (pt l i).2.2.1 * (pt l k).2.2.1 ≤ ei * (pt l b).2.2.1 * (pt l k).2.2.1 := Int.mul_le_mul_of_nonneg_right ih (by omega)
            have e1 : ek * (pt l b).2.2.1 * (pt l i).2.2.1 = (pt l b).2.2.1 * (ek * (pt l i).2.2.1) := by ac_rfl
            have e2 : eb * (pt l k).2.2.1 * (pt l i).2.2.1 = eb * (pt l i).2.2.1 * (pt l k).2.2.1 := by ac_rfl
            have e3 : ei * (pt l b).2.2.1 * (pt l k).2.2.1 = (pt l b).2.2.1 * (ei * (pt l k).2.2.1) := by ac_rfl
            exact Int.le_of_mul_le_mul_left (by omega : (pt l b).2.2.1 * (ek * (pt l i).2.2.1) ≤ (pt l b).2.2.1 * (ei * (pt l k).2.2.1)) wb
    · rename_i h'
      rw [if_neg h'] at h
      by_cases e : i = k
      · subst e
        have : ¬ (nx l on sz i < 0 ∨ ex l sz i * (pt l (nx l on sz i).toNat).2.2.1 < ex l sz (nx l on sz i).toNat * (pt l i).2.2.1) := fun h2 => h' ⟨hc, h2⟩
        omega
      · exact nx_min d hz k (by omega) h i (by omega) hc
theorem szOk.in {gap : Int} {l : List Pt} {on : List Bool} {sz : List Int} (d : Dat gap l) (hz : szOk l on sz) {i : Nat} (hi : i < l.length) : 0 ≤ gz sz i ∧ gz sz i ≤ 500 ∧ 0 ≤ (pt l i).1 ∧ (pt l i).1 ≤ 500 ∧ 0 ≤ (pt l i).2.2.1 ∧ (pt l i).2.2.1 ≤ 100 := by
  have h1 := d.o i hi
  have h2 := hz.i i hi
  unfold okP at h1
  cases e : st on i with
  | true => have := h2.1 e; omega
  | false => have := h2.2 e; omega
theorem mulb {a b : Int} (ha : -500 ≤ a ∧ a ≤ 501) (hb : 0 ≤ b ∧ b ≤ 100) : -50100 ≤ a * b ∧ a * b ≤ 50100 := by
  have h1 : a * b ≤ 501 * b := Int.mul_le_mul_of_nonneg_right ha.2 hb.1
  have h2 : -500 * b ≤ a * b := Int.mul_le_mul_of_nonneg_right ha.1 hb.1
  omega
theorem g94_gives {gap : Int} {l : List Pt} {on : List Bool} {sz : List Int} (d : Dat gap l) (ho : on.length = l.length) (hz : szOk l on sz) : Gives (g94 l on sz) fun r => r = nx l on sz l.length := by
  unfold g94
  have hn := d.n
  have hzn := hz.n
  refine g_jn (fun v => v = nx l on sz l.length) (fun k hk => ?_) fun v hv => g_some hv
  refine g_bind (g_loop (fun s : Int × Int => ∃ m : Nat, s = (nx l on sz m, (m : Int)) ∧ m ≤ l.length) (fun s => ((l.length : Int) - s.2).toNat) ?_ ⟨0, rfl, Nat.zero_le _⟩) hk
  rintro _ ⟨m, rfl, hm⟩
  have f := nx_in l on sz m
  simp only [Int.toNat_natCast]
  refine g_if (fun h => ?_) fun h => g_out (by rw [show m = l.length by omega])
  have i1 := hz.in d (i := m) (by omega)
  refine g_jn (fun v => v = nx l on sz (m + 1)) (fun k hk => g_ck (by omega) ?_) fun v hv => g_i64 (by omega) (g_go ⟨m + 1, by rw [hv]; simp, by omega⟩ (by simp; omega))
  refine g_if (fun h1 => hk _ ?_) fun h1 => g_ck (by omega) (g_ck (by omega) (g_if (fun h2 => hk _ ?_) fun h2 => g_ck (by omega) (g_if (fun h3 => hk _ ?_) fun h3 => g_if (fun h4 => hk _ ?_) fun h4 => ?_)))
  · rw [nx, if_neg (fun e => h1 e.1.1)]
  · rw [nx, if_neg (fun e => by have := e.1.2.2; simp only [gz, pt] at this; omega)]
  · rw [nx, if_neg (fun e => e.1.2.1 h3)]
  · rw [nx, if_pos ⟨⟨by simpa using h1, h3, by simp only [gz, pt]; omega⟩, .inl h4⟩]
  · have i2 := hz.in d (i := (nx l on sz m).toNat) (by omega)
    simp only [gz, pt] at i1 i2
    have b1 := mulb (a := sz.getD m 0 - (l.getD m default).1 + 1) (b := (l.getD (nx l on sz m).toNat default).2.2.1) (by omega) (by omega)
    have b2 := mulb (a := sz.getD (nx l on sz m).toNat 0 - (l.getD (nx l on sz m).toNat default).1 + 1) (b := (l.getD m default).2.2.1) (by omega) (by omega)
    refine g_ck (by omega) (g_ck (by omega) (g_i64 (by omega) (g_i64 (by omega) (g_ck (by omega) (g_i64 (by omega) (g_ck (by omega) (g_ck (by omega) (g_i64 (by omega) (g_i64 (by omega) (g_ck (by omega) (g_i64 (by omega) ?_)))))))))))
    refine g_if (fun h5 => hk _ ?_) fun h5 => hk _ ?_
    · rw [nx, if_pos ⟨⟨by simpa using h1, h3, by simp only [gz, pt]; omega⟩, .inr h5⟩]
    · rw [nx, if_neg (fun e => e.2.elim h4 h5)]

/-! ### how much each has -/
def s0 (l : List Pt) (on : List Bool) : Nat → List Int
  | 0 => []
  | k + 1 => s0 l on k ++ [if st on k = true then (pt l k).1 else 0]
theorem s0_len (l : List Pt) (on : List Bool) : ∀ k, (s0 l on k).length = k
  | 0 => rfl
  | k + 1 => by simp [s0, s0_len l on k]
theorem s0_get (l : List Pt) (on : List Bool) : ∀ k i, i < k → gz (s0 l on k) i = if st on i = true then (pt l i).1 else 0
  | 0, i, h => by omega
  | k + 1, i, h => by
    simp only [gz, s0, List.getD_eq_getElem?_getD]
    by_cases e : i < k
    · rw [List.getElem?_append_left (by rw [s0_len]; exact e)]
      have := s0_get l on k i e
      rwa [gz, List.getD_eq_getElem?_getD] at this
    · have : i = k := by omega
      subst this
      rw [List.getElem?_append_right (by rw [s0_len]; exact Nat.le_refl _), s0_len]
      simp
theorem gz_ext {a b : List Int} (hl : a.length = b.length) (h : ∀ i, i < a.length → gz a i = gz b i) : a = b := by
  refine List.ext_getElem hl fun i h1 h2 => ?_
  have := h i h1
  rwa [gz, gz, List.getD_eq_getElem?_getD, List.getD_eq_getElem?_getD, List.getElem?_eq_getElem h1, List.getElem?_eq_getElem h2] at this
theorem gz_set {a : List Int} {i j : Nat} {v : Int} (h : i < a.length) : gz (a.set i v) j = if i = j then v else gz a j := by
  simp only [gz, List.getD_eq_getElem?_getD, List.getElem?_set]
  split
  · rename_i e; subst e; simp [h]
  · rfl
theorem szOk_0 {l : List Pt} {on : List Bool} (h : okAll l) : szOk l on (s0 l on l.length) := by
  refine ⟨s0_len _ _ _, fun i hi => ?_⟩
  rw [s0_get _ _ _ _ hi]
  have := h i hi
  unfold okP at this
  constructor
  · intro e; rw [if_pos e]; omega
  · intro e; rw [if_neg (by rw [e]; simp)]
/-- so many are shared out -/
noncomputable def shF (l : List Pt) (on : List Bool) : Nat → List Int × Int → List Int × Int
  | 0, s => s
  | k + 1, s => if s.2 ≤ 0 ∨ nx l on s.1 l.length < 0 then s else shF l on k (s.1.set (nx l on s.1 l.length).toNat (gz s.1 (nx l on s.1 l.length).toNat + 1), s.2 - 1)
noncomputable def lay (l : List Pt) (on : List Bool) (left : Int) : List Int × Int := shF l on (left.toNat + 1) (s0 l on l.length, left)
def shQ (l : List Pt) (on : List Bool) (left : Int) (s : List Int × Int) : Prop := szOk l on s.1 ∧ s.2 ≤ left ∧ (0 ≤ left → 0 ≤ s.2) ∧ ∃ k : Nat, s.2 < k ∧ shF l on k s = lay l on left
theorem shQ_0 {l : List Pt} {on : List Bool} {left : Int} (h : okAll l) : shQ l on left (s0 l on l.length, left) := ⟨szOk_0 h, Int.le_refl _, id, left.toNat + 1, by dsimp only; omega, rfl⟩
theorem shQ_stop {l : List Pt} {on : List Bool} {left : Int} {s : List Int × Int} (h : shQ l on left s) (hs : s.2 ≤ 0 ∨ nx l on s.1 l.length < 0) : s = lay l on left := by
  obtain ⟨_, _, h0, k, hk, e⟩ := h
  cases k with
  | zero => exact e
  | succ k => rwa [shF, if_pos hs] at e
theorem szOk_go {l : List Pt} {on : List Bool} {sz : List Int} (h : szOk l on sz) (h2 : ¬ nx l on sz l.length < 0) : szOk l on (sz.set (nx l on sz l.length).toNat (gz sz (nx l on sz l.length).toNat + 1)) := by
  have f := nx_in l on sz l.length
  have c := nx_cand l on sz l.length (by omega)
  have hn := h.n
  refine ⟨by simpa using hn, fun i hi => ?_⟩
  rw [gz_set (by omega)]
  have hi' := h.i i hi
  split
  · rename_i e
    rw [e] at c ⊢
    have c1 := c.1
    have c2 := c.2.2
    exact ⟨fun hs => by have := hi'.1 hs; omega, fun hs => by rw [c1] at hs; cases hs⟩
  · exact hi'
theorem shQ_go {l : List Pt} {on : List Bool} {left : Int} {s : List Int × Int} (h : shQ l on left s) (h1 : ¬ s.2 ≤ 0) (h2 : ¬ nx l on s.1 l.length < 0) :
    shQ l on left (s.1.set (nx l on s.1 l.length).toNat (gz s.1 (nx l on s.1 l.length).toNat + 1), s.2 - 1) := by
  obtain ⟨hz, hle, h0, k, hk, e⟩ := h
  cases k with
  | zero => omega
  | succ k =>
    rw [shF, if_neg (by omega)] at e
    exact ⟨szOk_go hz h2, by dsimp only; omega, fun _ => by dsimp only; omega, k, by dsimp only; omega, e⟩
end Go.Proofs.Ytcnofjjiepcpjaa
