import Derived.Test.YtenjkphlbdhaiaaPlainGB
import Derived.Test.YtenjkphlbdhaiaaLiftM5
set_option linter.unusedSimpArgs false
set_option linter.unusedVariables false
namespace Go.Proofs.Ytenjkphlbdhaiaa
open Go Go.Eng

/-! ### GapFinds: plain facts -/
theorem bytes_ext {a b : ByteArray} (h : a.data.toList = b.data.toList) : a = b := by
  cases a; cases b
  simp only [ByteArray.mk.injEq]
  exact Array.toList_inj.1 h
/-- a row of texts stands at a place -/
def standsAt (l : List ByteArray) (k : Nat) (T : List ByteArray) : Prop := (l.drop k).take T.length = T
theorem standsAt_len {l T : List ByteArray} {k : Nat} (h : standsAt l k T) : T.length ≤ l.length - k := by
  have := congrArg List.length h
  rw [List.length_take, List.length_drop] at this
  omega
theorem standsAt_iff {l T : List ByteArray} {k : Nat} : standsAt l k T ↔ T.length ≤ l.length - k ∧ ∀ j, j < T.length → l.getD (k + j) default = T.getD j default := by
  constructor
  · intro h
    refine ⟨standsAt_len h, fun j hj => ?_⟩
    have hl := standsAt_len h
    unfold standsAt at h
    have : ((l.drop k).take T.length)[j]? = T[j]? := by rw [h]
    rw [List.getElem?_take_of_lt hj, List.getElem?_drop] at this
    simp only [List.getD_eq_getElem?_getD, this]
  · rintro ⟨hl, h⟩
    unfold standsAt
    apply List.ext_getElem?
    intro j
    by_cases hj : j < T.length
    · rw [List.getElem?_take_of_lt hj, List.getElem?_drop]
      have := h j hj
      simp only [List.getD_eq_getElem?_getD] at this
      rw [List.getElem?_eq_getElem (by omega), List.getElem?_eq_getElem hj] at this ⊢
      simpa using this
    · rw [List.getElem?_eq_none (by simp; omega), List.getElem?_eq_none (by omega)]
variable {b : Bf} {m : Int} {X G Y : List ByteArray}
/-- at -/
theorem g59_gp (h : Gp b m X G Y) {k : Nat} (hk : k < X.length + Y.length) : g59 b k = some ((X ++ Y).getD k default) := by
  have hn := h.pn
  refine g_eq ?_
  unfold g59 g62
  rw [h.e]
  dsimp only
  by_cases hx : k < X.length
  · rw [if_pos (by omega), Option.bind_some]
    refine g_ck (by simp only [List.length_append]; omega) (g_some ?_)
    rw [Int.toNat_natCast]
    simp only [List.getD_eq_getElem?_getD, List.getElem?_append_left hx]
  · rw [if_neg (by omega)]
    refine g_bind (Ω := fun v => v = (k : Int) + ((X.length + G.length : Nat) : Int) - (X.length : Int)) (g_i64 (by omega) (g_i64 (by omega) (g_some rfl))) ?_
    rintro _ rfl
    refine g_ck (by simp only [List.length_append]; omega) (g_some ?_)
    have e : ((k : Int) + ((X.length + G.length : Nat) : Int) - (X.length : Int)).toNat = k + G.length := by omega
    rw [e]
    simp only [List.getD_eq_getElem?_getD]
    rw [List.getElem?_append_right (by omega), List.getElem?_append_right (by omega), List.getElem?_append_right (by omega)]
    congr 2
    omega
/-- stand -/
theorem g58_gp (h : Gp b m X G Y) {k : Nat} (hk : k < X.length + Y.length) (T : List ByteArray) (hT : T.length ≤ 1000000) : Gives (g58 b k T) fun r => r = true ↔ standsAt (X ++ Y) k T := by
  have hn := h.pn
  have hL : (X ++ Y).length = X.length + Y.length := List.length_append
  unfold g58
  refine g_call (g48_gp h) (g_i64 (by omega) (g_if (fun hlt => g_some ?_) fun hge => ?_))
  · simp only [Bool.false_eq_true, false_iff]
    intro hs
    have := standsAt_len hs
    omega
  · refine g_jn (fun _ => standsAt (X ++ Y) k T) (fun kk hkk => g_bind (g_loop (R := fun o => (o = .inl () ∧ ¬ standsAt (X ++ Y) k T) ∨ (o = .inr () ∧ standsAt (X ++ Y) k T)) (fun i : Int => 0 ≤ i ∧ i ≤ T.length ∧ ∀ j : Nat, (j : Int) < i → (X ++ Y).getD (k + j) default = T.getD j default) (fun i : Int => ((T.length : Int) - i).toNat) ?_ ⟨Int.le_refl _, by omega, fun j hj => by omega⟩) ?_) fun _ hs => g_some (by simp [hs])
    · rintro i ⟨h0, h1, h2⟩
      refine g_if (fun hi => g_ck (by omega) (g_i64 (by omega) ?_)) fun hi => g_out (.inr ⟨rfl, standsAt_iff.2 ⟨by omega, fun j hj => h2 j (by omega)⟩⟩)
      have e : (k : Int) + i = ((k + i.toNat : Nat) : Int) := by omega
      rw [e]
      refine g_call (g59_gp h (by omega)) (g_if (fun hne => g_out (.inl ⟨rfl, fun hs => hne ?_⟩)) fun heq => g_i64 (by omega) (g_go ⟨by omega, by omega, fun j hj => ?_⟩ (by omega)))
      · rw [(standsAt_iff.1 hs).2 i.toNat (by omega)]
      · by_cases hji : (j : Int) < i
        · exact h2 j hji
        · have : j = i.toNat := by omega
          subst this
          exact bytes_ext (Decidable.not_not.1 heq)
    · rintro o (⟨rfl, hs⟩ | ⟨rfl, hs⟩)
      · exact g_sm (fun _ _ => g_some (by simp [hs])) (fun r hr => by cases hr)
      · exact g_sm (fun r hr => by cases hr) (fun _ _ => hkk _ hs)
/-- Find -/
theorem g23_gp (h : Gp b m X G Y) (T : List ByteArray) (hT : T.length ≤ 1000000) : Gives (g23 b T) fun r =>
    (r = (0, false) ∧ (T = [] ∨ ∀ k, X.length ≤ k → k < X.length + Y.length → ¬ standsAt (X ++ Y) k T)) ∨
    (T ≠ [] ∧ ∃ k : Nat, r = ((k : Int), true) ∧ X.length ≤ k ∧ k < X.length + Y.length ∧ standsAt (X ++ Y) k T ∧ ∀ j, X.length ≤ j → j < k → ¬ standsAt (X ++ Y) j T) := by
  have hn := h.pn
  have hL : (X ++ Y).length = X.length + Y.length := List.length_append
  unfold g23
  refine g_call (g47_gp h) (g_if (fun hc => absurd rfl hc) fun _ => g_if (fun h0 => g_some (.inl ⟨rfl, .inl (List.eq_nil_of_length_eq_zero (by omega))⟩)) fun h0 => ?_)
  have hne : T ≠ [] := fun e => by subst e; exact h0 rfl
  refine g_jn (fun _ => ∀ k, X.length ≤ k → k < X.length + Y.length → ¬ standsAt (X ++ Y) k T) (fun kk hkk => g_call (g11_gp h) (g_bind (g_loop (R := fun o => (∃ k : Nat, o = .inl (k : Int) ∧ X.length ≤ k ∧ k < X.length + Y.length ∧ standsAt (X ++ Y) k T ∧ ∀ j, X.length ≤ j → j < k → ¬ standsAt (X ++ Y) j T) ∨ (o = .inr () ∧ ∀ k, X.length ≤ k → k < X.length + Y.length → ¬ standsAt (X ++ Y) k T)) (fun i : Int => 0 ≤ i ∧ i ≤ (X ++ Y).length ∧ ∀ j : Nat, X.length ≤ j → (j : Int) < i → ¬ standsAt (X ++ Y) j T) (fun i : Int => (((X ++ Y).length : Int) - i).toNat) ?_ ⟨Int.le_refl _, by omega, fun j _ hj => by omega⟩) ?_)) fun _ hs => g_some (.inl ⟨rfl, .inr hs⟩)
  · rintro i ⟨hi0, hi1, hi2⟩
    refine g_if (fun hi => g_ck (by omega) ?_) fun hi => g_out (.inr ⟨rfl, fun k h1 h2 => hi2 k h1 (by omega)⟩)
    have ex : b.2.2.1 = (X.length : Int) := by rw [h.e]
    rw [ex]
    refine g_if (fun hx => ?_) fun hx => g_i64 (by omega) (g_go ⟨by omega, by omega, fun j h1 h2 => by omega⟩ (by omega))
    obtain ⟨k, rfl⟩ : ∃ k : Nat, i = (k : Int) := ⟨i.toNat, by omega⟩
    refine g_bind (g58_gp h (k := k) (by omega) T hT) fun r hr => ?_
    refine g_if (fun ht => g_out (.inl ⟨k, rfl, by omega, by omega, hr.1 ht, fun j h1 h2 => hi2 j h1 (by omega)⟩)) fun hf => g_i64 (by omega) (g_go ⟨by omega, by omega, fun j h1 h2 => ?_⟩ (by omega))
    by_cases hj : (j : Int) < k
    · exact hi2 j h1 hj
    · have : j = k := by omega
      subst this
      exact fun hs => hf (hr.2 hs)
  · rintro o (⟨k, rfl, h1, h2, h3, h4⟩ | ⟨rfl, hs⟩)
    · exact g_sm (fun r hr => by cases hr; exact g_some (.inr ⟨hne, k, rfl, h1, h2, h3, h4⟩)) (fun r hr => by cases hr)
    · exact g_sm (fun r hr => by cases hr) (fun _ _ => hkk _ hs)
/-- few -/
theorem g22_gives (L : List ByteArray) : Gives (g22 L) fun T => T.length ≤ 12 := by
  unfold g22
  refine g_jn (fun v => v.length ≤ 12) (fun kk hkk => g_bind (g_loop (R := fun v : List ByteArray => v.length ≤ 12) (fun s : List ByteArray × Int => 0 ≤ s.2 ∧ s.2 ≤ 12 ∧ (s.1.length : Int) ≤ s.2) (fun s => (12 - s.2).toNat) ?_ ⟨Int.le_refl _, by decide, Int.le_refl _⟩) fun v hv => hkk v hv) fun v hv => g_some hv
  rintro ⟨l, i⟩ ⟨h0, h1, h2⟩
  dsimp only at h0 h1 h2 ⊢
  refine g_if (fun hi => g_if (fun h12 => g_ck (by omega) (g_if (fun h80 => g_ck (by omega) (g_ck (by omega) (g_i64 (by omega) (g_go ⟨by omega, by omega, by simp; omega⟩ (by omega))))) fun _ => g_ck (by omega) (g_i64 (by omega) (g_go ⟨by omega, by omega, by simp; omega⟩ (by omega))))) fun _ => g_out (by omega)) fun _ => g_out (by omega)

theorem g5_gives {a0 : ByteArray} {a1 a2 : Int} {a3 : List ByteArray} (h2 : 0 ≤ a2 ∧ a2 ≤ 255) : Gives (g5 a0 a1 a2 a3) fun r => r = true := by
  unfold g5
  refine g_jn (fun v => v.size ≤ 200) (fun k hk => g_if (fun h => g_ck (by omega) (hk _ (Nat.le_of_eq (extract_size a0 (by omega))))) fun h => hk _ (by omega)) ?_
  intro s hs
  obtain ⟨cs, e15, hcl, hcn⟩ := g15_any s (by omega)
  refine g_call e15 ?_
  obtain ⟨b1, G1, e1, h1, l1⟩ := fill_gp hcl (by omega) a1
  refine g_call e1 (g_if (fun h => absurd rfl h) fun _ => ?_)
  obtain ⟨b2, G2, e2, hb2, l2⟩ := g12_gp h1 a1
  refine g_call e2 ?_
  rw [List.append_nil] at hb2
  have hline : (strs cs).take (tgt a1 ((strs cs).length + ([] : List ByteArray).length)) ++ (strs cs).drop (tgt a1 ((strs cs).length + ([] : List ByteArray).length)) = strs cs := List.take_append_drop _ _
  generalize tgt a1 ((strs cs).length + ([] : List ByteArray).length) = t0 at hb2 hline
  have hsl := strs_len cs
  generalize (strs cs).take t0 = X at hb2 hline
  generalize (strs cs).drop t0 = Y at hb2 hline
  generalize strs cs = l at hline hsl
  have hll : X.length + Y.length = l.length := by rw [← List.length_append, hline]
  refine g_call (g11_gp hb2) ?_
  rw [hline]
  refine g_bind (g22_gives a3) fun T hT => ?_
  refine g_bind (g23_gp hb2 T (by omega)) fun r hr => ?_
  rw [hline, hll] at hr
  refine g_call (g13_gp hb2) ?_
  refine g_jn (fun _ => True) (fun k hk => ?_) fun _ _ => ?_
  · rcases hr with ⟨rfl, _⟩ | ⟨hne, j, rfl, j1, j2, j3, j4⟩
    · exact g_if (fun hc => by cases hc) fun _ => g_if (fun _ => g_if (fun hc => absurd rfl hc) fun _ => hk _ trivial) fun hc => absurd (by decide) hc
    · have := standsAt_len j3
      refine g_if (fun _ => g_if (fun hc => absurd hc (by dsimp only; omega)) fun _ => g_i64 (by omega) (g_if (fun hc => absurd hc (by dsimp only; omega)) fun _ => g_i64 (by dsimp only; omega) (g_ck (by dsimp only; omega) ?_))) fun hc => absurd rfl hc
      dsimp only
      have e1 : ((j : Int) + ((T.length : Nat) : Int)).toNat - (j : Int).toNat = T.length := by omega
      rw [e1, Int.toNat_natCast, show (l.drop j).take T.length = T from j3]
      exact g_call (g14_same (by omega)) (g_if (fun hc => absurd rfl hc) fun _ => g_if (fun hc => absurd rfl hc) fun _ => hk _ trivial)
  · have e0 : (gmin a2 (((l.length : Nat) : Int) - (X.length : Int))) = ((min a2.toNat (l.length - X.length) : Nat) : Int) := by rw [gmin_eq]; omega
    rw [e0]
    generalize hM : min a2.toNat (l.length - X.length) = M
    have e1 : ((X.length : Int) + (M : Int)).toNat - (X.length : Int).toNat = M := by omega
    refine g_i64 (by omega) (g_i64 (by omega) (g_i64 (by omega) (g_ck (by omega) ?_)))
    rw [e1, Int.toNat_natCast]
    have hTl : ((l.drop X.length).take M).length = M := by rw [List.length_take, List.length_drop]; omega
    refine g_bind (g23_gp hb2 ((l.drop X.length).take M) (by omega)) fun r2 hr2 => ?_
    rw [hline, hll] at hr2
    by_cases hM0 : M = 0
    · subst hM0
      rcases hr2 with ⟨rfl, _⟩ | ⟨hne, _⟩
      · exact g_if (fun _ => g_if (fun _ => g_call awake_true (g_some rfl)) fun hc => absurd (by decide) hc) fun hc => absurd (by decide) hc
      · exact absurd (List.take_zero) hne
    · have hst : standsAt l X.length ((l.drop X.length).take M) := by unfold standsAt; rw [hTl]
      rcases hr2 with ⟨rfl, h | h⟩ | ⟨hne, j, rfl, j1, j2, j3, j4⟩
      · exact absurd (congrArg List.length h) (by rw [hTl]; exact hM0)
      · exact absurd hst (h _ (Nat.le_refl _) (by omega))
      · have : j = X.length := by
          rcases Nat.lt_or_ge X.length j with hlt | hge
          · exact absurd hst (j4 _ (Nat.le_refl _) hlt)
          · omega
        subst this
        refine g_if (fun _ => g_if (fun hc => absurd rfl hc) fun _ => g_if (fun _ => g_call awake_true (g_some rfl)) fun hc => absurd rfl hc) fun hc => absurd ⟨fun _ => by omega, fun _ => rfl⟩ hc
theorem gapFinds_law {a0 : ByteArray} {a1 a2 : Int} {a3 : List ByteArray} (h0 : a0.size ≤ maxLen) (h1 : inR .i64 a1) (h2 : inR .u8 a2) (h3 : ∀ a ∈ a3, (fun a : ByteArray => a.size ≤ maxLen) a) : Gives (g5 a0 a1 a2 a3) fun b => b = true := g5_gives h2

end Go.Proofs.Ytenjkphlbdhaiaa
