import Derived.Test.YtcnofjjiepcpjaaPlainRe
set_option linter.unusedVariables false
namespace Go.Proofs.Ytcnofjjiepcpjaa
open Go Go.Eng

/-! ### what does not ask for more stands -/
theorem nxGo_stable {n : Int} : ∀ {k : Nat} {lo hi r : Int} {t : List Int} (v : List Int), (nxGo n k lo hi r t).2.2 = false → nxGo n k lo hi r (t ++ v) = nxGo n k lo hi r t
  | 0, _, _, _, t, v, _ => by simp [nxGo]
  | k + 1, lo, hi, r, [], v, h => by simp [nxGo] at h
  | k + 1, lo, hi, r, b :: t, v, h => by
    rw [List.cons_append]
    simp only [nxGo] at h ⊢
    split
    · rfl
    · rename_i q
      rw [if_neg q] at h
      exact nxGo_stable v h
theorem nx_stable {w : List Int} (v : List Int) (h : (nx w).2.2 = false) : nx (w ++ v) = nx w := by
  cases w with
  | nil => simp [nx] at h
  | cons c t =>
    rw [List.cons_append]
    simp only [nx] at h ⊢
    split
    · rfl
    · rename_i q
      rw [if_neg q] at h
      exact nxGo_stable v h
theorem nxGo_lead {n c : Int} (hc : 192 ≤ c) {v : List Int} : ∀ {k : Nat} {lo hi r : Int} {t : List Int}, hi ≤ 191 → (nxGo n k lo hi r t).2.2 = true → nxGo n k lo hi r (t ++ c :: v) = (65533, 1, false)
  | 0, _, _, _, t, _, h => by simp [nxGo] at h
  | k + 1, lo, hi, r, [], hh, h => by
    simp only [nxGo, List.nil_append]
    rw [if_pos (by omega)]
  | k + 1, lo, hi, r, b :: t, hh, h => by
    rw [List.cons_append]
    simp only [nxGo] at h ⊢
    split
    · rfl
    · rename_i q
      rw [if_neg q] at h
      exact nxGo_lead hc (by omega) h
theorem nx_lead {w v : List Int} {c : Int} (hw : 1 ≤ w.length) (hc : 192 ≤ c) (h : (nx w).2.2 = true) : nx (w ++ c :: v) = (65533, 1, false) := by
  cases w with
  | nil => simp at hw
  | cons b t =>
    rw [List.cons_append]
    simp only [nx] at h ⊢
    split
    · rfl
    · rename_i q
      rw [if_neg q] at h
      exact nxGo_lead hc (by simp only [shHigh]; repeat' split <;> omega) h
theorem nx_first {c : Int} {v : List Int} (h : (nx (c :: v)).2.2 = true) : 194 ≤ c := by
  simp only [nx] at h
  split at h
  · cases h
  · rename_i q
    simp only [shMany] at q h
    by_cases h1 : c < 128
    · rw [if_pos h1] at h; simp [nxGo] at h
    · by_cases h2 : c < 194
      · rw [if_neg h1, if_pos h2] at q; exact absurd rfl q
      · omega
theorem nxGo_short {n : Int} : ∀ {k : Nat} {lo hi r : Int} {t : List Int}, (nxGo n k lo hi r t).2.2 = true → t.length < k
  | 0, _, _, _, t, h => by simp [nxGo] at h
  | k + 1, lo, hi, r, [], h => by simp
  | k + 1, lo, hi, r, b :: t, h => by
    simp only [nxGo] at h
    split at h
    · cases h
    · have := nxGo_short h
      simp only [List.length_cons]
      omega
theorem nx_short {w : List Int} (h : (nx w).2.2 = true) : w.length ≤ 3 := by
  cases w with
  | nil => simp
  | cons c t =>
    simp only [nx] at h
    split at h
    · cases h
    · have h1 := nxGo_short h
      have h2 := many_le c
      simp only [List.length_cons]
      omega
/-! ### a text that is parted -/
theorem ex_N {l : List Int} (hl : Byt l) : ∃ N, ps l N = l.length := by
  have : ∀ (d k : Nat), l.length - ps l k ≤ d → ps l k ≤ l.length → ∃ N, ps l N = l.length := by
    intro d
    induction d with
    | zero => exact fun k h1 h2 => ⟨k, by omega⟩
    | succ d ih =>
      intro k h1 h2
      by_cases e : ps l k = l.length
      · exact ⟨k, e⟩
      · have s := ps_step hl k
        exact ih (k + 1) (by omega) (s.2.2 (by omega))
  exact this l.length 0 (by simp [ps]) (by simp [ps])
/-- a text's bytes, told from what bytes -/
def TT (l t : List Int) : Prop := ∃ N, ps l N = l.length ∧ t = tx l N
theorem TT_uniq {l t s : List Int} (hl : Byt l) (h : TT l t) (h' : TT l s) : t = s := by
  obtain ⟨N, h1, rfl⟩ := h
  obtain ⟨M, h2, rfl⟩ := h'
  rw [ps_inj hl (h1.trans h2.symm)]
theorem app_left {u v : List Int} (hC : ∀ p, p < u.length → stp (u.drop p ++ v) = stp (u.drop p)) (hu : Byt u) : ∀ {M : Nat}, ps u M ≤ u.length → ps (u ++ v) M = ps u M ∧ tx (u ++ v) M = tx u M
  | 0, _ => ⟨rfl, rfl⟩
  | M + 1, h => by
    have s := ps_step hu M
    obtain ⟨h1, h2⟩ := app_left hC hu (M := M) (by omega)
    have e : stp ((u ++ v).drop (ps u M)) = stp (u.drop (ps u M)) := by
      rw [List.drop_append_of_le_length (by omega)]
      exact hC _ (by omega)
    refine ⟨?_, ?_⟩
    · rw [ps, ps, h1, e]
    · rw [tx_succ, tx_succ, h2, rn, rn, h1, e]
theorem app_right {u v : List Int} {M : Nat} (hM : ps (u ++ v) M = u.length) : ∀ (k : Nat), ps (u ++ v) (M + k) = u.length + ps v k ∧ tx (u ++ v) (M + k) = tx (u ++ v) M ++ tx v k
  | 0 => ⟨by simpa [ps] using hM, by simp [tx]⟩
  | k + 1 => by
    obtain ⟨h1, h2⟩ := app_right hM k
    have e : (u ++ v).drop (u.length + ps v k) = v.drop (ps v k) := by
      rw [← List.drop_drop, List.drop_left]
    refine ⟨?_, ?_⟩
    · rw [show M + (k + 1) = (M + k) + 1 by omega, ps, h1, e, ps]
      omega
    · rw [show M + (k + 1) = (M + k) + 1 by omega, tx_succ, h2, rn, h1, e, tx_succ, rn, List.append_assoc]
theorem TT_app {u v t s : List Int} (hC : ∀ p, p < u.length → stp (u.drop p ++ v) = stp (u.drop p)) (hu : Byt u) (h : TT u t) (h' : TT v s) : TT (u ++ v) (t ++ s) := by
  obtain ⟨M, h1, rfl⟩ := h
  obtain ⟨N, h2, rfl⟩ := h'
  obtain ⟨g1, g2⟩ := app_left (v := v) hC hu (M := M) (by omega)
  obtain ⟨g3, g4⟩ := app_right (v := v) (g1.trans h1) N
  exact ⟨M + N, by rw [g3, h2, List.length_append], by rw [g4, g2]⟩
/-- where bytes are cut -/
structure cutAt (b : List Int) (a : Nat) : Prop where
  le : a ≤ b.length
  ge : b.length ≤ a + 3
  more : a < b.length → (nx (b.drop a)).2.2 = true
  no : ∀ i, b.length ≤ i + 3 → i < a → (nx (b.drop i)).2.2 = false
theorem cutAt_uniq {b : List Int} {a a' : Nat} (h : cutAt b a) (h' : cutAt b a') : a = a' := by
  have l := h.le; have l' := h'.le; have g := h.ge; have g' := h'.ge
  by_cases e : a < a'
  · have := h'.no a (by omega) e
    rw [h.more (by omega)] at this
    cases this
  · by_cases e' : a' < a
    · have := h.no a' (by omega) e'
      rw [h'.more (by omega)] at this
      cases this
    · omega
theorem cut_TT {b x t s : List Int} {a : Nat} (hb : Byt b) (hx : Byt x) (h : cutAt b a) (h1 : TT (b.take a) t) (h2 : TT (b.drop a ++ x) s) : TT (b ++ x) (t ++ s) := by
  have := TT_app (u := b.take a) (v := b.drop a ++ x) (fun p hp => ?_) (take_byt hb) h1 h2
  · rwa [← List.append_assoc, List.take_append_drop] at this
  · have hl := h.le
    rw [List.length_take, Nat.min_eq_left hl] at hp
    by_cases hm : (nx ((b.take a).drop p)).2.2 = true
    · have hs := nx_short hm
      rw [List.length_drop, List.length_take, Nat.min_eq_left hl] at hs
      have hw : 1 ≤ ((b.take a).drop p).length := by rw [List.length_drop, List.length_take, Nat.min_eq_left hl]; omega
      by_cases e : a = b.length
      · have := h.no p (by omega) hp
        rw [e, List.take_length] at hm
        rw [hm] at this
        cases this
      · have m := h.more (by omega)
        cases hv : b.drop a with
        | nil =>
          have := congrArg List.length hv
          rw [List.length_drop, List.length_nil] at this
          omega
        | cons c v =>
          rw [hv] at m
          have := nx_first m
          rw [stp_more hm, List.cons_append]
          unfold stp
          rw [nx_lead hw (by omega) hm]
          rfl
    · unfold stp
      rw [nx_stable _ (by simpa using hm)]
theorem cut_len {b : List Int} {a : Nat} (h : cutAt b a) : (b.drop a).length ≤ 3 := by
  have := h.ge
  rw [List.length_drop]; omega
/-- the search for it -/
theorem cut_loop {β : Type} {b : List Int} {n : Nat} (hn : n = b.length) (hb : Byt b) (hl : b.length ≤ 2000) {g : List Int → Option (Int × Int × Bool)} (hg : ∀ {l : List Int}, Byt l → l.length ≤ 1000000 → g l = some (nx l)) {ρ : Type} {out : Int → ρ} {fin : ρ} {K : ρ → Option β} {Φ : β → Prop}
    {K1 : Int → Option (St1 Int ρ)} (h1 : ∀ a : Nat, a < b.length → cutAt b a → K1 a = some (.out (out a)))
    (h2 : ∀ a : Nat, a < b.length → cutAt b a → Gives (K (out a)) Φ) (h3 : cutAt b b.length → Gives (K fin) Φ) :
    Gives ((loopO (σ := Int) (ρ := ρ) (fun s48 =>
          if s48 < ((n : Nat) : Int) then
            (
              ck (0 ≤ s48 ∧ s48 ≤ ((n : Nat) : Int) ∧ ((n : Nat) : Int) ≤ ((n : Nat) : Int)) <|
              (g ((b.drop s48.toNat).take (((n : Nat) : Int).toNat - s48.toNat))).bind fun v74 =>
              if v74.2.2 = true then
                K1 s48
              else
                (
                  ck (inR .i64 (s48 + 1)) <|
                  some (.go (s48 + 1))
                )
            )
          else
            some (.out fin)
        ) (gmax 0 (((n : Nat) : Int) - 3))).bind fun o68 => K o68) Φ := by
  subst hn
  refine g_bind (Ω := fun o => (∃ a : Nat, a < b.length ∧ cutAt b a ∧ o = out a) ∨ (cutAt b b.length ∧ o = fin)) (g_loop (fun s : Int => ∃ i : Nat, s = i ∧ i ≤ b.length ∧ b.length ≤ i + 3 ∧ ∀ j, b.length ≤ j + 3 → j < i → (nx (b.drop j)).2.2 = false) (fun s => ((b.length : Int) - s).toNat) ?_ ?_) ?_
  · rintro _ ⟨i, rfl, hi, h4, hno⟩
    refine g_if (fun hlt => g_ck (by omega) ?_) fun hge => g_out (.inr ⟨?_, rfl⟩)
    · simp only [Int.toNat_natCast, drop_all]
      refine g_call (hg (drop_byt hb) (by rw [List.length_drop]; omega)) (g_if (fun h => ?_) fun h => ?_)
      · have c : cutAt b i := ⟨hi, h4, fun _ => h, hno⟩
        rw [h1 i (by omega) c]
        exact g_out (.inl ⟨i, by omega, c, rfl⟩)
      · refine g_i64 (by omega) (g_go ⟨i + 1, by simp, by omega, by omega, fun j h5 h6 => ?_⟩ (by omega))
        by_cases e : j = i
        · subst e; simpa using h
        · exact hno j h5 (by omega)
    · have : i = b.length := by omega
      subst this
      exact ⟨Nat.le_refl _, h4, fun h => by omega, hno⟩
  · refine ⟨b.length - 3, ?_, by omega, by omega, fun j h5 h6 => by omega⟩
    rw [gmax_eq]; omega
  · rintro o (⟨a, h4, h5, rfl⟩ | ⟨h5, rfl⟩)
    · exact h2 a h4 h5
    · exact h3 h5
theorem str_app (a b : List Int) : strOf (a ++ b) = strOf a ++ strOf b := by
  apply ByteArray.ext
  simp [strOf, ByteArray.data_append]
end Go.Proofs.Ytcnofjjiepcpjaa
