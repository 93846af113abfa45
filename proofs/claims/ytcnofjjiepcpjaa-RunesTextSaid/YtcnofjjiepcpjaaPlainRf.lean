import Derived.Test.YtcnofjjiepcpjaaPlainRe
set_option linter.unusedVariables false
namespace Go.Proofs.Ytcnofjjiepcpjaa
open Go Go.Eng

/-- the first of two rows of runes are the same -/
theorem same_gives {β : Type} {l : List Int} {K : Bool → Option β} {Φ : β → Prop} {N M n : Nat} (hn : n ≤ M) (hm : n ≤ N) (hN : N ≤ 2000) {k : Option β} {x : Int} {a b c d : Nat} (hx : x = n) (ea : a = M) (eb : b = N) (ec : c = M) (ed : d = N) (hk : Gives k Φ) :
    Gives ((loopO (σ := Int) (ρ := (Unit) ⊕ (Unit)) (fun s2209 =>
                                if s2209 < x then
                                  (
                                    ck (0 ≤ s2209 ∧ s2209 < ((a : Nat) : Int)) <|
                                    ck (0 ≤ s2209 ∧ s2209 < ((b : Nat) : Int)) <|
                                    if ¬ ((rs l M).getD s2209.toNat 0) = ((rs l N).getD s2209.toNat 0) then
                                      some (.out (.inl (())))
                                    else
                                      (
                                        ck (0 ≤ s2209 ∧ s2209 < ((c : Nat) : Int)) <|
                                        ck (0 ≤ s2209 ∧ s2209 < ((d : Nat) : Int)) <|
                                        if ¬ ((pp l M).getD s2209.toNat 0) = ((pp l N).getD s2209.toNat 0) then
                                          some (.out (.inl (())))
                                        else
                                          (
                                            ck (inR .i64 (s2209 + 1)) <|
                                            some (.go (s2209 + 1))
                                          )
                                      )
                                  )
                                else
                                  some (.out (.inr (())))
                              ) 0).bind fun o2227 =>
                            sm o2227 (fun o2236 =>
                                K true
                              ) (fun o2237 =>
                                k
                              )) Φ := by
  subst hx ea eb ec ed
  refine g_bind (Ω := fun o : Unit ⊕ Unit => o = .inr ()) (g_loop (fun s : Int => ∃ i : Nat, s = i ∧ i ≤ n) (fun s => ((n : Int) - s).toNat) ?_ ⟨0, rfl, Nat.zero_le _⟩) fun o ho => by subst ho; exact g_sm (fun w e => by cases e) fun w e => hk
  rintro _ ⟨i, rfl, hi⟩
  refine g_if (fun hlt => ?_) fun hge => g_out rfl
  have e1 : ∀ m, i < m → (rs l m).getD (i : Int).toNat 0 = rn l i := fun m h => by simp [rs, List.getD_eq_getElem?_getD, h]
  have e2 : ∀ m, i < m → (pp l m).getD (i : Int).toNat 0 = ps l i := fun m h => by simp [pp, List.getD_eq_getElem?_getD, h]
  rw [e1 _ (by omega), e1 _ (by omega), e2 _ (by omega), e2 _ (by omega)]
  exact g_ck (by omega) (g_ck (by omega) (g_f (by simp) (g_ck (by omega) (g_ck (by omega) (g_f (by simp) (g_i64 (by omega) (g_go ⟨i + 1, rfl, by omega⟩ (by omega))))))))
theorem txt_gives {L : List Int} {most : Int} (hL : Byt L) (hm : 0 ≤ most ∧ most ≤ 255) : Gives (g11 L most) fun r => r = true := by
  unfold g11
  have hg : 0 ≤ gmin ((L.length : Nat) : Int) 400 ∧ gmin ((L.length : Nat) : Int) 400 ≤ L.length ∧ gmin ((L.length : Nat) : Int) 400 ≤ 400 := by rw [gmin_eq]; omega
  generalize hm' : gmin ((L.length : Nat) : Int) 400 = m at *
  have hd : (L.drop (0 : Int).toNat).take (m.toNat - (0 : Int).toNat) = L.take m.toNat := rfl
  rw [hd]
  have hb : Byt (L.take m.toNat) := take_byt hL
  have hn : (L.take m.toNat).length ≤ 400 := by rw [List.length_take]; omega
  have z : (0 : Int).toNat = 0 := rfl
  have hc : m.toNat - (0 : Int).toNat = (L.take m.toNat).length := by rw [List.length_take]; omega
  refine g_ck (by omega) ?_
  simp only [hc]
  generalize L.take m.toNat = l at hb hn ⊢
  refine g_jn (fun v => ∃ N, ps l N = l.length ∧ v = (rs l N, pp l N)) (fun k hk => runes_gives hb (by omega) rfl fun N hN => hk _ ⟨N, hN, rfl⟩) ?_
  rintro _ ⟨N, hN, rfl⟩
  have kN := ps_ge hb N
  refine g_ck hb (g_i64 (by omega) (g_bind (told_gives' hb (by omega) hN hm.1) fun a ha => g_ck hb (g_i64 (by omega) (g_bind (told_gives' hb (by omega) hN (by omega)) fun c hc => g_bind (text_gives hb (by omega) hN) fun t ht => ?_))))
  have e : min N ((l.length : Int) + 1).toNat = N := by omega
  rw [e] at hc
  subst ha hc ht
  dsimp only
  simp only [rs_len, pp_len]
  have eg : gmin ((N : Nat) : Int) most = ((min N most.toNat : Nat) : Int) := by rw [gmin_eq]; omega
  rw [eg]
  refine g_jn (fun v => v = false) (fun k hk => g_i64 (by omega) ?_) fun v hv => ?_
  · refine g_f (by simp) (g_f (by simp) (g_f (by omega) (g_f (by omega) ?_)))
    refine g_jn (fun _ => True) (fun k2 hk2 => ?_) fun _ _ => ?_
    · exact same_gives (K := k) (l := l) (N := N) (M := min N most.toNat) (n := min N most.toNat) (Nat.le_refl _) (Nat.min_le_left _ _) (by omega) rfl rfl rfl rfl rfl (hk2 () trivial)
    refine g_f (by simp) (g_f (by simp) (g_f (by omega) (g_f (by omega) ?_)))
    refine g_jn (fun _ => True) (fun k2 hk2 => ?_) fun _ _ => ?_
    · refine g_bind (Ω := fun o : Unit ⊕ Unit => o = .inr ()) (g_loop (fun s : Int => ∃ i : Nat, s = i ∧ i ≤ N) (fun s => ((N : Int) - s).toNat) ?_ ⟨0, rfl, Nat.zero_le _⟩) fun o ho => by subst ho; exact g_sm (fun w e => by cases e) fun w e => hk2 _ trivial
      rintro _ ⟨i, rfl, hi⟩
      exact g_if (fun hlt => g_ck (by omega) (g_ck (by omega) (g_f (by simp) (g_ck (by omega) (g_ck (by omega) (g_f (by simp) (g_i64 (by omega) (g_go ⟨i + 1, rfl, by omega⟩ (by omega))))))))) fun hge => g_out rfl
    refine g_jn (fun v => v = (rs l N, pp l N)) (fun k2 hk2 => runes_gives hb (by omega) rfl fun M hM => hk2 _ (by rw [ps_inj hb (hM.trans hN.symm)])) fun v hv => ?_
    subst hv
    refine g_jn (fun v => v = tx l N) (fun k hk => flat_gives hb (by omega) (hk _ rfl) (rs_len l N)) fun v hv => ?_
    subst hv
    exact g_ck (tx_byt hb N) (hk _ (by simp))
  · refine g_f (by simp [hv]) (g_ck hb (g_bind (count_gives hb (by omega) hN) fun a ha => g_t (by rw [ha]) (g_ck hb (g_bind (valid_gives hb (by omega) hN) fun u hu => g_ck hb (g_bind (ref_valid hb (by omega) hN) fun w hw => g_t (hu.trans hw.symm) (g_bind (text_valid hb (by omega)) fun x hx => g_t hx (g_call g20_true (g_some rfl))))))))
theorem text_law {L : List Int} {most : Int} (hL : ∀ a ∈ L, (fun a : Int => inR .u8 a) a) (hm : inR .u8 most) : Gives (g11 L most) fun r => r = true := txt_gives hL hm
end Go.Proofs.Ytcnofjjiepcpjaa
