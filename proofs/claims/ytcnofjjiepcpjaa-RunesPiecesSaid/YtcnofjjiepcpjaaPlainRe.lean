import Derived.Test.YtcnofjjiepcpjaaPlainRd
import Derived.Test.YtcnofjjiepcpjaaLiftR2
set_option linter.unusedVariables false
namespace Go.Proofs.Ytcnofjjiepcpjaa
open Go Go.Eng

theorem drop_all {l : List Int} {k : Nat} : (l.drop k).take (l.length - k) = l.drop k := List.take_of_length_le (by rw [List.length_drop]; omega)
/-- one step of any of the walks through bytes -/
theorem stp_more {l : List Int} (h : (nx l).2.2 = true) : stp l = (65533, 1) := by unfold stp; rw [if_pos h]
theorem stp_else {l : List Int} (h : ¬ (nx l).2.2 = true) : stp l = ((nx l).1, (nx l).2.1) := by unfold stp; rw [if_neg h]
theorem ps_more {l : List Int} {k : Nat} (h : (nx (l.drop (ps l k))).2.2 = true) : rn l k = 65533 ∧ (ps l k : Int) + 1 = (ps l (k + 1) : Nat) := by
  unfold rn; rw [ps, stp_more h]; exact ⟨rfl, by simp⟩
theorem ps_else {l : List Int} (hl : Byt l) {k : Nat} (h : ¬ (nx (l.drop (ps l k))).2.2 = true) : rn l k = (nx (l.drop (ps l k))).1 ∧ (ps l k : Int) + (nx (l.drop (ps l k))).2.1 = (ps l (k + 1) : Nat) := by
  have p := stp_pos (drop_byt hl (n := ps l k))
  unfold rn; rw [ps]
  rw [stp_else h] at p ⊢
  exact ⟨rfl, by dsimp only at p ⊢; omega⟩
/-- the document's runes and places -/
theorem runes_gives {β : Type} {l : List Int} {K : List Int × List Int → Option β} {Φ : β → Prop} (hl : Byt l) (hn : l.length ≤ 2000) {n : Nat} (e : n = l.length)
    (hk : ∀ N, ps l N = l.length → Gives (K (rs l N, pp l N)) Φ) :
    Gives ((loopO (σ := List Int × List Int × Int) (ρ := List Int × List Int) (fun s657 =>
          if s657.2.2 < ((n : Nat) : Int) then
            (
              ck (0 ≤ s657.2.2 ∧ s657.2.2 ≤ ((n : Nat) : Int) ∧ ((n : Nat) : Int) ≤ ((n : Nat) : Int)) <|
              (g16 ((l.drop s657.2.2.toNat).take (((n : Nat) : Int).toNat - s657.2.2.toNat))).bind fun v687 =>
              if v687.2.2 = true then
                (
                  ck ((s657.1.length + 1) * 4 ≤ 140737488355328) <|
                  ck ((s657.2.1.length + 1) * 8 ≤ 140737488355328) <|
                  ck (inR .i64 (s657.2.2 + 1)) <|
                  some (.go ((s657.1 ++ [65533]), (s657.2.1 ++ [s657.2.2]), s657.2.2 + 1))
                )
              else
                (
                  ck ((s657.1.length + 1) * 4 ≤ 140737488355328) <|
                  ck ((s657.2.1.length + 1) * 8 ≤ 140737488355328) <|
                  ck (inR .i64 (s657.2.2 + v687.2.1)) <|
                  some (.go ((s657.1 ++ [v687.1]), (s657.2.1 ++ [s657.2.2]), s657.2.2 + v687.2.1))
                )
            )
          else
            some (.out (s657.1, s657.2.1))
        ) ([], [], 0)).bind fun o683 => K (o683.1, o683.2)) Φ := by
  subst e
  refine g_bind (Ω := fun o => ∃ N, ps l N = l.length ∧ o = (rs l N, pp l N)) (g_loop (fun s : List Int × List Int × Int => ∃ k : Nat, s = (rs l k, pp l k, (ps l k : Int)) ∧ ps l k ≤ l.length) (fun s => ((l.length : Int) - s.2.2).toNat) ?_ ⟨0, rfl, Nat.zero_le _⟩) ?_
  · rintro _ ⟨k, rfl, hk⟩
    dsimp only
    have st := ps_step hl k
    have kl := ps_ge hl k
    refine g_if (fun hlt => g_ck (by omega) ?_) fun hge => g_out ⟨k, by omega, rfl⟩
    simp only [Int.toNat_natCast, drop_all]
    refine g_call (g16_eq (drop_byt hl) (by rw [List.length_drop]; omega)) (g_if (fun h => ?_) fun h => ?_)
    · obtain ⟨r1, r2⟩ := ps_more h
      rw [r2]
      exact g_ck (by rw [rs_len]; omega) (g_ck (by rw [pp_len]; omega) (g_i64 (by omega) (g_go ⟨k + 1, by rw [rs_succ, pp_succ, r1], by omega⟩ (by dsimp only; omega))))
    · obtain ⟨r1, r2⟩ := ps_else hl h
      rw [r2]
      exact g_ck (by rw [rs_len]; omega) (g_ck (by rw [pp_len]; omega) (g_i64 (by omega) (g_go ⟨k + 1, by rw [rs_succ, pp_succ, r1], by omega⟩ (by dsimp only; omega))))
  · rintro _ ⟨N, h, rfl⟩
    exact hk N h
theorem norm_of {v : Int} (h : isR v) : norm v = v := by unfold norm; rw [if_pos h]
/-- runes, as bytes again -/
theorem flat_gives {β : Type} {l : List Int} {K : List Int → Option β} {Φ : β → Prop} (hl : Byt l) {N : Nat} (hN : N ≤ 2000) (hk : Gives (K (tx l N)) Φ) {n : Nat} (e : n = N) :
    Gives ((loopO (σ := List Int × Int) (ρ := List Int) (fun s730 =>
            if s730.2 < ((n : Nat) : Int) then
              (
                ck (0 ≤ s730.2 ∧ s730.2 < ((n : Nat) : Int)) <|
                (g18 ((rs l N).getD s730.2.toNat 0)).bind fun v747 =>
                ck ((s730.1.length + v747.length) * 1 ≤ 140737488355328) <|
                ck (inR .i64 (s730.2 + 1)) <|
                some (.go ((s730.1 ++ v747), s730.2 + 1))
              )
            else
              some (.out s730.1)
          ) ([], 0)).bind fun o744 => K o744) Φ := by
  subst e
  refine g_bind (Ω := fun o => o = tx l n) (g_loop (fun s : List Int × Int => ∃ k : Nat, s = (tx l k, (k : Int)) ∧ k ≤ n) (fun s => ((n : Int) - s.2).toNat) ?_ ⟨0, rfl, Nat.zero_le _⟩) fun o ho => ho ▸ hk
  rintro _ ⟨k, rfl, hk⟩
  dsimp only
  refine g_if (fun hlt => g_ck (by omega) ?_) fun hge => g_out (by rw [show k = n by omega])
  have e1 : (rs l n).getD (k : Int).toNat 0 = rn l k := by
    simp [rs, List.getD_eq_getElem?_getD, show k < n by omega]
  rw [e1]
  have t1 := tx_len (l := l) k
  have t2 := enc_len (v := rn l k)
  refine g_call (g18_eq _) ?_
  rw [norm_of (rn_R hl k)]
  exact g_ck (by omega) (g_i64 (by omega) (g_go ⟨k + 1, by rw [tx_succ]; rfl, by omega⟩ (by dsimp only; omega)))
theorem text_gives {l : List Int} (hl : Byt l) (hn : l.length ≤ 2000) {N : Nat} (hN : ps l N = l.length) : Gives (g32 l) fun r => r = strOf (tx l N) := by
  unfold g32
  refine g_ck (by omega) (g_jn (fun v => v = tx l N) (fun k hk => ?_) fun v hv => ?_)
  · refine g_bind (Ω := fun o => o = tx l N) (g_loop (fun s : List Int × Int => ∃ k : Nat, s = (tx l k, (ps l k : Int)) ∧ ps l k ≤ l.length) (fun s => ((l.length : Int) - s.2).toNat) ?_ ⟨0, rfl, Nat.zero_le _⟩) fun o ho => hk _ ho
    rintro _ ⟨k, rfl, hk⟩
    dsimp only
    have st := ps_step hl k
    have kl := ps_ge hl k
    have t1 := tx_len (l := l) k
    refine g_if (fun hlt => g_ck (by omega) ?_) fun hge => g_out (by rw [ps_inj hl (show ps l k = ps l N by omega)])
    simp only [Int.toNat_natCast, drop_all]
    refine g_call (g15_eq (drop_byt hl) (by rw [List.length_drop]; omega)) (g_if (fun h => ?_) fun h => ?_)
    · obtain ⟨r1, r2⟩ := ps_more h
      have t2 := enc_len (v := rn l k)
      refine g_call (g17_eq _) ?_
      rw [r2, ← r1, norm_of (rn_R hl k)]
      exact g_ck (by omega) (g_i64 (by omega) (g_go ⟨k + 1, by rw [tx_succ], by omega⟩ (by dsimp only; omega)))
    · obtain ⟨r1, r2⟩ := ps_else hl h
      have t2 := enc_len (v := rn l k)
      refine g_call (g17_eq _) ?_
      rw [r2, ← r1, norm_of (rn_R hl k)]
      exact g_ck (by omega) (g_i64 (by omega) (g_go ⟨k + 1, by rw [tx_succ], by omega⟩ (by dsimp only; omega)))
  · subst hv
    exact g_ck (tx_byt hl N) (g_some rfl)
theorem told_gives' {l : List Int} (hl : Byt l) (hn : l.length ≤ 2000) {N : Nat} (hN : ps l N = l.length) {most : Int} (hm : 0 ≤ most) :
    Gives (g44 (strOf l) most) fun v => v = (rs l (min N most.toNat), pp l (min N most.toNat)) := by
  unfold g44
  rw [str_size, bytes_str hl]
  refine g_ck (by omega) (g_jn (fun v => v = (rs l (min N most.toNat), pp l (min N most.toNat))) (fun k hk => ?_) fun v hv => g_some (by rw [hv]))
  refine g_bind (Ω := fun o : (List Int × List Int) ⊕ (List Int × List Int) => ∃ v, (o = .inl v ∨ o = .inr v) ∧ v = (rs l (min N most.toNat), pp l (min N most.toNat)))
    (g_loop (fun s : List Int × List Int × Int => ∃ k : Nat, s = (rs l k, pp l k, (ps l k : Int)) ∧ ps l k ≤ l.length ∧ (k : Int) ≤ most) (fun s => ((l.length : Int) - s.2.2).toNat) ?_ ⟨0, rfl, Nat.zero_le _, hm⟩) ?_
  · rintro _ ⟨k, rfl, hk, hkm⟩
    dsimp only
    have st := ps_step hl k
    have kl := ps_ge hl k
    refine g_if (fun hlt => g_ck (by omega) ?_) fun hge => g_out ⟨_, .inr rfl, by rw [show min N most.toNat = k by have := ps_inj hl (show ps l k = ps l N by omega); omega]⟩
    have kN : k < N := (ps_lt_iff hl).1 (by omega)
    simp only [Int.toNat_natCast, drop_all, rs_len]
    refine g_call (g15_eq (drop_byt hl) (by rw [List.length_drop]; omega)) (g_if (fun h => g_if (fun h' => g_out ⟨_, .inl rfl, by rw [show min N most.toNat = k by omega]⟩) fun h' => ?_) fun h => g_if (fun h' => g_out ⟨_, .inl rfl, by rw [show min N most.toNat = k by omega]⟩) fun h' => ?_)
    · obtain ⟨r1, r2⟩ := ps_more h
      rw [r2]
      exact g_ck (by omega) (g_ck (by rw [pp_len]; omega) (g_i64 (by omega) (g_go ⟨k + 1, by rw [rs_succ, pp_succ, r1], by omega, by omega⟩ (by dsimp only; omega))))
    · obtain ⟨r1, r2⟩ := ps_else hl h
      rw [r2]
      exact g_ck (by omega) (g_ck (by rw [pp_len]; omega) (g_i64 (by omega) (g_go ⟨k + 1, by rw [rs_succ, pp_succ, r1], by omega, by omega⟩ (by dsimp only; omega))))
  · rintro _ ⟨v, rfl | rfl, hv⟩
    · exact g_sm (fun w e => by cases e; exact hk _ hv) fun w e => by cases e
    · exact g_sm (fun w e => by cases e) fun w e => by cases e; exact hk _ hv
theorem count_gives {l : List Int} (hl : Byt l) (hn : l.length ≤ 2000) {N : Nat} (hN : ps l N = l.length) : Gives (g47 (strOf l)) fun v => v = N := by
  unfold g47
  rw [str_size, bytes_str hl]
  refine g_jn (fun v => v = (N : Int)) (fun k hk => g_ck (by omega) ?_) fun v hv => g_some hv
  refine g_bind (Ω := fun o => o = (N : Int)) (g_loop (fun s : Int × Int => ∃ k : Nat, s = ((k : Int), (ps l k : Int)) ∧ ps l k ≤ l.length) (fun s => ((l.length : Int) - s.2).toNat) ?_ ⟨0, rfl, Nat.zero_le _⟩) fun o ho => hk _ ho
  rintro _ ⟨k, rfl, hk⟩
  dsimp only
  have st := ps_step hl k
  have kl := ps_ge hl k
  refine g_if (fun hlt => g_ck (by omega) ?_) fun hge => g_out (by rw [ps_inj hl (show ps l k = ps l N by omega)])
  simp only [Int.toNat_natCast, drop_all]
  refine g_call (g15_eq (drop_byt hl) (by rw [List.length_drop]; omega)) (g_if (fun h => ?_) fun h => ?_)
  · obtain ⟨r1, r2⟩ := ps_more h
    rw [r2]
    exact g_i64 (by omega) (g_i64 (by omega) (g_go ⟨k + 1, rfl, by omega⟩ (by dsimp only; omega)))
  · obtain ⟨r1, r2⟩ := ps_else hl h
    rw [r2]
    exact g_i64 (by omega) (g_i64 (by omega) (g_go ⟨k + 1, rfl, by omega⟩ (by dsimp only; omega)))
theorem enc_bad : enc (norm 65533) = [239, 191, 189] := rfl
theorem valid_gives {l : List Int} (hl : Byt l) (hn : l.length ≤ 2000) {N : Nat} (hN : ps l N = l.length) : Gives (g48 (strOf l)) fun r => (r = true ↔ tx l N = l) := by
  unfold g48
  rw [str_size, bytes_str hl]
  refine g_ck (by omega) (g_jn (fun _ => tx l N = l) (fun k hk => ?_) fun v hv => g_some (by simpa using hv))
  refine g_bind (Ω := fun o : Unit ⊕ Unit => (o = .inl () ∧ ¬ tx l N = l) ∨ (o = .inr () ∧ tx l N = l)) (g_loop (fun s : Int => ∃ k : Nat, s = (ps l k : Int) ∧ ps l k ≤ l.length ∧ ∀ i, i < k → goodAt l i) (fun s => ((l.length : Int) - s).toNat) ?_ ⟨0, rfl, Nat.zero_le _, fun i hi => by omega⟩) ?_
  · rintro _ ⟨k, rfl, hk, hg⟩
    have st := ps_step hl k
    have kl := ps_ge hl k
    refine g_if (fun hlt => g_ck (by omega) ?_) fun hge => g_out (.inr ⟨rfl, (tx_good hl hN).2 (by rw [← ps_inj hl (show ps l k = ps l N by omega)]; exact hg)⟩)
    have kN : k < N := (ps_lt_iff hl).1 (by omega)
    simp only [Int.toNat_natCast, drop_all]
    have bad : ¬ goodAt l k → ¬ tx l N = l := fun h h' => h ((tx_good hl hN).1 h' k kN)
    have gi := goodAt_iff hl k
    have next : ¬ (nx (l.drop (ps l k))).2.2 = true → goodAt l k → Gives (ck (inR .i64 ((ps l k : Int) + (nx (l.drop (ps l k))).2.1)) (some (.go ((ps l k : Int) + (nx (l.drop (ps l k))).2.1)))) (rnd (fun s : Int => ∃ k : Nat, s = (ps l k : Int) ∧ ps l k ≤ l.length ∧ ∀ i, i < k → goodAt l i) (fun s => ((l.length : Int) - s).toNat) ((l.length : Int) - (ps l k : Int)).toNat (fun o : Unit ⊕ Unit => (o = .inl () ∧ ¬ tx l N = l) ∨ (o = .inr () ∧ tx l N = l))) := fun h g => by
      obtain ⟨r1, r2⟩ := ps_else hl h
      rw [r2]
      refine g_i64 (by omega) (g_go ⟨k + 1, rfl, by omega, fun i hi => ?_⟩ (by omega))
      by_cases q : i = k
      · subst q; exact g
      · exact hg i (by omega)
    refine g_call (g15_eq (drop_byt hl) (by rw [List.length_drop]; omega)) (g_if (fun h => g_out (.inl ⟨rfl, bad fun g => by rw [gi] at g; simp [h] at g⟩)) fun h => g_if (fun h1 => next h (gi.2 ⟨by simpa using h, .inl h1⟩)) fun h1 => g_call (g17_eq _) ?_)
    rw [enc_bad]
    refine g_if (fun h2 => g_out (.inl ⟨rfl, bad fun g => ?_⟩)) fun h2 => next h (gi.2 ⟨by simpa using h, .inr ?_⟩)
    · rw [gi] at g
      simp only [List.length_cons, List.length_nil] at h2
      omega
    · simp only [List.length_cons, List.length_nil] at h2
      omega
  · rintro _ (⟨rfl, h⟩ | ⟨rfl, h⟩)
    · exact g_sm (fun w e => g_some (by simpa using h)) fun w e => by cases e
    · exact g_sm (fun w e => by cases e) fun w e => hk _ h
theorem ref_valid {l : List Int} (hl : Byt l) (hn : l.length ≤ 2000) {N : Nat} (hN : ps l N = l.length) : Gives (g49 (strOf l)) fun r => (r = true ↔ tx l N = l) := by
  unfold g49
  rw [str_size, bytes_str hl]
  refine g_ck (by omega) (g_jn (fun v => v = (rs l N, pp l N)) (fun k hk => runes_gives hl hn rfl fun M hM => hk _ (by rw [ps_inj hl (hM.trans hN.symm)])) fun v hv => ?_)
  subst hv
  have kl := ps_ge hl N
  refine g_jn (fun v => v = tx l N) (fun k hk => flat_gives hl (by omega) (hk _ rfl) (rs_len l N)) fun v hv => ?_
  subst hv
  refine g_ck (tx_byt hl N) (g_some ?_)
  rw [decide_eq_true_iff]
  exact str_eq (tx_byt hl N) hl
/-- the text that was made of runes is a text -/
theorem text_valid {l : List Int} (hl : Byt l) {N : Nat} (hn : N ≤ 2000) : Gives (g48 (strOf (tx l N))) fun r => r = true := by
  unfold g48
  have hb := tx_byt hl N
  have hln := tx_len (l := l) N
  rw [str_size, bytes_str hb]
  refine g_ck (by omega) (g_jn (fun _ => True) (fun k hk => ?_) fun v hv => g_some rfl)
  refine g_bind (Ω := fun o : Unit ⊕ Unit => o = .inr ()) (g_loop (fun s : Int => ∃ k : Nat, s = ((tx l k).length : Int) ∧ k ≤ N) (fun s => (((tx l N).length : Int) - s).toNat) ?_ ⟨0, rfl, Nat.zero_le _⟩) fun o ho => by subst ho; exact g_sm (fun w e => by cases e) fun w e => hk _ trivial
  rintro _ ⟨k, rfl, hk⟩
  refine g_if (fun hlt => ?_) fun hge => g_out rfl
  have kN : k < N := by
    by_cases q : k = N
    · subst q; omega
    · omega
  obtain ⟨R, hR⟩ := tx_split l kN
  have hlen := congrArg List.length hR
  rw [List.length_append, List.length_append] at hlen
  have e1 : (tx l N).drop (tx l k).length = enc (rn l k) ++ R := by rw [hR, List.drop_left]
  have t2 := enc_len (v := rn l k)
  have e2 : ((tx l k).length : Int) + ((enc (rn l k)).length : Int) = ((tx l (k + 1)).length : Nat) := by rw [tx_succ, List.length_append]; omega
  refine g_ck (by omega) ?_
  simp only [Int.toNat_natCast, drop_all]
  refine g_call (g15_eq (drop_byt hb) (by rw [List.length_drop]; omega)) ?_
  rw [e1, nx_enc (rn_R hl k) R]
  dsimp only
  rw [e2]
  have fin : Gives (ck (inR .i64 ((tx l (k + 1)).length : Nat)) (some (St1.go (ρ := Unit ⊕ Unit) (((tx l (k + 1)).length : Nat) : Int)))) (rnd (fun s : Int => ∃ k : Nat, s = ((tx l k).length : Int) ∧ k ≤ N) (fun s => (((tx l N).length : Int) - s).toNat) (((tx l N).length : Int) - ((tx l k).length : Int)).toNat (fun o : Unit ⊕ Unit => o = .inr ())) :=
    g_i64 (by omega) (g_go ⟨k + 1, rfl, kN⟩ (by omega))
  refine g_f (by simp) (g_if (fun _ => fin) fun h => g_call (g17_eq _) ?_)
  have h : rn l k = 65533 := by omega
  rw [h, enc_bad]
  exact g_f (by rw [show enc 65533 = [239, 191, 189] from rfl]; simp) fin
end Go.Proofs.Ytcnofjjiepcpjaa
