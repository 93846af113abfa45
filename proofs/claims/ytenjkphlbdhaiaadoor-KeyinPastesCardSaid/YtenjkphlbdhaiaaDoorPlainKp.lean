import Derived.Test.YtenjkphlbdhaiaaDoorPlainKo
set_option linter.unusedVariables false
set_option linter.unusedSimpArgs false
namespace Go.Proofs.YtenjkphlbdhaiaaDoor
open Go Go.Eng

def endI (B : List Int) : Int := match endAt B with | some k => k | none => -1
theorem g25_eq {B : List Int} (hB : Byt B) (hn : B.length ≤ 1000000) : g25 B = some (endI B) := by
  refine g_eq ?_
  unfold g25
  refine g_jn (fun _ => endAt B = none) (fun k hk => g_bind (g_loop (R := fun o => (∃ j : Nat, o = .inl (j : Int) ∧ endAt B = some j) ∨ (o = .inr () ∧ endAt B = none)) (fun i : Int => 0 ≤ i ∧ i ≤ B.length ∧ ∀ j : Nat, (j : Int) < i → (B.drop j).take 6 ≠ E6) (fun i : Int => ((B.length : Int) - i).toNat) ?_ ⟨Int.le_refl _, by omega, fun j hj => by omega⟩) ?_) fun _ h => g_some (by unfold endI; rw [h])
  · rintro i ⟨h0, h1, h2⟩
    refine g_i64 (by omega) (g_if (fun hi => ?_) fun hi => g_out (.inr ⟨rfl, endAt_none.2 fun j hj => ?_⟩))
    · have e6' : (i + 6).toNat - i.toNat = 6 := by omega
      rw [e6']
      have hl : lit [27, 91, 50, 48, 49, 126] = strOf E6 := rfl
      have hE : isBytes E6 := by intro c hc; simp [E6] at hc; omega
      have hb : isBytes ((B.drop i.toNat).take 6) := byt_sub hB
      rw [hl]
      refine g_i64 (by omega) (g_ck (by omega) (g_ck hb (g_if (fun h => g_out (.inl ⟨i.toNat, congrArg Sum.inl (show i = ((i.toNat : Nat) : Int) by omega), endAt_some.2 ⟨(str_eq hb hE).1 h, fun j hj => h2 j (by omega)⟩⟩)) fun h => g_i64 (by omega) (g_go ⟨by omega, by omega, fun j hj => ?_⟩ (by omega)))))
      by_cases hji : (j : Int) < i
      · exact h2 j hji
      · have : j = i.toNat := by omega
        subst this
        exact fun e => h ((str_eq hb hE).2 e)
    · have := take6_len hj
      exact h2 j (by omega) hj
  · rintro o (⟨j, rfl, hs⟩ | ⟨rfl, hs⟩)
    · exact g_sm (fun r hr => by cases hr; exact g_some (by unfold endI; rw [hs])) (fun r hr => by cases hr)
    · exact g_sm (fun r hr => by cases hr) (fun _ _ => hk () hs)
theorem pkey_ref {p : List Int} (hp : Byt p) (hl : p.length ≤ 1000000) : ∃ s, g26 p = some s ∧ pkey p = (16, s, 0, false, false, false) := by
  obtain ⟨s, h1, h2⟩ := text_same hp hl
  refine ⟨s, h2, ?_⟩
  unfold pkey txt
  rw [h2]
  rfl
theorem take_len {B : List Int} {n : Nat} : (B.drop n).take (((B.length : Nat) : Int).toNat - n) = B.drop n := List.take_of_length_le (by rw [List.length_drop]; omega)
/-- one round of the document's Feed, from what is known of the state -/
def FI (b : List Int) (pa0 : Bool) (s : List Int × Bool × List Ky) : Prop := Byt s.1 ∧ s.2.2.length + s.1.length ≤ b.length ∧ ∀ {B' pa' ks}, Run s.1 s.2.1 B' pa' ks → Run b pa0 B' pa' (s.2.2 ++ ks)
theorem FI.fin {b : List Int} {pa0 : Bool} {B : List Int} {pa : Bool} {out : List Ky} (h : FI b pa0 (B, pa, out)) (hs : st1 B pa = none) : Run b pa0 B pa out := by
  have := h.2.2 (.stop hs)
  rwa [List.append_nil] at this
theorem FI.step {b : List Int} {pa0 : Bool} {B : List Int} {pa : Bool} {out : List Ky} (h : FI b pa0 (B, pa, out)) {B1 : List Int} {pa1 : Bool} {ks : List Ky} (hs : st1 B pa = some (B1, pa1, ks)) (hk : ks.length ≤ 1) : FI b pa0 (B1, pa1, out ++ ks) ∧ B1.length < B.length := by
  have hl := st1_len h.1 hs
  refine ⟨⟨hl.2, ?_, fun r => ?_⟩, hl.1⟩
  · have := h.2.1
    have := hl.1
    dsimp only at *
    rw [List.length_append]
    omega
  · dsimp only
    rw [List.append_assoc]
    exact h.2.2 (.step hs r)
theorem pastes_gives {a0 : List Int} {a1 a2 : Int} (h0 : Byt a0) (h1 : 0 ≤ a1 ∧ a1 ≤ 65535) (h2 : 0 ≤ a2 ∧ a2 ≤ 65535) : Gives (g4 a0 a1 a2) fun r => r = true := by
  unfold g4
  have hb0 : Byt ((a0.drop (0 : Int).toNat).take ((gmin ((a0.length : Nat) : Int) 300).toNat - (0 : Int).toNat)) := byt_sub h0
  have hbl : ((a0.drop (0 : Int).toNat).take ((gmin ((a0.length : Nat) : Int) 300).toNat - (0 : Int).toNat)).length ≤ 300 := by
    rw [gmin_eq, List.length_take]
    show min ((min (a0.length : Int) 300).toNat - 0) _ ≤ 300
    omega
  refine g_ck (by rw [gmin_eq]; omega) (g_ck (by decide) ?_)
  generalize (a0.drop (0 : Int).toNat).take ((gmin ((a0.length : Nat) : Int) 300).toNat - (0 : Int).toNat) = b at hb0 hbl
  have hs0 : bytesOf (lit [27, 91, 50, 48, 48, 126]) = [27, 91, 50, 48, 48, 126] := rfl
  have hs1 : bytesOf (lit [27, 91, 50, 48, 49, 126, 120]) = E6 ++ [120] := rfl
  have hz : (lit [27, 91, 50, 48, 49, 126, 120]).size = 7 := rfl
  rw [hs0, hs1, hz]
  -- all that comes
  refine g_jn (fun v => Byt v ∧ v.length ≤ 70300) (fun k hk => ?_) ?_
  · refine g_bind (g_loop (R := fun v : List Int => Byt v ∧ v.length ≤ 70300) (fun s : List Int × Int => Byt s.1 ∧ s.1.length ≤ 70000 ∧ 0 ≤ s.2 ∧ s.2 ≤ 65536) (fun s => (65536 - s.2).toNat) ?_ ⟨by intro c hc; simp at hc; omega, by simp, Int.le_refl _, by dsimp only; decide⟩) fun v hv => hk v hv
    rintro ⟨all, i⟩ ⟨hb, hl, hi0, hi1⟩
    dsimp only at hb hl hi0 hi1 ⊢
    refine g_i64 (by omega) (g_if (fun hi => g_if (fun hp => g_ck (by omega) (g_if (fun hgt => g_out ⟨byt_app hb hb0, by rw [List.length_append]; omega⟩) fun hle => g_i64 (by omega) (g_go ⟨byt_app hb hb0, by dsimp only; omega, by dsimp only; omega, by dsimp only; omega⟩ (by dsimp only; omega)))) fun _ => g_out ⟨hb, by omega⟩) fun _ => g_out ⟨hb, by omega⟩)
  rintro Y ⟨hY, hYl⟩
  have hA : Byt (Y ++ (E6 ++ [120])) := byt_app hY (by intro c hc; simp [E6] at hc; omega)
  have hAl : (Y ++ (E6 ++ [120])).length = Y.length + 7 := by simp [E6]
  refine g_ck (by omega) ?_
  -- the document's keys
  refine g_jn (fun v => ∃ B' pa', Run (Y ++ (E6 ++ [120])) false B' pa' v ∧ v.length ≤ 70307) (fun k hk => ?_) ?_
  · refine g_ck (by decide) (g_ck (by show (0 + _) * 1 ≤ _; omega) ?_)
    rw [show (([] : List Int) ++ []) ++ (Y ++ (E6 ++ [120])) = Y ++ (E6 ++ [120]) from rfl]
    refine g_jn (fun v => v = Y ++ (E6 ++ [120])) (fun k2 hk2 => hk2 _ rfl) ?_
    rintro _ rfl
    generalize Y ++ (E6 ++ [120]) = A at hA hAl hk
    refine g_jn (fun v => v.2.2.length ≤ 70307 ∧ Run A false v.1 v.2.1 v.2.2) (fun k2 hk2 => ?_) (fun v hv => hk _ ⟨v.1, v.2.1, hv.2, hv.1⟩)
    refine g_bind (g_loop (R := fun o : (List Int × Bool × List Int × Bool × List Ky) ⊕ (List Int × Bool × List Ky) => match o with
        | .inl v => v.2.2.2.2.length ≤ 70307 ∧ Run A false v.1 v.2.1 v.2.2.2.2
        | .inr v => v.2.2.length ≤ 70307 ∧ Run A false v.1 v.2.1 v.2.2) (fun s : List Int × Bool × List Ky => FI A false s) (fun s => s.1.length) ?_ ⟨hA, by simp, fun r => r⟩) ?_
    · rintro ⟨B, pa, out⟩ hF
      have hFl := hF.2.1
      have hFb : Byt B := hF.1
      dsimp only at hFl ⊢
      refine g_if (fun hp => ?_) fun hp => g_out ⟨by dsimp only; omega, hF.fin ?_⟩
      · have h1 : 1 ≤ B.length := by omega
        have hne : B ≠ [] := fun e => by rw [e] at h1; exact absurd h1 (by decide)
        refine g_if (fun hpa => ?_) fun hpa => ?_
        · have hpa : pa = true := hpa
          subst hpa
          refine g_call (g25_eq hFb (by omega)) ?_
          unfold endI
          cases he : endAt B with
          | none =>
            refine g_if (fun _ => g_out ⟨by dsimp only; omega, hF.fin ?_⟩) fun h => absurd (by decide) h
            unfold st1; rw [if_neg hne, if_pos rfl, he]; rfl
          | some j =>
            have hj := take6_len (endAt_some.1 he).1
            refine g_if (fun h => absurd h (by dsimp only; omega)) fun _ => ?_
            dsimp only
            have e1 : (B.drop (0 : Int).toNat).take ((gmin (j : Int) 65536).toNat - (0 : Int).toNat) = B.take (min j 65536) := by
              rw [gmin_eq]
              show (B.drop 0).take _ = _
              rw [List.drop_zero]
              congr 1
              show (min (j : Int) 65536).toNat - 0 = _
              omega
            have e2 : ((j : Int) + 6).toNat = j + 6 := by omega
            rw [e1, e2, take_len]
            obtain ⟨s, hs, hpk⟩ := pkey_ref (p := B.take (min j 65536)) (fun x hx => hFb x (List.mem_of_mem_take hx)) (by rw [List.length_take]; omega)
            have hst : st1 B true = some (B.drop (j + 6), false, [pkey (B.take (min j 65536))]) := by
              unfold st1; rw [if_neg hne, if_pos rfl, he]; rfl
            obtain ⟨f1, f2⟩ := hF.step hst (by simp)
            rw [hpk] at f1
            exact g_ck (by rw [gmin_eq]; omega) (g_call hs (g_ck (by omega) (g_i64 (by omega) (g_ck (by omega) (g_go f1 f2)))))
        · have hpa : pa = false := by cases pa; rfl; exact absurd rfl hpa
          subst hpa
          refine g_call (first_eq hFb (by omega) h1).1 ?_
          have hn := fs_n hFb h1
          refine g_if (fun hz => g_out ⟨by dsimp only; omega, hF.fin ?_⟩) fun hz => ?_
          · unfold st1; rw [if_neg hne, if_neg (by decide), if_pos hz]
          · rw [take_len]
            have hst : st1 B false = some (B.drop (fs B).1.toNat, (fs B).pa, if (fs B).is = true then [(fs B).key] else []) := by
              unfold st1; rw [if_neg hne, if_neg (by decide), if_neg hz]
            refine g_ck (by omega) (g_if (fun hi => g_ck (by omega) ?_) fun hi => ?_)
            · have hi : (fs B).is = true := hi
              rw [if_pos hi] at hst
              obtain ⟨f1, f2⟩ := hF.step hst (by simp)
              exact g_go f1 f2
            · have hi : ¬ (fs B).is = true := hi
              rw [if_neg hi] at hst
              obtain ⟨f1, f2⟩ := hF.step hst (by simp)
              rw [List.append_nil] at f1
              exact g_go f1 f2
      · have hnil : B = [] := List.eq_nil_of_length_eq_zero (by omega)
        unfold st1
        rw [if_pos hnil]
    · rintro (v | v) hv
      · exact g_sm (fun r hr => by cases hr; exact hk _ ⟨_, _, hv.2, hv.1⟩) (fun r hr => by cases hr)
      · exact g_sm (fun r hr => by cases hr) (fun r hr => by cases hr; exact hk2 _ hv)
  rintro want ⟨Bw, paw, hrw, hwl⟩
  obtain ⟨rfl, rfl⟩ := run_end hY hrw
  generalize Y ++ (E6 ++ [120]) = A at hA hAl hrw
  refine g_i64 (by omega) (g_i64 (by omega) ?_)
  -- the program's, in pieces
  refine g_jn (fun v => v.2.2.2.2.1 = true ∧ Rl (v.1, v.2.1, v.2.2.1, v.2.2.2.1) [] false ∧ v.2.1 = false ∧ v.2.2.2.2.2 = want) (fun k hk => ?_) ?_
  · refine g_bind (g_loop (R := fun v : List Int × Bool × List Int × Int × Bool × List Ky => v.2.2.2.2.1 = true ∧ Rl (v.1, v.2.1, v.2.2.1, v.2.2.2.1) [] false ∧ v.2.1 = false ∧ v.2.2.2.2.2 = want)
      (fun s : List Int × Bool × List Int × Int × Bool × List Ky × Int => s.2.2.2.2.1 = true ∧ 0 ≤ s.2.2.2.2.2.2 ∧ s.2.2.2.2.2.2 ≤ 200000 ∧ (s.2.2.2.2.2.1.length : Int) ≤ 32 * s.2.2.2.2.2.2 ∧ ∃ Bi, Rl (s.1, s.2.1, s.2.2.1, s.2.2.2.1) Bi s.2.1 ∧ ∀ {B' pa' ks}, Run (Bi ++ A.drop s.2.2.2.2.2.2.toNat) s.2.1 B' pa' ks → Run A false B' pa' (s.2.2.2.2.2.1 ++ ks))
      (fun s => ((A.length : Int) - s.2.2.2.2.2.2).toNat) ?_ ⟨rfl, Int.le_refl _, by dsimp only; decide, by simp, [], rl0, fun r => r⟩) fun v hv => hk _ hv
    rintro ⟨h, pa, p, m, ok, got, i⟩ ⟨hok, hi0, hi1, hgl, Bi, hri, hrun⟩
    dsimp only at hok hi0 hi1 hgl hri hrun ⊢
    subst hok
    refine g_if (fun hi => ?_) fun hi => ?_
    · have e1 : (gmin ((A.length : Nat) : Int) (i + (1 + a2))).toNat - i.toNat = min (A.length - i.toNat) (1 + a2).toNat := by rw [gmin_eq]; omega
      rw [e1]
      refine g_i64 (by omega) (g_ck (by rw [gmin_eq]; omega) ?_)
      refine g_bind (g9_gives hri (b := (A.drop i.toNat).take (min (A.length - i.toNat) (1 + a2).toNat)) (byt_sub hA) (by rw [List.length_take]; omega)) ?_
      rintro ⟨ks1, st⟩ ⟨h', p', pa', m', B', e, hr', hrun', hl'⟩
      dsimp only at e hrun' hl' ⊢
      subst e
      rw [List.length_take] at hl'
      dsimp only
      refine g_ck (by omega) (g_i64 (by omega) (g_go ⟨rfl, by dsimp only; omega, by dsimp only; omega, by dsimp only; rw [List.length_append]; omega, B', hr', fun r => split_run hri.byt (drop_byt hA) hrun' hrun ?_⟩ (by dsimp only; omega)))
      rw [List.drop_drop]
      by_cases hlast : A.length ≤ (i + (1 + a2)).toNat
      · rw [List.drop_eq_nil_of_le (by omega)]
        rw [List.drop_eq_nil_of_le hlast] at r
        exact r
      · rw [show i.toNat + min (A.length - i.toNat) (1 + a2).toNat = (i + (1 + a2)).toNat by omega]
        exact r
    · have := hrun (B' := Bi) (pa' := pa) (ks := []) (by rw [List.drop_eq_nil_of_le (by omega), List.append_nil]; exact .stop hri.stops)
      rw [List.append_nil] at this
      obtain ⟨rfl, rfl, rfl⟩ := hrw.det this
      exact g_out ⟨rfl, hri, rfl, rfl⟩
  rintro ⟨h, pa, p, m, ok, got⟩ ⟨hok, hrl, hpa, hgot⟩
  dsimp only at hok hrl hpa hgot ⊢
  subst hok
  subst hpa
  rw [hgot]
  refine g_call (g10_same (by omega)) (g_if (fun _ => g_call (waits_eq hrl) (g_if (fun _ => g_call awake_true (g_some rfl)) fun h => absurd rfl h)) fun h => absurd rfl h)
theorem pastes_law {a0 : List Int} {a1 a2 : Int} (h0 : ∀ a ∈ a0, (fun a : Int => inR .u8 a) a) (h1 : inR .u16 a1) (h2 : inR .u16 a2) : Gives (g4 a0 a1 a2) fun b => b = true := pastes_gives h0 h1 h2

end Go.Proofs.YtenjkphlbdhaiaaDoor
