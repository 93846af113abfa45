import Derived.Test.YtcnofjjiepcpjaaPlainLh
set_option linter.unusedVariables false
namespace Go.Proofs.Ytcnofjjiepcpjaa
open Go Go.Eng

theorem TN_mono {gap : Int} {l : List Pt} {on : List Bool} {sz : List Int} (d : Dat gap l) (hz : szOk l on sz) : ∀ (j i : Nat), i + j ≤ l.length → TN on sz i ≤ TN on sz (i + j)
  | 0, i, _ => Int.le_refl _
  | j + 1, i, h => by
    have := TN_mono d hz j i (by omega)
    have zi := hz.in d (i := i + j) (by omega)
    have e : i + (j + 1) = (i + j) + 1 := by omega
    rw [e, TN]
    split <;> omega
theorem CN_mono (on : List Bool) : ∀ (j i : Nat), CN on i ≤ CN on (i + j)
  | 0, i => Int.le_refl _
  | j + 1, i => by
    have := CN_mono on j i
    have e : i + (j + 1) = (i + j) + 1 := by omega
    rw [e, CN]
    split <;> omega
theorem TN_zero {on : List Bool} {sz : List Int} : ∀ k, CN on k = 0 → TN on sz k = 0
  | 0, _ => rfl
  | k + 1, h => by
    have := CN_in on k
    rw [CN] at h
    rw [TN]
    split at h
    · omega
    · rename_i e; rw [if_neg e]; exact TN_zero k h
theorem plc_len {room gap align : Int} {l : List Pt} : (plc room gap align l).1.length ≤ l.length := by
  unfold plc
  split
  · split
    · simp only [PL_len]; omega
    · simp
  · simp
theorem places_gives {room gap align : Int} {L : List Pt} (h0 : inR .i64 room) (h1 : inR .i64 gap) (h2 : inR .i64 align) (h3 : ∀ a ∈ L, inR .i64 a.1 ∧ inR .i64 a.2.1 ∧ inR .i64 a.2.2.1 ∧ inR .i64 a.2.2.2) : Gives (g10 room gap align L) fun r => r = true := by
  unfold g10
  refine g_jn (fun v => v.length ≤ 65) (fun k hk => few_gives hk) fun l hl => ?_
  refine g_bind g40_gives fun a ha => g_bind g41_gives fun b hb => ?_
  have e := ha.trans hb.symm
  subst e
  clear hb
  have hpl := plc_len (room := room) (gap := gap) (align := align) (l := l)
  rw [← ha] at hpl
  refine g_bind (g42_gives (by omega)) fun r hr => g_f (by simp [hr]) (g_f (by simp) (g_call g36_true (g_f (by simp) ?_)))
  refine g_if (fun _ => g_some rfl) fun he => ?_
  have he : a.2 = 0 := by omega
  unfold plc at ha
  have h : chk room gap l = 0 := by
    by_cases q : chk room gap l = 0
    · exact q
    · rw [if_neg q] at ha; rw [ha] at he; exact absurd he q
  rw [if_pos h] at ha
  have hal : 0 ≤ align ∧ align ≤ 2 := by
    by_cases q : 0 ≤ align ∧ align ≤ 2
    · exact q
    · rw [if_neg q] at ha; rw [ha] at he; cases he
  rw [if_pos hal] at ha
  obtain ⟨c1, c2, c3⟩ := chk_ok h
  have d : Dat gap l := ⟨by omega, c2, c3⟩
  refine g_bind g37_gives fun v hv => g_bind g38_gives fun w hw => ?_
  rw [if_pos h] at hv hw
  subst hv hw ha
  have nr := sty_nd (gap := gap) (l := l) (room := room) (by omega)
  have ho : (sty gap l room).length = l.length := sty_len
  clear he hpl hr
  generalize sty gap l room = on at nr ho ⊢
  have z := (lay_all (on := on) (left := room - nd gap l on) d (by omega)).1
  obtain ⟨o1, o2, o3⟩ := lay_over d (by omega) nr
  dsimp only
  generalize lay l on (room - nd gap l on) = T at z o1 o2 o3 ⊢
  obtain ⟨sz, ov⟩ := T
  dsimp only at z o1 o2 o3 ⊢
  have zn := z.n
  have hab : 0 ≤ at0 align ov ∧ at0 align ov ≤ ov := by unfold at0; split; omega; split <;> omega
  have ha0 : align = 0 → at0 align ov = 0 := fun e => by unfold at0; rw [if_neg (by omega), if_neg (by omega)]
  have ha1 : align = 1 → at0 align ov = ov := fun e => by unfold at0; rw [if_pos e]
  generalize at0 align ov = a at hab ha0 ha1 ⊢
  refine g_f (by simp) (g_f (by simp) (g_f (by rw [PL_len]; omega) (g_f (by rw [PL_len]; omega) ?_)))
  rw [PL_len]
  have g := d.g
  have at' : ∀ k, k ≤ l.length → 0 ≤ AT on sz gap a k ∧ AT on sz gap a k ≤ 500 + 509 * k := fun k hk => AT_in d z (by omega) k hk
  have pg : ∀ i, i < l.length → st on i = true → (PL on sz gap a l.length).getD i 0 = AT on sz gap a i := fun i hi h => by
    have := PL_get on sz gap a l.length i hi
    rw [if_pos h] at this
    exact this
  have fit : ∀ i, i < l.length → st on i = true → AT on sz gap a i + gz sz i ≤ room := fun i hi h => by
    have e := AT_eq on sz gap a i
    have t1 := TN_mono d z (l.length - (i + 1)) (i + 1) (by omega)
    have t2 := CN_mono on (l.length - (i + 1)) (i + 1)
    rw [show i + 1 + (l.length - (i + 1)) = l.length by omega] at t1 t2
    have e1 : TN on sz (i + 1) = TN on sz i + gz sz i := by rw [TN, if_pos h]
    have e2 : CN on (i + 1) = CN on i + 1 := by rw [CN, if_pos h]
    have c := CN_in on i
    have m1 : gap * CN on i ≤ gap * max 0 (CN on l.length - 1) := Int.mul_le_mul_of_nonneg_left (by omega) g.1
    omega
  generalize PL on sz gap a l.length = ps at pg ⊢
  refine g_jn (fun v => v = if CN on l.length = 0 then -1 else AT on sz gap a l.length) (fun k hk => ?_) fun v hv => ?_
  · refine g_bind (Ω := fun o => ∃ v : Int, o = .inr v ∧ v = if CN on l.length = 0 then -1 else AT on sz gap a l.length) (g_loop (fun s : Int × Int => ∃ m : Nat, s.2 = m ∧ m ≤ l.length ∧ s.1 = if CN on m = 0 then -1 else AT on sz gap a m) (fun s => ((l.length : Int) - s.2).toNat) ?_ ⟨0, rfl, Nat.zero_le _, rfl⟩) ?_
    · rintro ⟨x, _⟩ ⟨m, rfl, hm, hx⟩
      dsimp only at hx ⊢
      simp only [Int.toNat_natCast]
      refine g_if (fun h' => g_ck (by omega) ?_) fun h' => g_out ⟨_, rfl, by rw [hx, show m = l.length by omega]⟩
      have c := CN_in on m
      refine g_if (fun h1 => g_i64 (by omega) (g_go ⟨m + 1, by simp, by omega, ?_⟩ (by dsimp only; omega))) fun h1 => ?_
      · rw [hx, CN, AT, if_neg h1, if_neg h1]
      have h1 : st on m = true := by simpa using h1
      have p1 := pg m (by omega) h1
      have f1 := fit m (by omega) h1
      have am := at' m hm
      have zm := z.in d (i := m) (by omega)
      have e1 : AT on sz gap a (m + 1) = AT on sz gap a m + gz sz m + gap := by rw [AT, if_pos h1]
      have e2 : CN on (m + 1) = CN on m + 1 := by rw [CN, if_pos h1]
      simp only [gz] at f1 zm e1
      simp only [p1]
      refine g_jn (fun v => v = false) (fun k hk => ?_) fun v hv => ?_
      · have first : x < 0 → align = 0 → AT on sz gap a m = 0 := fun hx0 hal0 => by
          have hc : CN on m = 0 := by
            by_cases q : CN on m = 0
            · exact q
            · rw [if_neg q] at hx; omega
          have e := AT_eq on sz gap a m
          have q := ha0 hal0
          rw [TN_zero m hc, hc] at e
          omega
        have rest : Gives (if x < 0 then if align = 0 then ck (0 ≤ (m : Int) ∧ (m : Int) < ((l.length : Nat) : Int)) (k (decide (¬ AT on sz gap a m = 0))) else k false else k false) fun r => rnd (fun s : Int × Int => ∃ m : Nat, s.2 = m ∧ m ≤ l.length ∧ s.1 = if CN on m = 0 then -1 else AT on sz gap a m) (fun s => ((l.length : Int) - s.2).toNat) ((l.length : Int) - (x, (m : Int)).2).toNat (fun o => ∃ v : Int, o = .inr v ∧ v = if CN on l.length = 0 then -1 else AT on sz gap a l.length) r :=
          g_if (fun q1 => g_if (fun q2 => g_ck (by omega) (hk _ (by simp [first q1 q2]))) fun _ => hk _ rfl) fun _ => hk _ rfl
        refine g_if (fun hx0 => g_ck (by omega) (g_f ?_ (g_ck (by omega) (g_f (by omega) (g_ck (by omega) (g_ck (by omega) (g_i64 (by omega) (g_f (by omega) rest)))))))) fun hx0 => g_ck (by omega) (g_f (by omega) (g_ck (by omega) (g_ck (by omega) (g_i64 (by omega) (g_f (by omega) rest)))))
        rw [hx] at hx0 ⊢
        split
        · rename_i q; rw [if_pos q] at hx0; omega
        · simp
      · refine g_f (by simp [hv]) (g_ck (by omega) (g_ck (by omega) (g_i64 (by omega) (g_i64 (by omega) (g_i64 (by omega) (g_go ⟨m + 1, by simp, by omega, ?_⟩ (by dsimp only; omega)))))))
        rw [if_neg (by omega), e1]
    · rintro _ ⟨v, rfl, hv⟩
      exact g_sm (fun _ e => by cases e) fun w e => by cases e; exact hk _ hv
  · have c := CN_in on l.length
    have al' := at' l.length (Nat.le_refl _)
    by_cases q : CN on l.length = 0
    · rw [if_pos q] at hv
      subst hv
      exact g_t (by omega) (g_some rfl)
    · rw [if_neg q] at hv
      subst hv
      refine g_f (by omega) (g_if (fun _ => g_some rfl) fun ha => g_i64 (by omega) (g_some ?_))
      have ha : align = 1 := by omega
      have e := AT_eq on sz gap a l.length
      have e1 := ha1 ha
      rw [show max 0 (CN on l.length - 1) = CN on l.length - 1 by omega, Int.mul_sub] at o3
      simp only [decide_eq_true_eq]
      omega
end Go.Proofs.Ytcnofjjiepcpjaa
