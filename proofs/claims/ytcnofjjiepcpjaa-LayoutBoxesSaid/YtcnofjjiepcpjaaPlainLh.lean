import Derived.Test.YtcnofjjiepcpjaaPlainLg
set_option linter.unusedVariables false
namespace Go.Proofs.Ytcnofjjiepcpjaa
open Go Go.Eng

/-! ### where each begins -/
def AT (on : List Bool) (sz : List Int) (gap a : Int) : Nat → Int
  | 0 => a
  | k + 1 => if st on k = true then AT on sz gap a k + gz sz k + gap else AT on sz gap a k
theorem AT_eq (on : List Bool) (sz : List Int) (gap a : Int) : ∀ k, AT on sz gap a k = a + TN on sz k + gap * CN on k
  | 0 => by simp [AT, TN, CN]
  | k + 1 => by
    rw [AT, TN, CN, AT_eq on sz gap a k]
    split
    · rw [Int.mul_add]; omega
    · rfl
def PL (on : List Bool) (sz : List Int) (gap a : Int) : Nat → List Int
  | 0 => []
  | k + 1 => PL on sz gap a k ++ [if st on k = true then AT on sz gap a k else 0]
theorem PL_len (on : List Bool) (sz : List Int) (gap a : Int) : ∀ k, (PL on sz gap a k).length = k
  | 0 => rfl
  | k + 1 => by simp [PL, PL_len on sz gap a k]
theorem PL_get (on : List Bool) (sz : List Int) (gap a : Int) : ∀ k i, i < k → gz (PL on sz gap a k) i = if st on i = true then AT on sz gap a i else 0
  | 0, i, h => by omega
  | k + 1, i, h => by
    simp only [gz, PL, List.getD_eq_getElem?_getD]
    by_cases e : i < k
    · rw [List.getElem?_append_left (by rw [PL_len]; exact e)]
      have := PL_get on sz gap a k i e
      rwa [gz, List.getD_eq_getElem?_getD] at this
    · have : i = k := by omega
      subst this
      rw [List.getElem?_append_right (by rw [PL_len]; exact Nat.le_refl _), PL_len]
      simp
theorem AT_in {gap a : Int} {l : List Pt} {on : List Bool} {sz : List Int} (d : Dat gap l) (hz : szOk l on sz) (ha : 0 ≤ a ∧ a ≤ 500) : ∀ k, k ≤ l.length → 0 ≤ AT on sz gap a k ∧ AT on sz gap a k ≤ 500 + 509 * k
  | 0, _ => by simp [AT]; omega
  | k + 1, h => by
    have := AT_in d hz ha k (by omega)
    have := hz.in d (i := k) (by omega)
    have := d.g
    rw [AT]
    split <;> omega
/-- where the first begins -/
def at0 (align over : Int) : Int := if align = 1 then over else if align = 2 then over / 2 else 0
noncomputable def plc (room gap align : Int) (l : List Pt) : List Int × Int :=
  if chk room gap l = 0 then (if 0 ≤ align ∧ align ≤ 2 then
    (PL (sty gap l room) (lay l (sty gap l room) (room - nd gap l (sty gap l room))).1 gap (at0 align (lay l (sty gap l room) (room - nd gap l (sty gap l room))).2) l.length, 0) else ([], 5)) else ([], chk room gap l)
theorem lay_over {gap room : Int} {l : List Pt} {on : List Bool} (d : Dat gap l) (hr : 0 ≤ room ∧ room ≤ 500) (h : nd gap l on ≤ room) : 0 ≤ (lay l on (room - nd gap l on)).2 ∧ (lay l on (room - nd gap l on)).2 ≤ 500 ∧
    TN on (lay l on (room - nd gap l on)).1 l.length + gap * max 0 (CN on l.length - 1) + (lay l on (room - nd gap l on)).2 = room := by
  obtain ⟨z1, z2, z3, _⟩ := lay_all (on := on) (left := room - nd gap l on) d (by omega)
  have n := nd_in (on := on) d
  have e : nd gap l on = SN l on l.length + gap * max 0 (CN on l.length - 1) := rfl
  have t := TN_in d z1 l.length (Nat.le_refl _)
  have s := SN_in (on := on) d.o l.length (Nat.le_refl _)
  have c := CN_in on l.length
  have hn := d.n
  have m1 := d.mul (x := max 0 (CN on l.length - 1)) (by omega)
  omega
theorem g40_gives {room gap align : Int} {l : List Pt} : Gives (g40 room gap align l) fun r => r = plc room gap align l := by
  unfold g40 plc
  refine g_bind g35_gives fun v hv => ?_
  subst hv
  refine g_if (fun h => g_some (by rw [if_neg h])) fun h => ?_
  have h : chk room gap l = 0 := by omega
  rw [if_pos h]
  obtain ⟨c1, c2, c3⟩ := chk_ok h
  have d : Dat gap l := ⟨by omega, c2, c3⟩
  refine g_if (fun h1 => g_some (by rw [if_neg (by omega)])) fun h1 => g_if (fun h2 => g_some (by rw [if_neg (by omega)])) fun h2 => ?_
  rw [if_pos (by omega)]
  refine g_bind (g79_gives d) fun on hon => ?_
  subst hon
  have nr := sty_nd (gap := gap) (l := l) (room := room) (by omega)
  have ho : (sty gap l room).length = l.length := sty_len
  generalize sty gap l room = on at nr ho ⊢
  refine g_bind (g78_gives d (by omega) ho) fun T hT => ?_
  have z := (lay_all (on := on) (left := room - nd gap l on) d (by omega)).1
  obtain ⟨o1, o2, o3⟩ := lay_over d (by omega) nr
  rw [← hT] at z o1 o2 o3 ⊢
  clear hT
  obtain ⟨sz, ov⟩ := T
  dsimp only at z o1 o2 o3 ⊢
  have zn := z.n
  refine g_jn (fun v => v = at0 align ov) (fun k hk => ?_) fun a ha => ?_
  · unfold at0 at hk
    refine g_if (fun e => hk _ (by rw [if_pos e])) fun e => g_if (fun e' => ?_) fun e' => hk _ (by rw [if_neg e, if_neg e'])
    rw [Int.tdiv_eq_ediv_of_nonneg (by omega)]
    exact g_i64 (by omega) (hk _ (by rw [if_neg e, if_pos e']))
  have hab : 0 ≤ a ∧ a ≤ 500 := by rw [ha]; unfold at0; split; omega; split <;> omega
  rw [← ha]
  clear ha
  refine g_ck (by omega) (g_jn (fun v => v = PL on sz gap a l.length) (fun k hk => ?_) fun v hv => g_some (by rw [hv]))
  refine g_bind (g_loop (fun s : List Int × Int × Int => ∃ m : Nat, s.2.2 = m ∧ m ≤ l.length ∧ s.2.1 = AT on sz gap a m ∧ s.1.length = l.length ∧ ∀ i, i < l.length → gz s.1 i = if i < m ∧ st on i = true then AT on sz gap a i else 0) (fun s => ((l.length : Int) - s.2.2).toNat) ?_ ⟨0, rfl, Nat.zero_le _, rfl, by simp, fun i hi => by simp [gz, List.getD_eq_getElem?_getD, hi]⟩) hk
  rintro ⟨ps, _, _⟩ ⟨m, rfl, hm, rfl, hl, hv⟩
  dsimp only at hl hv ⊢
  simp only [Int.toNat_natCast]
  have am := AT_in d z hab m hm
  have g := d.g
  refine g_if (fun h => ?_) fun h => g_out ?_
  · have zi := z.in d (i := m) (by omega)
    simp only [gz] at zi
    refine g_ck (by omega) (g_ck (by omega) (g_if (fun h1 => g_ck (by omega) (g_i64 (by omega) (g_i64 (by omega) (g_i64 (by omega) (g_go ⟨m + 1, by simp, by omega, ?_, by simpa using hl, fun i hi => ?_⟩ (by dsimp only; omega)))))) fun h1 => g_i64 (by omega) (g_go ⟨m + 1, by simp, by omega, ?_, hl, fun i hi => ?_⟩ (by dsimp only; omega))))
    · rw [AT, if_pos (show st on m = true from h1)]; simp only [gz]; omega
    · dsimp only
      rw [gz_set (by omega)]
      by_cases e : m = i
      · subst e
        rw [if_pos rfl, if_pos ⟨by omega, h1⟩]
      · rw [if_neg e, hv i hi]
        by_cases q : i < m ∧ st on i = true
        · rw [if_pos q, if_pos ⟨by omega, q.2⟩]
        · rw [if_neg q, if_neg (fun q' => q ⟨by omega, q'.2⟩)]
    · rw [AT, if_neg (show ¬ st on m = true from h1)]
    · dsimp only
      rw [hv i hi]
      by_cases q : i < m ∧ st on i = true
      · rw [if_pos q, if_pos ⟨by omega, q.2⟩]
      · rw [if_neg q, if_neg (fun q' => q ⟨by
          have : i ≠ m := fun e => by subst e; exact h1 q'.2
          omega, q'.2⟩)]
  · refine gz_ext (by rw [hl, PL_len]) fun i hi => ?_
    rw [hv i (by omega), PL_get _ _ _ _ _ _ (by omega)]
    by_cases q : st on i = true
    · rw [if_pos q, if_pos ⟨by omega, q⟩]
    · rw [if_neg q, if_neg (fun q' => q q'.2)]
theorem g41_gives {room gap align : Int} {l : List Pt} : Gives (g41 room gap align l) fun r => r = plc room gap align l := by
  unfold g41 plc
  refine g_bind g52_gives fun v hv => ?_
  by_cases h : chk room gap l = 0
  · rw [if_pos h] at hv
    subst hv
    rw [if_pos h]
    obtain ⟨c1, c2, c3⟩ := chk_ok h
    have d : Dat gap l := ⟨by omega, c2, c3⟩
    have nr := sty_nd (gap := gap) (l := l) (room := room) (by omega)
    have ho : (sty gap l room).length = l.length := sty_len
    generalize sty gap l room = on at nr ho ⊢
    dsimp only
    refine g_f (by simp) (g_bind g75_gives fun b hb => ?_)
    subst hb
    refine g_if (fun h1 => g_some (by rw [if_neg (by simpa using h1)])) fun h1 => ?_
    simp only [decide_eq_true_eq, Decidable.not_not] at h1
    rw [if_pos h1]
    refine g_jn (fun v => v = s0 l on l.length) (fun k hk => g_bind (s0_loop c2.2 ho (fun m hm => ?_) ?_) hk) fun v hv => ?_
    · dsimp only
      rw [if_pos (by omega), ck_t (by omega)]
      simp only [Int.toNat_natCast]
      by_cases q : on.getD m false = true
      · rw [if_pos q, ck_t (by omega), ck_t (by rw [s0_len]; omega), ck_i (by omega), s0, if_pos (show st on m = true from q)]
      · rw [if_neg q, ck_t (by rw [s0_len]; omega), ck_i (by omega), s0, if_neg (show ¬ st on m = true from q)]
    · dsimp only
      rw [if_neg (by omega)]
    subst hv
    refine g_bind (g82_gives d ho) fun w hw => ?_
    subst hw
    have b := nd_left (on := on) (gap := gap) (l := l) (room := room) d (by omega)
    refine g_i64 (by omega) (g_jn (fun v : Int × List Int => (v.2, v.1) = lay l on (room - nd gap l on)) (fun k hk => ?_) fun v hv => ?_)
    · refine g_bind (Ω := fun v : Int × List Int => (v.2, v.1) = lay l on (room - nd gap l on)) (g_loop (fun s : Int × List Int => shQ l on (room - nd gap l on) (s.2, s.1)) (fun s => s.1.toNat) ?_ (shQ_0 c3)) fun o ho => hk _ ho
      rintro ⟨left, sz⟩ hq
      have hz := hq.1
      have hle := hq.2.1
      dsimp only at hz hle ⊢
      refine g_if (fun h1 => g_bind (g94_gives d ho hz) fun v hv => ?_) fun h1 => g_out (shQ_stop hq (.inl (by dsimp only; omega)))
      subst hv
      refine g_if (fun h2 => g_out (shQ_stop hq (.inr h2))) fun h2 => ?_
      have f := nx_in l on sz l.length
      have hn := hz.n
      have i1 := hz.in d (i := (nx l on sz l.length).toNat) (by omega)
      simp only [gz] at i1
      exact g_ck (by omega) (g_i64 (by omega) (g_ck (by omega) (g_i64 (by omega) (g_go (shQ_go hq (by dsimp only; omega) h2) (by dsimp only; omega)))))
    have z := (lay_all (on := on) (left := room - nd gap l on) d (by omega)).1
    obtain ⟨o1, o2, o3⟩ := lay_over d (by omega) nr
    rw [← hv] at z o1 o2 o3 ⊢
    clear hv
    obtain ⟨ov, sz⟩ := v
    dsimp only at z o1 o2 o3 ⊢
    have zn := z.n
    refine g_jn (fun v => v = if align = 1 then ov else 0) (fun k hk => g_if (fun e => hk _ (by rw [if_pos e])) fun e => hk _ (by rw [if_neg e])) fun u hu => ?_
    refine g_jn (fun v => v = at0 align ov) (fun k hk => ?_) fun a ha => ?_
    · unfold at0 at hk
      refine g_if (fun e => ?_) fun e => hk _ ?_
      · rw [Int.tdiv_eq_ediv_of_nonneg (by omega)]
        exact g_i64 (by omega) (hk _ (by rw [if_neg (by omega), if_pos e]))
      · rw [hu]
        by_cases e' : align = 1
        · rw [if_pos e', if_pos e']
        · rw [if_neg e', if_neg e', if_neg e]
    have hab : 0 ≤ a ∧ a ≤ 500 := by rw [ha]; unfold at0; split; omega; split <;> omega
    rw [← ha]
    clear ha hu
    refine g_jn (fun v => v = PL on sz gap a l.length) (fun k hk => ?_) fun v hv => g_some (by rw [hv])
    refine g_bind (g_loop (fun s : Int × List Int × Int => ∃ m : Nat, s = (AT on sz gap a m, PL on sz gap a m, (m : Int)) ∧ m ≤ l.length) (fun s => ((l.length : Int) - s.2.2).toNat) ?_ ⟨0, rfl, Nat.zero_le _⟩) hk
    rintro _ ⟨m, rfl, hm⟩
    dsimp only
    simp only [Int.toNat_natCast]
    have am := AT_in d z hab m hm
    have g := d.g
    refine g_if (fun h => ?_) fun h => g_out (by rw [show m = l.length by omega])
    have zi := z.in d (i := m) (by omega)
    simp only [gz] at zi
    refine g_ck (by omega) (g_if (fun h1 => g_ck (by rw [PL_len]; omega) (g_i64 (by omega) (g_go ⟨m + 1, ?_, by omega⟩ (by dsimp only; omega)))) fun h1 => g_ck (by rw [PL_len]; omega) (g_ck (by omega) (g_i64 (by omega) (g_i64 (by omega) (g_i64 (by omega) (g_go ⟨m + 1, ?_, by omega⟩ (by dsimp only; omega)))))))
    · rw [AT, PL, if_neg (show ¬ st on m = true from h1), if_neg (show ¬ st on m = true from h1)]; simp
    · have h1 : st on m = true := by simpa using h1
      rw [AT, PL, if_pos h1, if_pos h1]; simp
  · rw [if_neg h] at hv
    subst hv
    rw [if_neg h]
    exact g_t (by dsimp only; exact h) (g_some rfl)
end Go.Proofs.Ytcnofjjiepcpjaa
