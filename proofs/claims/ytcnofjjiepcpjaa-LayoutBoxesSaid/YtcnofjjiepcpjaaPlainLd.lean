import Derived.Test.YtcnofjjiepcpjaaPlainLc
set_option linter.unusedVariables false
namespace Go.Proofs.Ytcnofjjiepcpjaa
open Go Go.Eng

theorem nd_left {gap room : Int} {l : List Pt} {on : List Bool} (d : Dat gap l) (hr : 0 ≤ room ∧ room ≤ 500) : -33000 ≤ room - nd gap l on ∧ room - nd gap l on ≤ 500 := by have := nd_in (on := on) d; omega
theorem s0_loop {l : List Pt} {on : List Bool} (hn : l.length ≤ 64) (ho : on.length = l.length) {step : List Int × Int → Option (St1 (List Int × Int) (List Int))}
    (h : ∀ m, m < l.length → step (s0 l on m, (m : Int)) = some (.go (s0 l on (m + 1), (m : Int) + 1))) (h' : step (s0 l on l.length, (l.length : Int)) = some (.out (s0 l on l.length))) : Gives (loopO step ([], 0)) fun v => v = s0 l on l.length := by
  refine g_loop (fun s : List Int × Int => ∃ m : Nat, s = (s0 l on m, (m : Int)) ∧ m ≤ l.length) (fun s => ((l.length : Int) - s.2).toNat) ?_ ⟨0, rfl, Nat.zero_le _⟩
  rintro _ ⟨m, rfl, hm⟩
  by_cases e : m < l.length
  · rw [h m e]
    exact g_go ⟨m + 1, by simp, by omega⟩ (by simp; omega)
  · have : m = l.length := by omega
    subst this
    rw [h']
    exact g_out rfl
theorem ck_t {p : Prop} {_ : Decidable p} {α : Type} {e : Option α} (h : p) : ck p e = e := by unfold ck; rw [if_pos h]
theorem ck_i {n : Int} {_ : Decidable (inR .i64 n)} {α : Type} {e : Option α} (h : -9223372036854775808 ≤ n ∧ n ≤ 9223372036854775807) : ck (inR .i64 n) e = e := ck_t h
theorem g53_gives {room gap : Int} {l : List Pt} : Gives (g53 room gap l) fun r => r = if chk room gap l = 0 then ((lay l (sty gap l room) (room - nd gap l (sty gap l room))).1, 0) else ([], chk room gap l) := by
  unfold g53
  refine g_bind g52_gives fun v hv => ?_
  by_cases h : chk room gap l = 0
  · rw [if_pos h] at hv
    subst hv
    rw [if_pos h]
    obtain ⟨c1, c2, c3⟩ := chk_ok h
    have d : Dat gap l := ⟨by omega, c2, c3⟩
    have ho : (sty gap l room).length = l.length := sty_len
    generalize sty gap l room = on at ho ⊢
    dsimp only
    refine g_f (by simp) (g_jn (fun v => v = s0 l on l.length) (fun k hk => g_bind (s0_loop c2.2 ho (fun m hm => ?_) ?_) hk) fun v hv => ?_)
    · dsimp only
      rw [if_pos (by omega), ck_t (by omega)]
      simp only [Int.toNat_natCast]
      by_cases q : on.getD m false = true
      · rw [if_pos q, ck_t (by omega), ck_t (by rw [s0_len]; omega), ck_i (by omega), s0, if_pos (show st on m = true from q)]
      · rw [if_neg q, ck_t (by rw [s0_len]; omega), ck_i (by omega), s0, if_neg (show ¬ st on m = true from q)]
    · dsimp only
      rw [if_neg (by omega)]
    · subst hv
      refine g_bind (g82_gives d ho) fun w hw => ?_
      subst hw
      have b := nd_left (on := on) (gap := gap) (l := l) (room := room) d (by omega)
      refine g_i64 (by omega) (g_jn (fun v : Int × List Int => (v.2, v.1) = lay l on (room - nd gap l on)) (fun k hk => ?_) fun v hv => g_some (by rw [← hv]))
      refine g_bind (Ω := fun v : Int × List Int => (v.2, v.1) = lay l on (room - nd gap l on)) (g_loop (fun s : Int × List Int => shQ l on (room - nd gap l on) (s.2, s.1)) (fun s => s.1.toNat) ?_ (shQ_0 c3)) fun o ho => hk _ ho
      rintro ⟨left, sz⟩ hq
      have hz := hq.1
      have hle := hq.2.1
      dsimp only at hz hle ⊢
      refine g_if (fun h1 => g_bind (g94_gives d ho hz) fun v hv => ?_) fun h1 => g_out (shQ_stop hq (.inl (by dsimp only; omega)))
      subst hv
      refine g_if (fun h2 => g_out (shQ_stop hq (.inr h2))) fun h2 => ?_
      have f := nx_in l on sz l.length
      have hn := hz.n
      have i1 := hz.in d (i := (nx l on sz l.length).toNat) (by omega)
      simp only [gz] at i1
      exact g_ck (by omega) (g_i64 (by omega) (g_ck (by omega) (g_i64 (by omega) (g_go (shQ_go hq (by dsimp only; omega) h2) (by dsimp only; omega)))))
  · rw [if_neg h] at hv
    subst hv
    rw [if_neg h]
    exact g_t (by dsimp only; exact h) (g_some rfl)
theorem g78_gives {room gap : Int} {l : List Pt} {on : List Bool} (d : Dat gap l) (hr : 0 ≤ room ∧ room ≤ 500) (ho : on.length = l.length) : Gives (g78 room gap on l) fun r => r = lay l on (room - nd gap l on) := by
  unfold g78
  have hn := d.n
  refine g_bind (g92_gives d ho) fun w hw => ?_
  subst hw
  dsimp only
  have b := nd_left (on := on) (gap := gap) (l := l) (room := room) d hr
  generalize room - nd gap l on = left at b ⊢
  refine g_i64 (by omega) (g_ck (by omega) (g_jn (fun v => v = s0 l on l.length) (fun k hk => ?_) fun v hv => ?_))
  · refine g_bind (g_loop (fun s : List Int × Int => ∃ m : Nat, s.2 = m ∧ m ≤ l.length ∧ s.1.length = l.length ∧ ∀ i, i < l.length → gz s.1 i = if i < m ∧ st on i = true then (pt l i).1 else 0) (fun s => ((l.length : Int) - s.2).toNat) ?_ ⟨0, rfl, Nat.zero_le _, by simp, fun i hi => by simp [gz, List.getD_eq_getElem?_getD, hi]⟩) hk
    rintro ⟨sz, _⟩ ⟨m, rfl, hm, hl, hv⟩
    dsimp only at hl hv ⊢
    simp only [Int.toNat_natCast]
    refine g_if (fun h => g_ck (by omega) (g_ck (by omega) (g_if (fun h1 => g_ck (by omega) (g_i64 (by omega) (g_go ⟨m + 1, by simp, by omega, by simpa using hl, fun i hi => ?_⟩ (by simp; omega)))) fun h1 => g_i64 (by omega) (g_go ⟨m + 1, by simp, by omega, hl, fun i hi => ?_⟩ (by simp; omega))))) fun h => g_out ?_
    · dsimp only
      rw [gz_set (by omega)]
      by_cases e : m = i
      · subst e
        rw [if_pos rfl, if_pos ⟨by omega, h1⟩]
      · rw [if_neg e, hv i hi]
        by_cases q : i < m ∧ st on i = true
        · rw [if_pos q, if_pos ⟨by omega, q.2⟩]
        · rw [if_neg q, if_neg (fun q' => q ⟨by omega, q'.2⟩)]
    · dsimp only
      rw [hv i hi]
      by_cases q : i < m ∧ st on i = true
      · rw [if_pos q, if_pos ⟨by omega, q.2⟩]
      · rw [if_neg q, if_neg (fun q' => q ⟨by
          have : i ≠ m := fun e => by subst e; exact h1 q'.2
          omega, q'.2⟩)]
    · refine gz_ext (by rw [hl, s0_len]) fun i hi => ?_
      rw [hv i (by omega), s0_get _ _ _ _ (by omega)]
      by_cases q : st on i = true
      · rw [if_pos q, if_pos ⟨by omega, q⟩]
      · rw [if_neg q, if_neg (fun q' => q q'.2)]
  subst hv
  refine g_jn (fun v => v = lay l on left) (fun k hk => g_bind (g_loop (shQ l on left) (fun s => s.2.toNat) ?_ (shQ_0 d.o)) hk) fun v hv => g_some hv
  rintro ⟨sz, lf⟩ hq
  have hz := hq.1
  have hle := hq.2.1
  have hzn := hz.n
  dsimp only at hz hle hzn ⊢
  refine g_if (fun h1 => ?_) fun h1 => g_out (shQ_stop hq (.inl (by dsimp only; omega)))
  refine g_jo (g_jn (fun v => v = nx l on sz l.length) (fun k hk => ?_) fun v hv => ?_)
  · refine g_bind (g_loop (fun s : Int × Int => ∃ m : Nat, s = (nx l on sz m, (m : Int)) ∧ m ≤ l.length) (fun s => ((l.length : Int) - s.2).toNat) ?_ ⟨0, rfl, Nat.zero_le _⟩) hk
    rintro _ ⟨m, rfl, hm⟩
    have f := nx_in l on sz m
    simp only [Int.toNat_natCast]
    refine g_if (fun h => g_ck (by omega) (g_ck (by omega) ?_)) fun h => g_out (by rw [show m = l.length by omega])
    have i1 := hz.in d (i := m) (by omega)
    have step : ∀ v : Int, v = nx l on sz (m + 1) → Gives (some (St1.go (ρ := Int) (v, (m : Int) + 1))) (rnd (fun s : Int × Int => ∃ m : Nat, s = (nx l on sz m, (m : Int)) ∧ m ≤ l.length) (fun s => ((l.length : Int) - s.2).toNat) ((l.length : Int) - (nx l on sz m, (m : Int)).2).toNat fun v => v = nx l on sz l.length) := fun v hv =>
      g_go ⟨m + 1, by rw [hv]; simp, by omega⟩ (by simp; omega)
    refine g_if (fun h1 => g_if (fun h3 => g_i64 (by omega) (step _ ?_)) fun h3 => g_ck (by omega) (g_if (fun h2 => g_i64 (by omega) (step _ ?_)) fun h2 => g_if (fun h4 => g_i64 (by omega) (step _ ?_)) fun h4 => ?_)) fun h1 => g_i64 (by omega) (step _ ?_)
    · rw [nx, if_neg (fun e => e.1.2.1 h3)]
    · rw [nx, if_neg (fun e => by have := e.1.2.2; simp only [gz, pt] at this; omega)]
    · rw [nx, if_pos ⟨⟨h1, h3, by simp only [gz, pt]; omega⟩, .inl h4⟩]
    · have i2 := hz.in d (i := (nx l on sz m).toNat) (by omega)
      simp only [gz, pt] at i1 i2
      have b1 := mulb (a := sz.getD m 0 - (l.getD m default).1 + 1) (b := (l.getD (nx l on sz m).toNat default).2.2.1) (by omega) (by omega)
      have b2 := mulb (a := sz.getD (nx l on sz m).toNat 0 - (l.getD (nx l on sz m).toNat default).1 + 1) (b := (l.getD m default).2.2.1) (by omega) (by omega)
      refine g_ck (by omega) (g_i64 (by omega) (g_i64 (by omega) (g_ck (by omega) (g_i64 (by omega) (g_ck (by omega) (g_ck (by omega) (g_i64 (by omega) (g_i64 (by omega) (g_i64 (by omega) ?_)))))))))
      refine g_if (fun h5 => g_i64 (by omega) (step _ ?_)) fun h5 => g_i64 (by omega) (step _ ?_)
      · rw [nx, if_pos ⟨⟨h1, h3, by simp only [gz, pt]; omega⟩, .inr h5⟩]
      · rw [nx, if_neg (fun e => e.2.elim h4 h5)]
    · rw [nx, if_neg (fun e => h1 e.1.1)]
  · subst hv
    refine g_if (fun h2 => g_out (shQ_stop hq (.inr h2))) fun h2 => ?_
    have f := nx_in l on sz l.length
    have i1 := hz.in d (i := (nx l on sz l.length).toNat) (by omega)
    simp only [gz] at i1
    exact g_ck (by omega) (g_i64 (by omega) (g_ck (by omega) (g_i64 (by omega) (g_go (shQ_go hq (by dsimp only; omega) h2) (by dsimp only; omega)))))
theorem g38_gives {room gap : Int} {l : List Pt} : Gives (g38 room gap l) fun r => r = if chk room gap l = 0 then (sty gap l room, 0) else ([], chk room gap l) := by
  unfold g38
  refine g_bind g35_gives fun v hv => ?_
  subst hv
  refine g_if (fun h => g_some (by rw [if_neg h])) fun h => ?_
  have h : chk room gap l = 0 := by omega
  obtain ⟨c1, c2, c3⟩ := chk_ok h
  exact g_bind (g79_gives ⟨by omega, c2, c3⟩) fun v hv => g_some (by rw [if_pos h, hv])
theorem g37_gives {room gap : Int} {l : List Pt} : Gives (g37 room gap l) fun r => r = if chk room gap l = 0 then ((lay l (sty gap l room) (room - nd gap l (sty gap l room))).1, 0) else ([], chk room gap l) := by
  unfold g37
  refine g_bind g35_gives fun v hv => ?_
  subst hv
  refine g_if (fun h => g_some (by rw [if_neg h])) fun h => ?_
  have h : chk room gap l = 0 := by omega
  obtain ⟨c1, c2, c3⟩ := chk_ok h
  have d : Dat gap l := ⟨by omega, c2, c3⟩
  refine g_bind (g79_gives d) fun v hv => ?_
  subst hv
  exact g_bind (g78_gives d (by omega) sty_len) fun w hw => g_some (by rw [if_pos h, hw])
theorem g39_gives {a b : List Bool} (hl : a.length ≤ 1000000) : Gives (g39 a b) fun r => (a = b → r = true) ∧ (a.length = b.length → r = true → ∀ i, i < a.length → st a i = st b i) := by
  unfold g39
  refine g_if (fun h => g_some ⟨fun e => absurd (by rw [e]) h, fun _ e => by cases e⟩) fun h => ?_
  have h : (a.length : Int) = b.length := by omega
  refine g_jn (fun _ => ∀ i, i < a.length → st a i = st b i) (fun k hk => ?_) fun _ ho => g_some ⟨fun _ => rfl, fun _ _ => ho⟩
  refine g_bind (Ω := fun o => (o = .inl () ∧ a ≠ b) ∨ (o = .inr () ∧ ∀ i, i < a.length → st a i = st b i)) (g_loop (fun s : Int => ∃ m : Nat, s = m ∧ m ≤ a.length ∧ ∀ i, i < m → st a i = st b i) (fun s => ((a.length : Int) - s).toNat) ?_ ⟨0, rfl, Nat.zero_le _, fun i hi => by omega⟩) ?_
  · rintro _ ⟨m, rfl, hm, ho⟩
    simp only [Int.toNat_natCast]
    refine g_if (fun h1 => g_ck (by omega) (g_ck (by omega) (g_if (fun h2 => g_out (.inl ⟨rfl, fun e => h2 (by rw [e])⟩)) fun h2 => g_i64 (by omega) (g_go ⟨m + 1, by simp, by omega, fun i hi => ?_⟩ (by omega))))) fun h1 => g_out (.inr ⟨rfl, fun i hi => ho i (by omega)⟩)
    by_cases e : i < m
    · exact ho i e
    · have : i = m := by omega
      subst this
      simp only [Decidable.not_not] at h2
      exact Bool.eq_iff_iff.2 h2
  · rintro o (⟨rfl, hn⟩ | ⟨rfl, ho⟩)
    · exact g_sm (fun _ _ => g_some ⟨fun e => absurd e hn, fun _ e => by cases e⟩) fun _ e => by cases e
    · exact g_sm (fun _ e => by cases e) fun _ _ => hk _ ho
theorem g42_gives {a : List Int} (hl : a.length ≤ 1000000) : Gives (g42 a a) fun r => r = true := by
  unfold g42
  refine g_f (by simp) (g_jn (fun _ => True) (fun k hk => ?_) fun _ _ => g_some rfl)
  refine g_bind (Ω := fun o => o = .inr ()) (g_loop (fun s : Int => ∃ m : Nat, s = m ∧ m ≤ a.length) (fun s => ((a.length : Int) - s).toNat) ?_ ⟨0, rfl, Nat.zero_le _⟩) ?_
  · rintro _ ⟨m, rfl, hm⟩
    exact g_if (fun h1 => g_ck (by omega) (g_ck (by omega) (g_f (by simp) (g_i64 (by omega) (g_go ⟨m + 1, by simp, by omega⟩ (by omega)))))) fun h1 => g_out rfl
  · rintro _ rfl
    exact g_sm (fun _ e => by cases e) fun _ _ => hk _ trivial
theorem lay_len {l : List Pt} {on : List Bool} {left : Int} : (lay l on left).1.length = l.length := by
  have : ∀ k s, s.1.length = l.length → (shF l on k s).1.length = l.length := by
    intro k
    induction k with
    | zero => intro s h; exact h
    | succ k ih => intro s h; rw [shF]; split; exact h; exact ih _ (by simpa using h)
  exact this _ _ (s0_len _ _ _)
theorem g36_true : g36 = some true := e36_le 100 true (by kernel_rfl)
theorem few_gives {l : List Pt} {k : List Pt → Option Bool} {Φ : Bool → Prop} (h : ∀ v : List Pt, v.length ≤ 65 → Gives (k v) Φ) :
    Gives (if 65 < ((l.length : Nat) : Int) then ck (0 ≤ (0 : Int) ∧ (0 : Int) ≤ (65 : Int) ∧ (65 : Int) ≤ ((l.length : Nat) : Int)) (k ((l.drop (0 : Int).toNat).take ((65 : Int).toNat - (0 : Int).toNat))) else k l) Φ :=
  g_if (fun h' => g_ck (by omega) (h _ (by simp; omega))) fun h' => h _ (by omega)
theorem sizes_gives {room gap : Int} {L : List Pt} (h0 : inR .i64 room) (h1 : inR .i64 gap) (h2 : ∀ a ∈ L, inR .i64 a.1 ∧ inR .i64 a.2.1 ∧ inR .i64 a.2.2.1 ∧ inR .i64 a.2.2.2) : Gives (g12 room gap L) fun r => r = true := by
  unfold g12
  refine g_jn (fun v => v.length ≤ 65) (fun k hk => few_gives hk) fun l hl => ?_
  refine g_bind g50_gives fun a ha => g_bind g51_gives fun b hb => g_bind g38_gives fun c hc => g_bind g52_gives fun e he => g_bind g37_gives fun f hf => g_bind g53_gives fun g hg => ?_
  have e1 : a = b := ha.trans hb.symm
  have e2 : c = e := hc.trans he.symm
  have e3 : f = g := hf.trans hg.symm
  subst e1 e2 e3
  have l1 : c.1.length ≤ 1000000 := by rw [hc]; split; simp only [sty_len]; omega; simp
  have l2 : f.1.length ≤ 1000000 := by rw [hf]; split; simp only [lay_len]; omega; simp
  refine g_t rfl (g_t rfl (g_bind (g39_gives l1) fun r hr => g_t (hr.1 rfl) (g_t rfl (g_bind (g42_gives l2) fun r hr => g_t hr (g_t rfl (g_bind g35_gives fun u hu => g_bind g34_gives fun v hv => g_t (hu.trans hv.symm) (g_call g36_true (g_some rfl))))))))
end Go.Proofs.Ytcnofjjiepcpjaa
