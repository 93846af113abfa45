import Derived.Test.YtcnofjjiepcpjaaPlainLe
set_option linter.unusedVariables false
namespace Go.Proofs.Ytcnofjjiepcpjaa
open Go Go.Eng

/-! ### one column more -/
theorem st_ext {a b : List Bool} (hl : a.length = b.length) (h : ∀ i, i < a.length → st a i = st b i) : a = b := by
  refine List.ext_getElem hl fun i h1 h2 => ?_
  have := h i h1
  rwa [st, st, List.getD_eq_getElem?_getD, List.getD_eq_getElem?_getD, List.getElem?_eq_getElem h1, List.getElem?_eq_getElem h2] at this
theorem st_out {on : List Bool} {i : Nat} (h : on.length ≤ i) : st on i = false := by simp [st, List.getD_eq_getElem?_getD, h]
theorem stF_sub {gap : Int} {l : List Pt} {room : Int} : ∀ (k : Nat) on i, on.length = l.length → st (stF gap l room k on) i = true → st on i = true
  | 0, on, i, _, h => h
  | k + 1, on, i, hl, h => by
    rw [stF] at h
    split at h
    · exact h
    · rename_i e
      have f := fs_in l on l.length
      have g : ¬ fs l on l.length < 0 := fun e' => e (.inl ((fs_neg l on l.length).1 e'))
      have := stF_sub k _ i (by simpa using hl) h
      rw [st_set (by omega)] at this
      split at this
      · cases this
      · exact this
theorem stF_mono {gap : Int} {l : List Pt} {room room' : Int} (hr : room ≤ room') : ∀ (k : Nat) on i, on.length = l.length → st (stF gap l room k on) i = true → st (stF gap l room' k on) i = true
  | 0, on, i, _, h => h
  | k + 1, on, i, hl, h => by
    rw [stF]
    split
    · exact stF_sub (k + 1) on i hl h
    · rename_i e
      rw [stF, if_neg (by omega)] at h
      exact stF_mono hr k _ i (by simpa using hl) h
theorem sty_mono {gap : Int} {l : List Pt} {room room' : Int} (hr : room ≤ room') {i : Nat} (h : st (sty gap l room) i = true) : st (sty gap l room') i = true := stF_mono hr _ _ i (by simp) h
theorem shF_more {l : List Pt} {on : List Bool} : ∀ (k : Nat) (sz : List Int) (left : Int), 0 ≤ left → left < k →
    (shF l on (k + 1) (sz, left + 1)).1 = (shF l on k (sz, left)).1 ∨
    (0 ≤ nx l on (shF l on k (sz, left)).1 l.length ∧ (shF l on (k + 1) (sz, left + 1)).1 = (shF l on k (sz, left)).1.set (nx l on (shF l on k (sz, left)).1 l.length).toNat (gz (shF l on k (sz, left)).1 (nx l on (shF l on k (sz, left)).1 l.length).toNat + 1))
  | 0, _, _, h, h' => by omega
  | k + 1, sz, left, h, h' => by
    by_cases hn : nx l on sz l.length < 0
    · rw [shF, if_pos (.inr hn), shF, if_pos (.inr hn)]
      exact .inl rfl
    · rw [shF, if_neg (by dsimp only; omega)]
      by_cases h0 : left = 0
      · subst h0
        rw [shF, if_pos (.inl (by dsimp only; omega)), shF.eq_def l on (k + 1), ]
        dsimp only
        rw [if_pos (.inl (by omega))]
        exact .inr ⟨by dsimp only; omega, rfl⟩
      · rw [shF.eq_def l on (k + 1) (sz, left)]
        dsimp only
        rw [if_neg (by omega)]
        have := shF_more (l := l) (on := on) k (sz.set (nx l on sz l.length).toNat (gz sz (nx l on sz l.length).toNat + 1)) (left - 1) (by omega) (by omega)
        rw [show left - 1 + 1 = left + 1 - 1 by omega] at this
        exact this
theorem lay_more {l : List Pt} {on : List Bool} {left : Int} (h : 0 ≤ left) : (lay l on (left + 1)).1 = (lay l on left).1 ∨ ∃ j, j < l.length ∧ (lay l on (left + 1)).1 = (lay l on left).1.set j (gz (lay l on left).1 j + 1) := by
  have e : (left + 1).toNat + 1 = (left.toNat + 1) + 1 := by omega
  have := shF_more (l := l) (on := on) (left.toNat + 1) (s0 l on l.length) left h (by omega)
  unfold lay
  rw [e]
  rcases this with h1 | ⟨h1, h2⟩
  · exact .inl h1
  · have := nx_in l on (shF l on (left.toNat + 1) (s0 l on l.length, left)).1 l.length
    exact .inr ⟨_, by omega, h2⟩
theorem grows_gives {room gap : Int} {L : List Pt} (h0 : inR .i64 room) (h1 : inR .i64 gap) (h2 : ∀ a ∈ L, inR .i64 a.1 ∧ inR .i64 a.2.1 ∧ inR .i64 a.2.2.1 ∧ inR .i64 a.2.2.2) : Gives (g8 room gap L) fun r => r = true := by
  unfold g8
  have fin : Gives (g36.bind fun v => some v) fun r => r = true := g_call g36_true (g_some rfl)
  refine g_jn (fun v => v.length ≤ 65) (fun k hk => few_gives hk) fun l hl => ?_
  refine g_if (fun _ => fin) fun hr => g_bind g34_gives fun a ha => ?_
  subst ha
  refine g_if (fun h => fin) fun h => ?_
  have h : chk room gap l = 0 := by omega
  obtain ⟨c1, c2, c3⟩ := chk_ok h
  have h' : chk (room + 1) gap l = 0 := chk_of (by omega) c2 c3
  have d : Dat gap l := ⟨by omega, c2, c3⟩
  refine g_bind g38_gives fun a ha => g_i64 (by omega) (g_bind g38_gives fun b hb => g_bind g37_gives fun u hu => g_i64 (by omega) (g_bind g37_gives fun v hv => ?_))
  rw [if_pos h] at ha hu
  rw [if_pos h'] at hb hv
  subst ha hb hu hv
  have nr := sty_nd (gap := gap) (l := l) (room := room) (by omega)
  have nr' := sty_nd (gap := gap) (l := l) (room := room + 1) (by omega)
  have ho : (sty gap l room).length = l.length := sty_len
  have ho' : (sty gap l (room + 1)).length = l.length := sty_len
  have sub : ∀ i, st (sty gap l room) i = true → st (sty gap l (room + 1)) i = true := fun i hi => sty_mono (by omega) hi
  dsimp only
  generalize sty gap l room = on at nr ho sub ⊢
  generalize sty gap l (room + 1) = on' at nr' ho' sub ⊢
  have more : on = on' → (lay l on' (room + 1 - nd gap l on')).1 = (lay l on (room - nd gap l on)).1 ∨ ∃ j, j < l.length ∧ (lay l on' (room + 1 - nd gap l on')).1 = (lay l on (room - nd gap l on)).1.set j (gz (lay l on (room - nd gap l on)).1 j + 1) := fun e => by
    subst e
    rw [show room + 1 - nd gap l on = room - nd gap l on + 1 by omega]
    exact lay_more (by omega)
  have z := (lay_all (on := on) (left := room - nd gap l on) d (by omega)).1
  have z' := (lay_all (on := on') (left := room + 1 - nd gap l on') d (by omega)).1
  generalize (lay l on (room - nd gap l on)).1 = sz at more z ⊢
  generalize (lay l on' (room + 1 - nd gap l on')).1 = sz' at more z' ⊢
  have zn := z.n
  have zn' := z'.n
  refine g_f (by simp) (g_f (by simp) (g_f (by simp) (g_f (by simp) (g_f (by omega) (g_f (by omega) (g_f (by omega) (g_f (by omega) ?_)))))))
  have cnt : ∃ J : Nat → Int, (∀ i, i < l.length → on = on' → gz sz' i = gz sz i + (J (i + 1) - J i)) ∧ J 0 = 0 ∧ (∀ i, J i = 0 ∨ J i = 1) ∧ (∀ i, 0 ≤ J (i + 1) - J i) := by
    by_cases e : on = on'
    · rcases more e with q | ⟨j, hj, q⟩
      · exact ⟨fun _ => 0, fun i hi _ => by rw [q]; simp, rfl, fun _ => .inl rfl, fun _ => by simp⟩
      · refine ⟨fun i => if j < i then 1 else 0, fun i hi _ => ?_, by simp, fun i => by dsimp only; split <;> simp, fun i => by dsimp only; split <;> split <;> omega⟩
        rw [q, gz_set (by omega)]
        dsimp only
        by_cases q2 : j = i
        · subst q2; rw [if_pos rfl, if_pos (by omega), if_neg (by omega)]; omega
        · rw [if_neg q2]
          split <;> split <;> omega
    · exact ⟨fun _ => 0, fun i hi e' => absurd e' e, rfl, fun _ => .inl rfl, fun _ => by simp⟩
  obtain ⟨J, j1, j2, j3, j4⟩ := cnt
  refine g_jn (fun v => v ≤ 1) (fun k hk => ?_) fun v hv => g_t hv fin
  refine g_bind (Ω := fun o => ∃ v : Int, o = .inr v ∧ v ≤ 1) (g_loop (fun s : Int × Int => ∃ m : Nat, s.2 = m ∧ m ≤ l.length ∧ s.1 = (if on = on' then J m else 0)) (fun s => ((l.length : Int) - s.2).toNat) ?_ ⟨0, rfl, Nat.zero_le _, by rw [j2]; simp⟩) ?_
  · rintro ⟨_, _⟩ ⟨m, rfl, hm, rfl⟩
    dsimp only
    simp only [Int.toNat_natCast]
    have j3m := j3 m
    have j3n := j3 (m + 1)
    have j4m := j4 m
    refine g_if (fun h' => ?_) fun h' => g_out ⟨_, rfl, by split <;> omega⟩
    refine g_jn (fun _ => True) (fun k hk => g_ck (by omega) (g_if (fun h3 => g_ck (by omega) (g_f ?_ (hk _ trivial))) fun h3 => hk _ trivial)) fun _ _ => ?_
    · exact not_not_intro (sub m h3)
    refine g_bind (g39_gives (by omega)) fun r hr => g_if (fun h3 => ?_) fun h3 => ?_
    · have e : on = on' := st_ext (by omega) (hr.2 (by omega) h3)
      have q := j1 m (by omega) e
      have zi := z.in d (i := m) (by omega)
      have zi' := z'.in d (i := m) (by omega)
      simp only [gz] at q zi zi'
      rw [if_pos e]
      refine g_ck (by omega) (g_ck (by omega) (g_if (fun h4 => g_ck (by omega) (g_ck (by omega) (g_i64 (by omega) (g_f (by omega) (g_ck (by omega) (g_i64 (by omega) (g_ck (by omega) (g_i64 (by omega) (g_i64 (by omega) (g_go ⟨m + 1, by simp, by omega, ?_⟩ (by dsimp only; omega))))))))))) fun h4 => g_ck (by omega) (g_i64 (by omega) (g_ck (by omega) (g_i64 (by omega) (g_i64 (by omega) (g_go ⟨m + 1, by simp, by omega, ?_⟩ (by dsimp only; omega))))))))
      · rw [if_pos e]; dsimp only; omega
      · rw [if_pos e]; dsimp only; omega
    · have e : on ≠ on' := fun e => h3 (hr.1 e)
      refine g_i64 (by omega) (g_go ⟨m + 1, by simp, by omega, ?_⟩ (by dsimp only; omega))
      rw [if_neg e, if_neg e]
  · rintro _ ⟨v, rfl, hv⟩
    exact g_sm (fun _ e => by cases e) fun w e => by cases e; exact hk _ hv
end Go.Proofs.Ytcnofjjiepcpjaa
