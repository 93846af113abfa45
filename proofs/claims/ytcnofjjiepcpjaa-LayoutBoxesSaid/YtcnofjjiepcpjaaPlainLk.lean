import Derived.Test.YtcnofjjiepcpjaaPlainLj
set_option linter.unusedVariables false
namespace Go.Proofs.Ytcnofjjiepcpjaa
open Go Go.Eng

/-- one side's kept parts: where they begin, and their sizes -/
theorem side_gives {β : Type} {room gap : Int} {l : List Pt} {k : List Int × List Int × Bool → Option β} {Φ : β → Prop}
    (hk : ∀ v, (v = if chk room gap l = 0 then ((kA room gap l).map (pA room gap l), (kA room gap l).map (zA room gap l), true) else ([], [], false)) → Gives (k v) Φ) :
    Gives ((g40 room gap 0 l).bind fun v2043 =>
          if ¬ v2043.2 = 0 then
            k ([], [], false)
          else
            (
              (g79 room gap l).bind fun v2046 =>
              (g78 room gap v2046 l).bind fun v2048 =>
              jn (α := _) (β := List Int × List Int) (fun k2082 =>
                  (loopO (σ := List Int × List Int × Int) (ρ := List Int × List Int) (fun s2083 =>
                      if s2083.2.2 < ((v2046.length : Nat) : Int) then
                        (
                          ck (0 ≤ s2083.2.2 ∧ s2083.2.2 < ((v2046.length : Nat) : Int)) <|
                          if (v2046.getD s2083.2.2.toNat false) = true then
                            (
                              ck (0 ≤ s2083.2.2 ∧ s2083.2.2 < ((v2043.1.length : Nat) : Int)) <|
                              ck ((s2083.1.length + 1) * 8 ≤ 140737488355328) <|
                              ck (0 ≤ s2083.2.2 ∧ s2083.2.2 < ((v2048.1.length : Nat) : Int)) <|
                              ck ((s2083.2.1.length + 1) * 8 ≤ 140737488355328) <|
                              ck (inR .i64 (s2083.2.2 + 1)) <|
                              some (.go ((s2083.1 ++ [v2043.1.getD s2083.2.2.toNat 0]), (s2083.2.1 ++ [v2048.1.getD s2083.2.2.toNat 0]), s2083.2.2 + 1))
                            )
                          else
                            (
                              ck (inR .i64 (s2083.2.2 + 1)) <|
                              some (.go (s2083.1, s2083.2.1, s2083.2.2 + 1))
                            )
                        )
                      else
                        some (.out (s2083.1, s2083.2.1))
                    ) ([], [], 0)).bind fun o2103 =>
                    k2082 (o2103.1, o2103.2)
              ) (fun v2081 =>
                k (v2081.1, v2081.2, true)
              )
            )) Φ := by
  refine g_bind g40_gives fun a ha => ?_
  by_cases h : ¬ chk room gap l = 0
  · refine g_t ?_ (hk _ (by rw [if_neg h]))
    rw [ha]; unfold plc; rw [if_neg h]; exact h
  have h : chk room gap l = 0 := by omega
  obtain ⟨c1, c2, c3⟩ := chk_ok h
  have d : Dat gap l := ⟨by omega, c2, c3⟩
  have a2 : a.2 = 0 := by rw [ha]; unfold plc; rw [if_pos h, if_pos (by omega)]
  have a1 : a.1.length = l.length := by rw [ha]; unfold plc; rw [if_pos h, if_pos (by omega)]; exact PL_len _ _ _ _ _
  have pe : ∀ i, a.1.getD i 0 = pA room gap l i := fun i => by rw [ha]; rfl
  rw [if_pos h] at hk
  have ho : (sty gap l room).length = l.length := sty_len
  refine g_f (by omega) (g_bind (g79_gives d) fun on hon => g_bind (g78_gives d (by omega) (by rw [hon]; exact ho)) fun T hT => ?_)
  subst hon
  have zl : T.1.length = l.length := by rw [hT]; exact lay_len
  have ze : ∀ i, T.1.getD i 0 = zA room gap l i := fun i => by rw [hT]; rfl
  rw [ho, zl, a1]
  clear hT ha
  refine g_jn (fun v => v = ((kA room gap l).map (pA room gap l), (kA room gap l).map (zA room gap l))) (fun k hk => ?_) fun v hv => hk _ (by rw [hv])
  refine g_bind (Ω := fun v => v = ((kA room gap l).map (pA room gap l), (kA room gap l).map (zA room gap l))) (g_loop (fun s : List Int × List Int × Int => ∃ m : Nat, s = ((kp (sty gap l room) m).map (pA room gap l), (kp (sty gap l room) m).map (zA room gap l), (m : Int)) ∧ m ≤ l.length) (fun s => ((l.length : Int) - s.2.2).toNat) ?_ ⟨0, rfl, Nat.zero_le _⟩) fun o ho => hk _ (by rw [ho])
  rintro _ ⟨m, rfl, hm⟩
  dsimp only
  simp only [Int.toNat_natCast, pe, ze]
  have kl := kp_len (sty gap l room) m
  refine g_if (fun hlt => g_ck (by omega) (g_if (fun h1 => g_ck (by omega) (g_ck (by simp only [List.length_map]; omega) (g_ck (by omega) (g_ck (by simp only [List.length_map]; omega) (g_i64 (by omega) (g_go ⟨m + 1, ?_, by omega⟩ (by dsimp only; omega))))))) fun h1 => g_i64 (by omega) (g_go ⟨m + 1, ?_, by omega⟩ (by dsimp only; omega)))) fun hge => g_out ?_
  · rw [kp_succ, if_pos (show st _ m = true from h1)]; simp
  · rw [kp_succ, if_neg (show ¬ st _ m = true from h1)]; simp
  · have : m = l.length := by omega
    subst this
    unfold kA
    rw [if_pos h]
theorem mul_in {a b : Int} (ha : 0 ≤ a ∧ a ≤ 12) (hb : 0 ≤ b ∧ b ≤ 12) : 0 ≤ a * b ∧ a * b ≤ 144 := by
  have h1 := Int.mul_nonneg ha.1 hb.1
  have h2 : a * b ≤ 12 * b := Int.mul_le_mul_of_nonneg_right ha.2 hb.1
  omega
theorem take_map_succ {α β : Type} {f : α → β} {l : List α} {k : Nat} (h : k < l.length) : (l.take (k + 1)).map f = (l.take k).map f ++ [f l[k]] := by
  rw [List.take_succ_eq_append_getElem h, List.map_append]; rfl
theorem getD_map_int {l : List Nat} {f : Nat → Int} {k : Nat} (h : k < l.length) : (l.map f).getD k 0 = f l[k] := by
  simp [List.getD_eq_getElem?_getD, h]
theorem told_gives {w h gap : Int} {rows cols : List Pt} {stop : Int} (hr : rows.length ≤ 12) (hc : cols.length ≤ 12) (hs : 0 ≤ stop) :
    Gives (g54 w h gap rows cols stop) fun r => r = ((boxes w h gap rows cols).take stop.toNat, true) := by
  unfold g54
  refine g_jn (fun v => v = ((boxes w h gap rows cols).take stop.toNat, true)) (fun k hk => ?_) fun v hv => g_some (by rw [hv])
  refine g_jn (fun v => v = if chk h 0 rows = 0 then ((kA h 0 rows).map (pA h 0 rows), (kA h 0 rows).map (zA h 0 rows), true) else ([], [], false)) (fun k hk => side_gives hk) fun u hu => ?_
  refine g_jn (fun v => v = if chk w gap cols = 0 then ((kA w gap cols).map (pA w gap cols), (kA w gap cols).map (zA w gap cols), true) else ([], [], false)) (fun k hk => side_gives hk) fun v hv => ?_
  by_cases h1 : ¬ chk h 0 rows = 0
  · rw [if_neg h1] at hu
    subst hu
    refine g_t (by simp) (hk _ ?_)
    unfold boxes kA
    rw [if_neg h1]
    simp [bxs]
  have h1 : chk h 0 rows = 0 := by omega
  rw [if_pos h1] at hu
  subst hu
  by_cases h2 : ¬ chk w gap cols = 0
  · rw [if_neg h2] at hv
    subst hv
    refine g_f (by simp) (g_t (by simp) (hk _ ?_))
    unfold boxes
    rw [show kA w gap cols = [] by unfold kA; rw [if_neg h2]]
    simp [bxs, rowB]
  have h2 : chk w gap cols = 0 := by omega
  rw [if_pos h2] at hv
  subst hv
  refine g_f (by simp) (g_f (by simp) ?_)
  have lI := kA_len (room := h) (gap := 0) (l := rows)
  have lK := kA_len (room := w) (gap := gap) (l := cols)
  unfold boxes at hk ⊢
  revert hk
  generalize kA h 0 rows = I at lI ⊢
  generalize kA w gap cols = K at lK ⊢
  generalize pA h 0 rows = P
  generalize zA h 0 rows = Z
  generalize pA w gap cols = C
  generalize zA w gap cols = W
  intro hk
  dsimp only
  simp only [List.length_map]
  have pre : ∀ i, bxs P Z C W (I.take i) K <+: bxs P Z C W I K := fun i => by
    have e := bxs_app P Z C W (I.take i) (I.drop i) K
    rw [List.take_append_drop] at e
    rw [e]
    exact List.prefix_append _ _
  let Fin : List Pt × Bool → Prop := fun o => o = ((bxs P Z C W I K).take stop.toNat, true)
  refine g_bind (Ω := fun o : (List Pt × Bool) ⊕ (List Pt × Bool) => ∃ v, (o = .inl v ∨ o = .inr v) ∧ Fin v) (g_loop (fun s : List Pt × Bool × Int => ∃ i : Nat, s = (bxs P Z C W (I.take i) K, true, (i : Int)) ∧ i ≤ I.length ∧ (bxs P Z C W (I.take i) K).length ≤ stop.toNat) (fun s => ((I.length : Int) - s.2.2).toNat) ?_ ⟨0, by simp [bxs], Nat.zero_le _, by simp [bxs]⟩) ?_
  · rintro _ ⟨i, rfl, hi, hle⟩
    dsimp only
    refine g_if (fun hlt => ?_) fun hge => g_out ⟨_, .inr rfl, ?_⟩
    rotate_left
    · have : i = I.length := by omega
      subst this
      rw [List.take_length] at hle ⊢
      exact Prod.ext (List.take_of_length_le hle).symm rfl
    have hlt : i < I.length := by omega
    simp only [Int.toNat_natCast, getD_map_int hlt]
    have eI : I.take (i + 1) = I.take i ++ [I[i]] := List.take_succ_eq_append_getElem hlt
    have eb : bxs P Z C W (I.take (i + 1)) K = bxs P Z C W (I.take i) K ++ rowB P Z C W K I[i] := by rw [eI, bxs_app]; simp [bxs]
    have lb : (bxs P Z C W (I.take i) K).length = i * K.length := by rw [bxs_len, List.length_take, Nat.min_eq_left (by omega)]
    have ib := mul_in (a := i) (b := K.length) (by omega) (by omega)
    have ib' : ((i * K.length : Nat) : Int) = (i : Int) * K.length := Int.natCast_mul _ _
    refine g_jn (fun v => v = (bxs P Z C W (I.take (i + 1)) K, true) ∧ (bxs P Z C W (I.take (i + 1)) K).length ≤ stop.toNat) (fun k2 hk2 => ?_) fun v hv => ?_
    · refine g_bind (Ω := fun o : (List Pt × Bool) ⊕ (List Pt × Bool) => (∃ v, o = .inl v ∧ Fin v) ∨ ∃ v, o = .inr v ∧ v = (bxs P Z C W (I.take (i + 1)) K, true) ∧ (bxs P Z C W (I.take (i + 1)) K).length ≤ stop.toNat)
        (g_loop (fun s : List Pt × Bool × Int => ∃ j : Nat, s = (bxs P Z C W (I.take i) K ++ rowB P Z C W (K.take j) I[i], true, (j : Int)) ∧ j ≤ K.length ∧ s.1.length ≤ stop.toNat) (fun s => ((K.length : Int) - s.2.2).toNat) ?_ ⟨0, by simp [rowB], Nat.zero_le _, hle⟩) ?_
      · rintro _ ⟨j, rfl, hj, hle2⟩
        dsimp only at hle2 ⊢
        have ls : (bxs P Z C W (I.take i) K ++ rowB P Z C W (K.take j) I[i]).length = i * K.length + j := by rw [List.length_append, lb, rowB_len, List.length_take, Nat.min_eq_left hj]
        refine g_if (fun hlt2 => ?_) fun hge2 => g_out (.inr ⟨_, rfl, ?_, ?_⟩)
        · have hlt2 : j < K.length := by omega
          simp only [Int.toNat_natCast, getD_map_int hlt2]
          refine g_ck (by omega) (g_ck (by omega) (g_ck (by omega) (g_ck (by omega) (g_i64 (by omega) (g_i64 (by omega) (g_if (fun q => g_out (.inl ⟨_, rfl, ?_⟩)) fun q => g_t trivial (g_ck (by rw [ls]; omega) (g_i64 (by omega) (g_go ⟨j + 1, ?_, by omega, ?_⟩ (by dsimp only; omega))))))))))
          · refine Prod.ext ?_ rfl
            have pf : bxs P Z C W (I.take i) K ++ rowB P Z C W (K.take j) I[i] <+: bxs P Z C W I K := by
              refine List.IsPrefix.trans ?_ (pre (i + 1))
              rw [eb]
              exact List.prefix_append_right_inj _ |>.2 (List.IsPrefix.map _ (List.take_prefix _ _))
            have e := List.prefix_iff_eq_take.1 pf
            have e2 : (bxs P Z C W (I.take i) K ++ rowB P Z C W (K.take j) I[i]).length = stop.toNat := by omega
            rw [e2] at e
            exact e
          · rw [ls]
            refine Prod.ext ?_ (Prod.ext ?_ ?_)
            · simp only [rowB, take_map_succ hlt2, List.append_assoc]
            · simp only [decide_eq_true_eq]; omega
            · simp
          · dsimp only
            rw [List.length_append, List.length_singleton]
            omega
        · have : j = K.length := by omega
          subst this
          rw [List.take_length, eb]
        · have : j = K.length := by omega
          subst this
          rw [List.take_length] at hle2
          rw [eb]
          exact hle2
      · rintro _ (⟨v, rfl, hv⟩ | ⟨v, rfl, hv⟩)
        · refine g_sm (fun w e => ?_) fun w e => by cases e
          cases e
          exact g_out ⟨_, .inl rfl, hv⟩
        · refine g_sm (fun w e => by cases e) fun w e => ?_
          cases e
          exact hk2 _ hv
    · obtain ⟨rfl, hv⟩ := hv
      exact g_i64 (by omega) (g_go ⟨i + 1, by simp, by omega, hv⟩ (by dsimp only; omega))
  · rintro _ ⟨v, rfl | rfl, hv⟩
    · exact g_sm (fun w e => by cases e; exact hk _ hv) fun w e => by cases e
    · exact g_sm (fun w e => by cases e) fun w e => by cases e; exact hk _ hv
end Go.Proofs.Ytcnofjjiepcpjaa
