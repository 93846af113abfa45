import Derived.Test.YtcnofjjiepcpjaaPlainLk
set_option linter.unusedVariables false
namespace Go.Proofs.Ytcnofjjiepcpjaa
open Go Go.Eng

theorem low_gives {β : Type} {l : List Pt} {on : List Bool} {k : List Int → Option β} {Φ : β → Prop} (hn : l.length ≤ 64) (ho : on.length = l.length) (hk : Gives (k (s0 l on l.length)) Φ) :
    Gives ((loopO (σ := List Int × Int) (ρ := List Int) (fun s189 =>
                  if s189.2 < ((l.length : Nat) : Int) then
                    (
                      ck (0 ≤ s189.2 ∧ s189.2 < ((on.length : Nat) : Int)) <|
                      if (on.getD s189.2.toNat false) = true then
                        (
                          ck (0 ≤ s189.2 ∧ s189.2 < ((l.length : Nat) : Int)) <|
                          ck ((s189.1.length + 1) * 8 ≤ 140737488355328) <|
                          ck (inR .i64 (s189.2 + 1)) <|
                          some (.go ((s189.1 ++ [(l.getD s189.2.toNat default).1]), s189.2 + 1))
                        )
                      else
                        (
                          ck ((s189.1.length + 1) * 8 ≤ 140737488355328) <|
                          ck (inR .i64 (s189.2 + 1)) <|
                          some (.go ((s189.1 ++ [0]), s189.2 + 1))
                        )
                    )
                  else
                    some (.out s189.1)
                ) ([], 0)).bind fun o207 =>
                k o207) Φ := by
  refine g_bind (s0_loop hn ho (fun m hm => ?_) ?_) fun o ho => ho ▸ hk
  · dsimp only
    rw [if_pos (by omega), ck_t (by omega)]
    simp only [Int.toNat_natCast]
    by_cases q : on.getD m false = true
    · rw [if_pos q, ck_t (by omega), ck_t (by rw [s0_len]; omega), ck_i (by omega), s0, if_pos (show st on m = true from q)]
    · rw [if_neg q, ck_t (by rw [s0_len]; omega), ck_i (by omega), s0, if_neg (show ¬ st on m = true from q)]
  · dsimp only
    rw [if_neg (by omega)]
theorem share_gives {β : Type} {gap left : Int} {l : List Pt} {on : List Bool} {k : Int × List Int → Option β} {Φ : β → Prop} (d : Dat gap l) (ho : on.length = l.length) (hb : -33000 ≤ left ∧ left ≤ 500)
    (hk : Gives (k ((lay l on left).2, (lay l on left).1)) Φ) :
    Gives ((loopO (σ := Int × List Int) (ρ := Int × List Int) (fun s250 =>
                    if 0 < s250.1 then
                      (
                        (g94 l on s250.2).bind fun v270 =>
                        if v270 < 0 then
                          some (.out (s250.1, s250.2))
                        else
                          (
                            ck (0 ≤ v270 ∧ v270 < ((s250.2.length : Nat) : Int)) <|
                            ck (inR .i64 ((s250.2.getD v270.toNat 0) + 1)) <|
                            ck (0 ≤ v270 ∧ v270 < ((s250.2.length : Nat) : Int)) <|
                            ck (inR .i64 (s250.1 - 1)) <|
                            some (.go (s250.1 - 1, (s250.2.set v270.toNat ((s250.2.getD v270.toNat 0) + 1))))
                          )
                      )
                    else
                      some (.out (s250.1, s250.2))
                  ) (left, s0 l on l.length)).bind fun o268 =>
                  k (o268.1, o268.2)) Φ := by
  refine g_bind (Ω := fun v : Int × List Int => (v.2, v.1) = lay l on left) (g_loop (fun s : Int × List Int => shQ l on left (s.2, s.1)) (fun s => s.1.toNat) ?_ (shQ_0 d.o)) fun o ho => by
    have e : o = ((lay l on left).2, (lay l on left).1) := by rw [← ho]
    rw [e]; exact hk
  rintro ⟨lf, sz⟩ hq
  have hz := hq.1
  have hle := hq.2.1
  have hn' := d.n
  dsimp only at hz hle ⊢
  refine g_if (fun h1 => g_bind (g94_gives d ho hz) fun v hv => ?_) fun h1 => g_out (shQ_stop hq (.inl (by dsimp only; omega)))
  subst hv
  refine g_if (fun h2 => g_out (shQ_stop hq (.inr h2))) fun h2 => ?_
  have f := nx_in l on sz l.length
  have hn := hz.n
  have i1 := hz.in d (i := (Ytcnofjjiepcpjaa.nx l on sz l.length).toNat) (by omega)
  simp only [gz] at i1
  exact g_ck (by omega) (g_i64 (by omega) (g_ck (by omega) (g_i64 (by omega) (g_go (shQ_go hq (by dsimp only; omega) h2) (by dsimp only; omega)))))
theorem plc_at {room gap : Int} {l : List Pt} (h : chk room gap l = 0) : (plc room gap 0 l).1.length = l.length ∧ (lay l (sty gap l room) (room - nd gap l (sty gap l room))).1.length = l.length := by
  refine ⟨?_, lay_len⟩
  unfold plc
  rw [if_pos h, if_pos (by omega)]
  exact PL_len _ _ _ _ _
theorem ref_gives {w h gap : Int} {rows cols : List Pt} (hr : rows.length ≤ 12) (hc : cols.length ≤ 12) :
    Gives (g55 w h gap rows cols) fun r => r = boxes w h gap rows cols := by
  unfold g55
  refine g_bind g34_gives fun a ha => g_if (fun h1 => g_some ?_) fun h1 => g_bind g34_gives fun b hb => g_if (fun h2 => g_some ?_) fun h2 => ?_
  · rw [ha] at h1
    unfold boxes kA; rw [if_neg h1]; simp [bxs]
  · rw [hb] at h2
    unfold boxes
    rw [show kA w gap cols = [] by unfold kA; rw [if_neg h2]]
    simp [bxs, rowB]
  have h1 : chk h 0 rows = 0 := by omega
  have h2 : chk w gap cols = 0 := by omega
  obtain ⟨c1, c2, c3⟩ := chk_ok h1
  obtain ⟨d1, d2, d3⟩ := chk_ok h2
  have d : Dat 0 rows := ⟨by omega, c2, c3⟩
  have d' : Dat gap cols := ⟨by omega, d2, d3⟩
  refine g_bind g52_gives fun up hup => g_bind g52_gives fun sd hsd => ?_
  rw [if_pos h1] at hup
  rw [if_pos h2] at hsd
  subst hup hsd
  dsimp only
  have ho : (sty 0 rows h).length = rows.length := sty_len
  have ho' : (sty gap cols w).length = cols.length := sty_len
  have b := nd_left (on := sty 0 rows h) (room := h) d (by omega)
  have b' := nd_left (on := sty gap cols w) (room := w) d' (by omega)
  refine g_jn (fun v => v = s0 rows (sty 0 rows h) rows.length) (fun k hk => low_gives c2.2 ho (hk _ rfl)) fun v hv => ?_
  subst hv
  refine g_bind (g82_gives d ho) fun n hn => ?_
  subst hn
  refine g_i64 (by omega) (g_jn (fun v => v = ((lay rows (sty 0 rows h) (h - nd 0 rows (sty 0 rows h))).2, (lay rows (sty 0 rows h) (h - nd 0 rows (sty 0 rows h))).1)) (fun k hk => share_gives d ho b (hk _ rfl)) fun v hv => ?_)
  subst hv
  refine g_jn (fun v => v = s0 cols (sty gap cols w) cols.length) (fun k hk => low_gives d2.2 ho' (hk _ rfl)) fun v hv => ?_
  subst hv
  refine g_bind (g82_gives d' ho') fun n hn => ?_
  subst hn
  refine g_i64 (by omega) (g_jn (fun v => v = ((lay cols (sty gap cols w) (w - nd gap cols (sty gap cols w))).2, (lay cols (sty gap cols w) (w - nd gap cols (sty gap cols w))).1)) (fun k hk => share_gives d' ho' b' (hk _ rfl)) fun v hv => ?_)
  subst hv
  refine g_bind g41_gives fun p hp => g_bind g41_gives fun q hq => ?_
  subst hp hq
  obtain ⟨e1, e2⟩ := plc_at h1
  obtain ⟨e3, e4⟩ := plc_at h2
  dsimp only
  simp only [e1, e2, e3, e4, ho, ho']
  have pe : ∀ i, (plc h 0 0 rows).1.getD i 0 = pA h 0 rows i := fun i => rfl
  have ze : ∀ i, (lay rows (sty 0 rows h) (h - nd 0 rows (sty 0 rows h))).1.getD i 0 = zA h 0 rows i := fun i => rfl
  have pe' : ∀ i, (plc w gap 0 cols).1.getD i 0 = pA w gap cols i := fun i => rfl
  have ze' : ∀ i, (lay cols (sty gap cols w) (w - nd gap cols (sty gap cols w))).1.getD i 0 = zA w gap cols i := fun i => rfl
  simp only [pe, ze, pe', ze']
  have kr : kA h 0 rows = kp (sty 0 rows h) rows.length := by unfold kA; rw [if_pos h1]
  have kc : kA w gap cols = kp (sty gap cols w) cols.length := by unfold kA; rw [if_pos h2]
  unfold boxes
  rw [kr, kc]
  generalize sty 0 rows h = up
  generalize sty gap cols w = sd
  generalize pA h 0 rows = P
  generalize zA h 0 rows = Z
  generalize pA w gap cols = C
  generalize zA w gap cols = W
  refine g_jn (fun v => v = bxs P Z C W (kp up rows.length) (kp sd cols.length)) (fun k hk => ?_) fun v hv => g_some hv
  refine g_bind (Ω := fun o => o = bxs P Z C W (kp up rows.length) (kp sd cols.length)) (g_loop (fun s : List Pt × Int => ∃ i : Nat, s = (bxs P Z C W (kp up i) (kp sd cols.length), (i : Int)) ∧ i ≤ rows.length) (fun s => ((rows.length : Int) - s.2).toNat) ?_ ⟨0, rfl, Nat.zero_le _⟩) fun o ho => hk _ ho
  rintro _ ⟨i, rfl, hi⟩
  dsimp only
  refine g_if (fun hlt => ?_) fun hge => g_out (by rw [show i = rows.length by omega])
  have hlt : i < rows.length := by omega
  have l1 := kp_len up i
  have lb : (bxs P Z C W (kp up i) (kp sd cols.length)).length ≤ 144 := by
    rw [bxs_len]
    exact Nat.mul_le_mul (by omega : _ ≤ 12) (by have := kp_len sd cols.length; omega : _ ≤ 12)
  refine g_jn (fun v => v = bxs P Z C W (kp up (i + 1)) (kp sd cols.length)) (fun k hk => ?_) fun v hv => ?_
  · refine g_bind (Ω := fun o => o = bxs P Z C W (kp up (i + 1)) (kp sd cols.length)) (g_loop (fun s : List Pt × Int => ∃ j : Nat, s = (bxs P Z C W (kp up i) (kp sd cols.length) ++ (if st up i = true then rowB P Z C W (kp sd j) i else []), (j : Int)) ∧ j ≤ cols.length) (fun s => ((cols.length : Int) - s.2).toNat) ?_ ⟨0, by simp [rowB, kp], Nat.zero_le _⟩) fun o ho => hk _ ho
    rintro _ ⟨j, rfl, hj⟩
    dsimp only
    refine g_if (fun hlt2 => ?_) fun hge2 => g_out ?_
    · have l2 := kp_len sd j
      simp only [Int.toNat_natCast]
      refine g_jn (fun v => v = decide (st up i = true ∧ st sd j = true)) (fun k hk => g_ck (by omega) (g_if (fun q => g_ck (by omega) (hk _ ?_)) fun q => hk _ ?_)) fun v hv => g_if (fun q => ?_) fun q => ?_
      · rw [show st up i = true from q]; simp
      · rw [show st up i = false by simpa using q]; simp
      · rw [hv] at q
        have q := of_decide_eq_true q
        refine g_ck (by omega) (g_ck (by omega) (g_ck (by omega) (g_ck (by omega) (g_ck ?_ (g_i64 (by omega) (g_go ⟨j + 1, ?_, by omega⟩ (by dsimp only; omega)))))))
        · rw [if_pos q.1, List.length_append, rowB_len]; omega
        · rw [kp_succ, if_pos q.1, if_pos q.1, if_pos q.2]
          simp [rowB]
      · rw [hv] at q
        have q : ¬ (st up i = true ∧ st sd j = true) := fun q' => q (decide_eq_true q')
        refine g_i64 (by omega) (g_go ⟨j + 1, ?_, by omega⟩ (by dsimp only; omega))
        by_cases q1 : st up i = true
        · rw [kp_succ, if_pos q1, if_pos q1, if_neg (fun q2 => q ⟨q1, q2⟩)]; simp
        · rw [if_neg q1, if_neg q1]; simp
    · rw [show j = cols.length by omega, kp_succ, bxs_app]
      congr 1
      by_cases q1 : st up i = true
      · rw [if_pos q1, if_pos q1]; simp [bxs]
      · rw [if_neg q1, if_neg q1]; simp [bxs]
  · subst hv
    exact g_i64 (by omega) (g_go ⟨i + 1, by simp, by omega⟩ (by dsimp only; omega))
theorem meet_gives {a b : Pt} {B : Int} (ha : 0 ≤ a.1 ∧ a.1 + a.2.2.1 ≤ 500 ∧ 0 ≤ a.2.1 ∧ a.2.1 + a.2.2.2 ≤ 500 ∧ 0 ≤ a.2.2.1 ∧ 0 ≤ a.2.2.2) (hb : 0 ≤ b.1 ∧ b.1 + b.2.2.1 ≤ 500 ∧ 0 ≤ b.2.1 ∧ b.2.1 + b.2.2.2 ≤ 500 ∧ 0 ≤ b.2.2.1 ∧ 0 ≤ b.2.2.2) (h : apart b a) :
    Gives (g56 a b) fun r => r = false := by
  unfold g56
  unfold apart at h
  refine g_i64 (by omega) (g_if (fun h1 => g_i64 (by omega) (g_if (fun h2 => g_i64 (by omega) (g_if (fun h3 => g_i64 (by omega) (g_some ?_)) fun _ => g_some rfl)) fun _ => g_some rfl)) fun _ => g_some rfl)
  simp only [decide_eq_false_iff_not]
  omega
theorem few12_gives {β : Type} {l : List Pt} {k : List Pt → Option β} {Φ : β → Prop} (h : ∀ v : List Pt, v.length ≤ 12 → Gives (k v) Φ) :
    Gives (if 12 < ((l.length : Nat) : Int) then ck (0 ≤ (0 : Int) ∧ (0 : Int) ≤ (12 : Int) ∧ (12 : Int) ≤ ((l.length : Nat) : Int)) (k ((l.drop (0 : Int).toNat).take ((12 : Int).toNat - (0 : Int).toNat))) else k l) Φ :=
  g_if (fun h' => g_ck (by omega) (h _ (by simp; omega))) fun h' => h _ (by omega)
theorem boxes_gives {w h gap : Int} {R C : List Pt} {stop : Int} (hs : 0 ≤ stop ∧ stop ≤ 255) : Gives (g13 w h gap R C stop) fun r => r = true := by
  unfold g13
  refine g_jn (fun v => v.length ≤ 12) (fun k hk => few12_gives hk) fun rows hr => g_jn (fun v => v.length ≤ 12) (fun k hk => few12_gives hk) fun cols hc => ?_
  refine g_bind (told_gives hr hc (by omega)) fun a ha => g_i64 (by omega) (g_bind (told_gives hr hc hs.1) fun b hb => g_bind (ref_gives hr hc) fun c hc' => ?_)
  have len : (boxes w h gap rows cols).length ≤ 144 := by
    unfold boxes
    rw [bxs_len]
    exact Nat.mul_le_mul (by have := kA_len (room := h) (gap := 0) (l := rows); omega : _ ≤ 12) (by have := kA_len (room := w) (gap := gap) (l := cols); omega : _ ≤ 12)
  rw [List.take_of_length_le (by simp; omega)] at ha
  subst ha hb hc'
  have X := ax (room := h) (gap := 0) (l := rows)
  have Y := ax (room := w) (gap := gap) (l := cols)
  have ap : (boxes w h gap rows cols).Pairwise apart := bxs_apart (kA_lt _ _ _) (kA_lt _ _ _) X.2 Y.2
  have mem : ∀ b ∈ boxes w h gap rows cols, 0 ≤ b.1 ∧ b.1 + b.2.2.1 ≤ 500 ∧ 0 ≤ b.2.1 ∧ b.2.1 + b.2.2.2 ≤ 500 ∧ 0 ≤ b.2.2.1 ∧ 0 ≤ b.2.2.2 ∧ b.1 + b.2.2.1 ≤ h ∧ b.2.1 + b.2.2.2 ≤ w := by
    intro b hb
    obtain ⟨i, hi, k, hk, rfl⟩ := bxs_mem.1 hb
    have x := X.1 i hi
    have y := Y.1 k hk
    dsimp only
    omega
  generalize boxes w h gap rows cols = L at len ap mem ⊢
  dsimp only
  refine g_f (by simp) (g_f (by simp) (g_f (by simp) (g_i64 (by omega) (g_f ?_ (g_call g36_true (g_f (by simp) ?_))))))
  · simp only [List.length_take, gmin_eq]
    omega
  refine g_jn (fun _ => True) (fun k hk => ?_) fun _ _ => g_some rfl
  refine g_bind (Ω := fun o => o = .inr ()) (g_loop (fun s : Int => ∃ i : Nat, s = i ∧ i ≤ L.length) (fun s => ((L.length : Int) - s).toNat) ?_ ⟨0, rfl, Nat.zero_le _⟩) ?_
  rotate_left
  · rintro _ rfl
    exact g_sm (fun w e => by cases e) fun w e => hk _ trivial
  rintro _ ⟨i, rfl, hi⟩
  refine g_if (fun hlt => ?_) fun hge => g_out rfl
  have hlt : i < L.length := by omega
  simp only [Int.toNat_natCast]
  have gi : L.getD i default = L[i] := by simp [List.getD_eq_getElem?_getD, hlt]
  have gt : i < (L.take stop.toNat).length → (L.take stop.toNat).getD i default = L.getD i default := fun q => by
    simp only [List.length_take] at q
    rw [List.getD_eq_getElem?_getD, List.getD_eq_getElem?_getD, List.getElem?_take_of_lt (by omega)]
  have mi := mem (L.getD i default) (by rw [gi]; exact List.getElem_mem hlt)
  refine g_jn (fun _ => True) (fun k2 hk2 => ?_) fun _ _ => g_i64 (by omega) (g_go ⟨i + 1, by simp, by omega⟩ (by omega))
  refine g_ck (by omega) (g_jn (fun v => v = false) (fun k3 hk3 => ?_) fun v hv => g_f (by simp [hv]) ?_)
  · have fin : Gives (if (L.getD i default).1 < 0 then k3 true else if (L.getD i default).2.1 < 0 then k3 true else ck (inR .i64 ((L.getD i default).1 + (L.getD i default).2.2.1)) (if h < (L.getD i default).1 + (L.getD i default).2.2.1 then k3 true else ck (inR .i64 ((L.getD i default).2.1 + (L.getD i default).2.2.2)) (k3 (decide (w < (L.getD i default).2.1 + (L.getD i default).2.2.2))))) _ :=
      g_f (by omega) (g_f (by omega) (g_i64 (by omega) (g_f (by omega) (g_i64 (by omega) (hk3 _ (by simp only [decide_eq_false_iff_not]; omega))))))
    refine g_ck (by omega) (g_f (by simp) (g_if (fun q => ?_) fun q => fin))
    have q : i < (L.take stop.toNat).length := by omega
    exact g_ck (by omega) (g_f (by rw [gt q]; simp) fin)
  · refine g_bind (Ω := fun o => o = .inr ()) (g_loop (fun s : Int => ∃ j : Nat, s = j ∧ j ≤ i) (fun s => ((i : Int) - s).toNat) ?_ ⟨0, rfl, Nat.zero_le _⟩) ?_
    rotate_left
    · rintro _ rfl
      exact g_sm (fun w e => by cases e) fun w e => hk2 _ trivial
    rintro _ ⟨j, rfl, hj⟩
    refine g_if (fun hlt2 => ?_) fun hge2 => g_out rfl
    have hlt2 : j < L.length := by omega
    simp only [Int.toNat_natCast]
    have gj : L.getD j default = L[j] := by simp [List.getD_eq_getElem?_getD, hlt2]
    have mj := mem (L.getD j default) (by rw [gj]; exact List.getElem_mem hlt2)
    refine g_ck (by omega) (g_bind (meet_gives (a := L.getD i default) (b := L.getD j default) (B := 0) (by omega) (by omega) ?_) fun v hv => g_f (by simp [hv]) (g_i64 (by omega) (g_go ⟨j + 1, by simp, by omega⟩ (by omega))))
    rw [gi, gj]
    exact List.pairwise_iff_getElem.1 ap j i hlt2 hlt (by omega)
theorem boxes_law {w h gap : Int} {R C : List Pt} {stop : Int} (h0 : inR .i64 w) (h1 : inR .i64 h) (h2 : inR .i64 gap) (h3 : ∀ a ∈ R, inR .i64 a.1 ∧ inR .i64 a.2.1 ∧ inR .i64 a.2.2.1 ∧ inR .i64 a.2.2.2) (h4 : ∀ a ∈ C, inR .i64 a.1 ∧ inR .i64 a.2.1 ∧ inR .i64 a.2.2.1 ∧ inR .i64 a.2.2.2) (h5 : inR .u8 stop) : Gives (g13 w h gap R C stop) fun r => r = true := boxes_gives h5
end Go.Proofs.Ytcnofjjiepcpjaa
