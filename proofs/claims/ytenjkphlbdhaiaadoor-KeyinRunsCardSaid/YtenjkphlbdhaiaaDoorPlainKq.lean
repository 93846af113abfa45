import Derived.Test.YtenjkphlbdhaiaaDoorPlainKp
import Derived.Test.YtenjkphlbdhaiaaDoorLiftD6
set_option linter.unusedVariables false
set_option linter.unusedSimpArgs false
namespace Go.Proofs.YtenjkphlbdhaiaaDoor
open Go Go.Eng

/-- bytes till some key comes: what is left, the keys, how many bytes were taken -/
inductive One : List Int → Bool → List Int → List Int → Bool → List Ky → Int → Prop
  | none (B pa) : One B pa [] B pa [] 0
  | hit {B pa c r B' pa' ks} : Run (B ++ [c]) pa B' pa' ks → ks ≠ [] → One B pa (c :: r) B' pa' ks 1
  | miss {B pa c r B1 pa1 B' pa' ks n} : Run (B ++ [c]) pa B1 pa1 [] → One B1 pa1 r B' pa' ks n → One B pa (c :: r) B' pa' ks (n + 1)
theorem One.det {B pa b B1 pa1 ks1 n1} (h : One B pa b B1 pa1 ks1 n1) : ∀ {B2 pa2 ks2 n2}, One B pa b B2 pa2 ks2 n2 → B1 = B2 ∧ pa1 = pa2 ∧ ks1 = ks2 ∧ n1 = n2 := by
  induction h with
  | none => intro _ _ _ _ h2; cases h2; exact ⟨rfl, rfl, rfl, rfl⟩
  | hit r1 hne =>
    intro _ _ _ _ h2
    cases h2 with
    | hit r2 _ => obtain ⟨rfl, rfl, rfl⟩ := r1.det r2; exact ⟨rfl, rfl, rfl, rfl⟩
    | miss r2 _ => obtain ⟨rfl, rfl, rfl⟩ := r1.det r2; exact absurd rfl hne
  | miss r1 _ ih =>
    intro _ _ _ _ h2
    cases h2 with
    | hit r2 hne => obtain ⟨rfl, rfl, rfl⟩ := r1.det r2; exact absurd rfl hne
    | miss r2 h2 => obtain ⟨rfl, rfl, _⟩ := r1.det r2; obtain ⟨rfl, rfl, rfl, rfl⟩ := ih h2; exact ⟨rfl, rfl, rfl, rfl⟩
/-- One -/
theorem g17_gives {h p : List Int} {pa0 : Bool} {m : Int} {B : List Int} {b : List Int} (hr : Rl (h, pa0, p, m) B pa0) (hb : Byt b) (hn : b.length ≤ 1000000) :
    Gives (g17 (h, pa0, p, m, true) b) fun r => ∃ h' p' pa' m' B', r.2.2 = (h', pa', p', m', true) ∧ Rl (h', pa', p', m') B' pa' ∧ One B pa0 b B' pa' r.1 r.2.1 ∧ r.1.length ≤ 32 := by
  unfold g17
  refine g_if (fun hx => absurd rfl hx) fun _ => ?_
  refine g_jn (fun v => ∃ B', Rl (v.1, v.2.1, v.2.2.1, v.2.2.2.1) B' v.2.1 ∧ One B pa0 b B' v.2.1 [] v.2.2.2.2.2) (fun k hk => ?_) ?_
  · refine g_bind (g_loop (R := fun o : (List Int × Bool × List Int × Int × List Ky × Int) ⊕ (List Int × Bool × List Int × Int × List Ky × Int) => match o with
        | .inl v => ∃ B', Rl (v.1, v.2.1, v.2.2.1, v.2.2.2.1) B' v.2.1 ∧ One B pa0 b B' v.2.1 v.2.2.2.2.1 v.2.2.2.2.2 ∧ v.2.2.2.2.1.length ≤ 32
        | .inr v => ∃ B', Rl (v.1, v.2.1, v.2.2.1, v.2.2.2.1) B' v.2.1 ∧ One B pa0 b B' v.2.1 [] v.2.2.2.2.2)
      (fun s : List Int × Bool × List Int × Int × List Ky × Int × Int => 0 ≤ s.2.2.2.2.2.2 ∧ s.2.2.2.2.2.2 ≤ b.length ∧ s.2.2.2.2.2.1 = s.2.2.2.2.2.2 ∧ ∃ Bi, Rl (s.1, s.2.1, s.2.2.1, s.2.2.2.1) Bi s.2.1 ∧ ∀ {B' pa' ks n}, One Bi s.2.1 (b.drop s.2.2.2.2.2.2.toNat) B' pa' ks n → One B pa0 b B' pa' ks (n + s.2.2.2.2.2.2))
      (fun s => ((b.length : Int) - s.2.2.2.2.2.2).toNat) ?_ ⟨Int.le_refl _, by dsimp only; omega, rfl, B, hr, fun r => by rw [Int.add_zero]; exact r⟩) ?_
    · rintro ⟨h, pa, p, m, ks0, n, i⟩ ⟨h0, h1, hni, Bi, hri, hrun⟩
      dsimp only at h0 h1 hni hri hrun ⊢
      subst hni
      refine g_if (fun hi => g_ck (by omega) ?_) fun hi => g_out ⟨Bi, hri, ?_⟩
      rotate_left
      · have := hrun (B' := Bi) (pa' := pa) (ks := []) (n := 0) (by rw [List.drop_eq_nil_of_le (by omega)]; exact .none _ _)
        rw [Int.zero_add] at this
        exact this
      have hc : 0 ≤ b.getD n.toNat 0 ∧ b.getD n.toNat 0 ≤ 255 := hb _ (getD_mem (by omega))
      rw [ns_drop h0 hi] at hrun
      generalize b.getD n.toNat 0 = c at hc hrun
      have hB' : Byt (Bi ++ [c]) := byt_app hri.byt (byt1' hc)
      refine g_jn (fun v => ∃ B1, Rl (v.1, v.2.1, v.2.2.1, v.2.2.2.1) B1 v.2.1 ∧ Run (Bi ++ [c]) pa B1 v.2.1 v.2.2.2.2 ∧ v.2.2.2.2.length ≤ 32) (fun k hk => ?_) ?_
      · cases hri with
        | pasted _ _ m hP hBy =>
          refine g_if (fun _ => ?_) fun hx => absurd rfl hx
          rw [litS]
          have hm5 := hP.m5
          have hpl := hP.len
          rw [Int.toNat_natCast, litE m hm5]
          refine g_ck (by omega) (g_if (fun hce => g_i64 (by omega) (g_if (fun hlt => ?_) fun hge => ?_)) fun hce => ?_)
          · have hP' := hP.on hce (by omega)
            exact hk _ ⟨Bi ++ [c], .pasted _ _ (m + 1) hP' hB', run_paste hP hP'.no, by dsimp only; decide⟩
          · have hm : m = 5 := by omega
            subst hm
            have e1 : (p.drop (0 : Int).toNat).take ((gmin ((p.length : Nat) : Int) 65536).toNat - (0 : Int).toNat) = p.take (min p.length 65536) := by
              rw [gmin_eq]
              show (p.drop 0).take _ = _
              rw [List.drop_zero]
              congr 1
              show (min (p.length : Int) 65536).toNat - 0 = _
              omega
            rw [e1]
            obtain ⟨s, hs, hpk⟩ := pkey_prog (p := p.take (min p.length 65536)) (fun x hx => hP.byt hBy x (List.mem_of_mem_take hx)) (by rw [List.length_take]; omega)
            refine g_ck (by rw [gmin_eq]; omega) (g_call hs (hk _ ⟨[], .typed _ _ _ (by unfold st1; rw [if_pos rfl]) (fun x hx => by cases hx) (Nat.zero_le _), ?_, by dsimp only; simp⟩))
            have := run_pasted hP hce
            rw [hpk] at this
            exact this
          · have es : bytesOf ((lit [27, 91, 50, 48, 49, 126]).extract (0 : Int).toNat m) = E6.take m := by rw [show (0 : Int).toNat = 0 from rfl, bytes_extract, litB]
            have esz : ((lit [27, 91, 50, 48, 49, 126]).extract (0 : Int).toNat m).size ≤ 6 := size_ext
            have ek := keep_eq (S := (lit [27, 91, 50, 48, 49, 126]).extract (0 : Int).toNat m) hpl
            rw [ek, es]
            generalize hS : (lit [27, 91, 50, 48, 49, 126]).extract (0 : Int).toNat m = S at esz
            have esz2 : (S.extract (0 : Int).toNat (gmax 0 (gmin (65542 - ((p.length : Nat) : Int)) (S.size : Int))).toNat).size ≤ S.size := size_ext
            have hp2 : ((p ++ E6.take m).take 65542).length ≤ 65542 := by rw [List.length_take]; omega
            refine g_ck (by omega) (g_i64 (by omega) (g_ck (by rw [gmax_eq, gmin_eq]; omega) (g_ck (by omega) (g_ck (by decide) (g_if (fun h27 => ?_) fun h27 => ?_)))))
            · have h27 : c = 27 := h27
              have hP' := hP.esc hce h27
              exact hk _ ⟨Bi ++ [c], .pasted _ _ 1 hP' hB', run_paste hP hP'.no, by dsimp only; decide⟩
            · have h27 : c ≠ 27 := h27
              have hP' := hP.off hce h27
              have eb : bytesOf (strOf [c]) = [c] := bytes_str (byt1' hc)
              have ek2 := keep_eq (S := strOf [c]) hp2
              rw [ek2, eb]
              have sz1 : (strOf [c]).size = 1 := by rw [str_size]; rfl
              generalize hp' : (p ++ E6.take m).take 65542 = p' at hp2 hP'
              have esz3 : ((strOf [c]).extract (0 : Int).toNat (gmax 0 (gmin (65542 - ((p'.length : Nat) : Int)) ((strOf [c]).size : Int))).toNat).size ≤ (strOf [c]).size := size_ext
              exact g_ck (byt1' hc) (g_i64 (by omega) (g_ck (by rw [gmax_eq, gmin_eq]; omega) (g_ck (by omega) (hk _ ⟨Bi ++ [c], .pasted _ _ 0 hP' hB', run_paste hP hP'.no, by dsimp only; decide⟩))))
        | typed _ _ _ hw hBy hpl' =>
          obtain ⟨w1, w2⟩ := typed_wait hw hBy
          refine g_if (fun hx => by cases hx) fun _ => g_ck (by omega) ?_
          refine g_jn (fun v => ∃ B' ks pa', v = (if pa' = true then ([], true, [], 0, ks) else (B', false, p, m, ks)) ∧ Run (h ++ [c]) false B' pa' ks ∧ ks.length ≤ 32 ∧ (pa' = true → B' = [])) (fun k hk => typed_gives (K := k) hB' (by rw [List.length_append]; simp; omega) (.inr ⟨_, _, rfl, w2⟩) fun B' pa' ks r1 r2 r3 => hk _ ⟨B', ks, pa', rfl, r1, by rw [List.length_append] at r2; simp at r2; omega, r3⟩) ?_
          rintro _ ⟨B', ks, pa', rfl, r1, r2, r3⟩
          cases pa' with
          | true =>
            obtain rfl := r3 rfl
            rw [if_pos (show true = true from rfl)]
            exact hk _ ⟨[], .pasted _ _ 0 .nil (fun x hx => by cases hx), r1, r2⟩
          | false =>
            rw [if_neg (show ¬ false = true by decide)]
            exact hk _ ⟨B', .typed _ _ _ r1.stops (r1.byt hB').1 hpl', r1, r2⟩
      · rintro ⟨h', pa', p', m', ks⟩ ⟨B1, hr1, hrun1, hl⟩
        dsimp only at hr1 hrun1 hl ⊢
        refine g_i64 (by omega) (g_if (fun hpos => g_out ⟨B1, hr1, ?_, hl⟩) fun hz => g_i64 (by omega) (g_go ⟨by dsimp only; omega, by dsimp only; omega, rfl, B1, hr1, fun r => ?_⟩ (by dsimp only; omega)))
        · have := hrun (.hit hrun1 (fun e => by rw [e] at hpos; exact absurd hpos (by decide)))
          rw [Int.add_comm] at this
          exact this
        · have hnil : ks = [] := List.eq_nil_of_length_eq_zero (by omega)
          subst hnil
          have := hrun (.miss hrun1 r)
          rw [show ∀ x : Int, x + 1 + n = x + (n + 1) from fun x => by omega] at this
          exact this
    · rintro (⟨h', pa', p', m', ks, n⟩ | ⟨h', pa', p', m', ks, n⟩) hv
      · obtain ⟨B1, h1, h2, h3⟩ := hv
        exact g_sm (fun r hr => by cases hr; exact g_some ⟨h', p', pa', m', B1, rfl, h1, h2, h3⟩) (fun r hr => by cases hr)
      · exact g_sm (fun r hr => by cases hr) (fun r hr => by cases hr; exact hk _ hv)
  · rintro ⟨h', pa', p', m', ks, n⟩ ⟨B1, h1, h2⟩
    exact g_some ⟨h', p', pa', m', B1, rfl, h1, h2, by dsimp only; decide⟩
/-- nothing came for a while: what waits, as keys -/
def tk (B : List Int) (pa : Bool) : List Ky :=
  if pa = true then [] else if B = [27] then [(5, ⟨#[]⟩, 0, false, false, false)] else if B = [27, 91] then [(1, lit [91], 0, true, false, false)] else if B = [27, 79] then [(1, lit [79], 0, true, false, false)] else []
def tb (B : List Int) (pa : Bool) : List Int := if pa = true then B else []
theorem isB {l : List Int} (h : Byt l) : isBytes l := h
theorem str_lit {B l : List Int} {s : ByteArray} (hs : s = strOf l) (hB : Byt B) (hl : Byt l) : (strOf B).data.toList = s.data.toList ↔ B = l := by
  rw [hs]
  exact str_eq hB hl
theorem by1 : Byt [27] := fun x hx => by simp at hx; omega
theorem by2 : Byt [27, 91] := fun x hx => by simp at hx; omega
theorem by3 : Byt [27, 79] := fun x hx => by simp at hx; omega
/-- the document's Feed -/
theorem g13_gives {B b : List Int} {pa0 : Bool} (hB : Byt B) (hb : Byt b) (hl : B.length + b.length ≤ 70307) :
    Gives (g13 (B, pa0) b) fun r => r.2.length + r.1.1.length ≤ B.length + b.length ∧ Byt r.1.1 ∧ Run (B ++ b) pa0 r.1.1 r.1.2 r.2 := by
  unfold g13
  dsimp only
  refine g_ck (by omega) (g_ck (by rw [show ([] : List Int) ++ B = B from rfl]; omega) ?_)
  rw [show ([] : List Int) ++ B = B from rfl]
  refine g_jn (fun v => v = B ++ b) (fun k hk => hk _ rfl) ?_
  rintro _ rfl
  rw [show B.length + b.length = (B ++ b).length from List.length_append.symm] at hl ⊢
  have hA : Byt (B ++ b) := byt_app hB hb
  generalize B ++ b = A at hl hA
  refine g_jn (fun v => v.2.2.length + v.1.length ≤ A.length ∧ Byt v.1 ∧ Run A pa0 v.1 v.2.1 v.2.2) (fun k2 hk2 => ?_) (fun v hv => g_some hv)
  refine g_bind (g_loop (R := fun o : (List Int × Bool × List Int × Bool × List Ky) ⊕ (List Int × Bool × List Ky) => match o with
      | .inl v => v.2.2.2.2.length + v.2.2.1.length ≤ A.length ∧ Byt v.2.2.1 ∧ Run A pa0 v.2.2.1 v.2.2.2.1 v.2.2.2.2
      | .inr v => v.2.2.length + v.1.length ≤ A.length ∧ Byt v.1 ∧ Run A pa0 v.1 v.2.1 v.2.2) (fun s : List Int × Bool × List Ky => FI A pa0 s) (fun s => s.1.length) ?_ ⟨hA, by simp, fun r => r⟩) ?_
  · rintro ⟨B, pa, out⟩ hF
    have hFl := hF.2.1
    have hFb : Byt B := hF.1
    dsimp only at hFl ⊢
    refine g_if (fun hp => ?_) fun hp => g_out ⟨by dsimp only; omega, hF.1, hF.fin ?_⟩
    · have h1 : 1 ≤ B.length := by omega
      have hne : B ≠ [] := fun e => by rw [e] at h1; exact absurd h1 (by decide)
      refine g_if (fun hpa => ?_) fun hpa => ?_
      · have hpa : pa = true := hpa
        subst hpa
        refine g_call (g25_eq hFb (by omega)) ?_
        unfold endI
        cases he : endAt B with
        | none =>
          refine g_if (fun _ => g_out ⟨by dsimp only; omega, hF.1, hF.fin ?_⟩) fun h => absurd (by decide) h
          unfold st1; rw [if_neg hne, if_pos rfl, he]; rfl
        | some j =>
          have hj := take6_len (endAt_some.1 he).1
          refine g_if (fun h => absurd h (by dsimp only; omega)) fun _ => ?_
          dsimp only
          have e1 : (B.drop (0 : Int).toNat).take ((gmin (j : Int) 65536).toNat - (0 : Int).toNat) = B.take (min j 65536) := by
            rw [gmin_eq]
            show (B.drop 0).take _ = _
            rw [List.drop_zero]
            congr 1
            show (min (j : Int) 65536).toNat - 0 = _
            omega
          have e2 : ((j : Int) + 6).toNat = j + 6 := by omega
          rw [e1, e2, take_len]
          obtain ⟨s, hs, hpk⟩ := pkey_ref (p := B.take (min j 65536)) (fun x hx => hFb x (List.mem_of_mem_take hx)) (by rw [List.length_take]; omega)
          have hst : st1 B true = some (B.drop (j + 6), false, [pkey (B.take (min j 65536))]) := by
            unfold st1; rw [if_neg hne, if_pos rfl, he]; rfl
          obtain ⟨f1, f2⟩ := hF.step hst (by simp)
          rw [hpk] at f1
          exact g_ck (by rw [gmin_eq]; omega) (g_call hs (g_ck (by omega) (g_i64 (by omega) (g_ck (by omega) (g_go f1 f2)))))
      · have hpa : pa = false := by cases pa; rfl; exact absurd rfl hpa
        subst hpa
        refine g_call (first_eq hFb (by omega) h1).1 ?_
        have hn := fs_n hFb h1
        refine g_if (fun hz => g_out ⟨by dsimp only; omega, hF.1, hF.fin ?_⟩) fun hz => ?_
        · unfold st1; rw [if_neg hne, if_neg (by decide), if_pos hz]
        · rw [take_len]
          have hst : st1 B false = some (B.drop (fs B).1.toNat, (fs B).pa, if (fs B).is = true then [(fs B).key] else []) := by
            unfold st1; rw [if_neg hne, if_neg (by decide), if_neg hz]
          refine g_ck (by omega) (g_if (fun hi => g_ck (by omega) ?_) fun hi => ?_)
          · have hi : (fs B).is = true := hi
            rw [if_pos hi] at hst
            obtain ⟨f1, f2⟩ := hF.step hst (by simp)
            exact g_go f1 f2
          · have hi : ¬ (fs B).is = true := hi
            rw [if_neg hi] at hst
            obtain ⟨f1, f2⟩ := hF.step hst (by simp)
            rw [List.append_nil] at f1
            exact g_go f1 f2
    · have hnil : B = [] := List.eq_nil_of_length_eq_zero (by omega)
      unfold st1
      rw [if_pos hnil]
  · rintro (v | v) hv
    · exact g_sm (fun r hr => by cases hr; exact g_some hv) (fun r hr => by cases hr)
    · exact g_sm (fun r hr => by cases hr) (fun r hr => by cases hr; exact hk2 _ hv)
/-- Tick -/
theorem g15_gives {h p : List Int} {pa : Bool} {m : Int} {B : List Int} (hr : Rl (h, pa, p, m) B pa) (hB : Byt B) :
    Gives (g15 (h, pa, p, m, true)) fun r => r.1 = tk B pa ∧ ∃ h', r.2 = (h', pa, p, m, true) ∧ Rl (h', pa, p, m) (tb B pa) pa := by
  unfold g15
  refine g_if (fun hx => absurd rfl hx) fun _ => ?_
  have b1 : Byt [27] := by1
  have b2 : Byt [27, 91] := by2
  have b3 : Byt [27, 79] := by3
  cases hr with
  | pasted _ _ m hP hBy => exact g_if (fun _ => g_some ⟨rfl, _, rfl, .pasted _ _ m hP hBy⟩) fun hx => absurd rfl hx
  | typed _ _ _ hw hBy hpl =>
    have e0 : Rl ([], false, p, m) [] false := .typed [] p m (by unfold st1; rw [if_pos rfl]) (fun x hx => by cases hx) hpl
    refine g_if (fun hx => by cases hx) fun _ => ?_
    dsimp only
    refine g_if (fun h0 => ?_) fun h0 => ?_
    · have hnil : h = [] := List.eq_nil_of_length_eq_zero (by omega)
      subst hnil
      exact g_some ⟨rfl, _, rfl, e0⟩
    · refine g_ck hBy (g_if (fun h1 => ?_) fun h1 => ?_)
      · have h1 := (str_lit (l := [27]) rfl hBy b1).1 h1
        subst h1
        exact g_some ⟨rfl, _, rfl, e0⟩
      · have n1 : ¬ h = [27] := fun e => h1 ((str_lit (l := [27]) rfl hBy b1).2 e)
        refine g_if (fun h2 => g_if (fun _ => ?_) fun h2' => absurd h2 h2') fun h2 => ?_
        · have h2 := (str_lit (l := [27, 91]) rfl hBy b2).1 h2
          subst h2
          exact g_ck (by decide) (g_some ⟨rfl, _, rfl, e0⟩)
        · have n2 : ¬ h = [27, 91] := fun e => h2 ((str_lit (l := [27, 91]) rfl hBy b2).2 e)
          refine g_if (fun h3 => ?_) fun h3 => ?_
          · have h3 := (str_lit (l := [27, 79]) rfl hBy b3).1 h3
            subst h3
            exact g_ck (by decide) (g_some ⟨rfl, _, rfl, e0⟩)
          · have n3 : ¬ h = [27, 79] := fun e => h3 ((str_lit (l := [27, 79]) rfl hBy b3).2 e)
            refine g_some ⟨?_, _, rfl, e0⟩
            unfold tk
            rw [if_neg (by decide), if_neg n1, if_neg n2, if_neg n3]
theorem tb_len {B : List Int} {pa : Bool} : (tb B pa).length ≤ B.length := by
  unfold tb
  split
  · exact Nat.le_refl _
  · exact Nat.zero_le _
theorem tk_len {B : List Int} {pa : Bool} : (tk B pa).length ≤ 1 := by
  unfold tk
  repeat' split
  all_goals decide
/-- the document's Tick -/
theorem g14_gives {B : List Int} {pa : Bool} (hB : Byt B) : g14 (B, pa) = some ((tb B pa, pa), tk B pa) := by
  refine g_eq ?_
  unfold g14 tk tb
  have b1 : Byt [27] := by1
  have b2 : Byt [27, 91] := by2
  have b3 : Byt [27, 79] := by3
  refine g_if (fun h => ?_) fun h => ?_
  · have h : pa = true := h
    subst h
    exact g_some rfl
  · have h : pa = false := by cases pa; rfl; exact absurd rfl h
    subst h
    dsimp only
    rw [if_neg (show ¬ (false = true) by decide), if_neg (show ¬ (false = true) by decide)]
    refine g_if (fun h0 => ?_) fun h0 => ?_
    · have hnil : B = [] := List.eq_nil_of_length_eq_zero (by omega)
      subst hnil
      exact g_some rfl
    · refine g_ck hB (g_if (fun h1 => ?_) fun h1 => ?_)
      · rw [(str_lit (l := [27]) rfl hB b1).1 h1]
        exact g_some rfl
      · have n1 : ¬ B = [27] := fun e => h1 ((str_lit (l := [27]) rfl hB b1).2 e)
        refine g_if (fun h2 => ?_) fun h2 => ?_
        · rw [(str_lit (l := [27, 91]) rfl hB b2).1 h2]
          exact g_some rfl
        · have n2 : ¬ B = [27, 91] := fun e => h2 ((str_lit (l := [27, 91]) rfl hB b2).2 e)
          refine g_if (fun h3 => ?_) fun h3 => ?_
          · rw [(str_lit (l := [27, 79]) rfl hB b3).1 h3]
            exact g_some rfl
          · have n3 : ¬ B = [27, 79] := fun e => h3 ((str_lit (l := [27, 79]) rfl hB b3).2 e)
            rw [if_neg n1, if_neg n2, if_neg n3]
            exact g_some rfl
/-- the document's One -/
theorem g16_gives {B b : List Int} {pa0 : Bool} (hB : Byt B) (hb : Byt b) (hl : B.length + b.length ≤ 70307) :
    Gives (g16 (B, pa0) b) fun r => r.1.1.length ≤ B.length + b.length ∧ Byt r.1.1 ∧ One B pa0 b r.1.1 r.1.2 r.2.1 r.2.2 := by
  unfold g16
  refine g_jn (fun v => v.1.length ≤ B.length + b.length ∧ Byt v.1 ∧ One B pa0 b v.1 v.2 [] b.length) (fun k hk => ?_) (fun v hv => g_some hv)
  refine g_bind (g_loop (R := fun o : (List Int × Bool × List Int × Bool × List Ky × Int) ⊕ (List Int × Bool) => match o with
      | .inl v => v.2.2.1.length ≤ B.length + b.length ∧ Byt v.2.2.1 ∧ One B pa0 b v.2.2.1 v.2.2.2.1 v.2.2.2.2.1 v.2.2.2.2.2
      | .inr v => v.1.length ≤ B.length + b.length ∧ Byt v.1 ∧ One B pa0 b v.1 v.2 [] b.length)
    (fun s : List Int × Bool × Int => 0 ≤ s.2.2 ∧ s.2.2 ≤ b.length ∧ (s.1.length : Int) ≤ B.length + s.2.2 ∧ Byt s.1 ∧ ∀ {B' pa' ks n}, One s.1 s.2.1 (b.drop s.2.2.toNat) B' pa' ks n → One B pa0 b B' pa' ks (n + s.2.2))
    (fun s => ((b.length : Int) - s.2.2).toNat) ?_ ⟨Int.le_refl _, by dsimp only; omega, by dsimp only; omega, hB, fun r => by rw [Int.add_zero]; exact r⟩) ?_
  · rintro ⟨Bi, pa, i⟩ ⟨h0, h1, hle, hBi, hrun⟩
    dsimp only at h0 h1 hle hBi hrun ⊢
    refine g_if (fun hi => ?_) fun hi => g_out ⟨by dsimp only; omega, hBi, ?_⟩
    rotate_left
    · have := hrun (B' := Bi) (pa' := pa) (ks := []) (n := 0) (by rw [List.drop_eq_nil_of_le (by omega)]; exact .none _ _)
      rw [Int.zero_add] at this
      rw [show (b.length : Int) = i by omega]
      exact this
    have hc : 0 ≤ b.getD i.toNat 0 ∧ b.getD i.toNat 0 ≤ 255 := hb _ (getD_mem (by omega))
    have e1 : (b.drop i.toNat).take ((i + 1).toNat - i.toNat) = [b.getD i.toNat 0] := by
      rw [ns_drop h0 hi, show (i + 1).toNat - i.toNat = 1 by omega]
      rfl
    rw [e1]
    rw [ns_drop h0 hi] at hrun
    generalize b.getD i.toNat 0 = c at hc hrun
    refine g_i64 (by omega) (g_ck (by omega) (g_bind (g13_gives hBi (byt1' hc) (by simp only [List.length_cons, List.length_nil]; omega)) ?_))
    rintro ⟨⟨B1, pa1⟩, ks⟩ ⟨r1, r2, r3⟩
    dsimp only [List.length_cons, List.length_nil] at r1 r2 r3 ⊢
    refine g_if (fun hpos => g_i64 (by omega) (g_out ⟨by dsimp only; omega, r2, ?_⟩)) fun hz => g_i64 (by omega) (g_go ⟨by dsimp only; omega, by dsimp only; omega, by dsimp only; omega, r2, fun r => ?_⟩ (by dsimp only; omega))
    · have := hrun (.hit r3 (fun e => by rw [e] at hpos; exact absurd hpos (by decide)))
      rw [Int.add_comm] at this
      exact this
    · have hnil : ks = [] := List.eq_nil_of_length_eq_zero (by omega)
      subst hnil
      have := hrun (.miss r3 r)
      rw [show ∀ x : Int, x + 1 + i = x + (i + 1) from fun x => by omega] at this
      exact this
  · rintro (v | v) hv
    · exact g_sm (fun r hr => by cases hr; exact g_some hv) (fun r hr => by cases hr)
    · exact g_sm (fun r hr => by cases hr) (fun r hr => by cases hr; exact hk _ hv)
/-- what is left waits -/
theorem Rl.wait {h p : List Int} {m : Int} {pa : Bool} {B : List Int} (hr : Rl (h, pa, p, m) B pa) : pa = false → B.length < 32 := by
  rintro rfl
  cases hr with
  | typed _ _ _ hw hBy _ => exact (typed_wait hw hBy).1
theorem Rl.lens {h p : List Int} {m : Int} {pa : Bool} {B : List Int} (hr : Rl (h, pa, p, m) B pa) : h.length ≤ B.length ∧ p.length ≤ 65542 := by
  cases hr with
  | typed _ _ _ hw hBy hpl => exact ⟨Nat.le_refl _, hpl⟩
  | pasted _ _ m hP hBy => exact ⟨Nat.zero_le _, hP.len⟩
theorem g20_eq {h p : List Int} {m : Int} {pa : Bool} : g20 (h, pa, p, m, true) = some pa := by
  unfold g20
  exact if_pos rfl
theorem runs_gives {a0 : List (Int × ((Option Addr × Nat) × List Int))} (hk : ∀ p ∈ a0, Byt p.2.2) : Gives (g5 a0) fun r => r = true := by
  unfold g5
  refine g_call awake_true (g_f (fun h => h rfl) ?_)
  refine g_jn (fun _ => True) (fun k hk' => ?_) (fun _ _ => g_some rfl)
  refine g_bind (g_loop (R := fun o : (List Int × Bool) ⊕ (List Int × Bool) => ∃ v, o = .inr v)
    (fun s : List Int × Bool × List Int × Bool × List Int × Int × Bool × Int => s.2.2.2.2.2.2.1 = true ∧ 0 ≤ s.2.2.2.2.2.2.2 ∧ s.2.2.2.2.2.2.2 ≤ 40 ∧ (s.1.length : Int) ≤ 300 * s.2.2.2.2.2.2.2 ∧ Byt s.1 ∧ s.2.2.2.1 = s.2.1 ∧ Rl (s.2.2.1, s.2.2.2.1, s.2.2.2.2.1, s.2.2.2.2.2.1) s.1 s.2.2.2.1)
    (fun s => (40 - s.2.2.2.2.2.2.2).toNat) ?_ ⟨rfl, Int.le_refl _, by dsimp only; decide, by simp, (fun x hx => by cases hx), rfl, rl0⟩) ?_
  rotate_left
  · rintro o ⟨v, rfl⟩
    exact g_sm (fun r hr => by cases hr) (fun r hr => hk' _ trivial)
  rintro ⟨rB, rpa, h, pa, p, m, ok, i⟩ ⟨hok, h0, h1, hl, hB, hpa, hr⟩
  dsimp only at hok h0 h1 hl hB hpa hr ⊢
  subst hok
  subst hpa
  refine g_if (fun hi => g_if (fun h40 => ?_) fun _ => g_out ⟨_, rfl⟩) fun _ => g_out ⟨_, rfl⟩
  have hmem : a0.getD i.toNat default ∈ a0 := getD_mem (by omega)
  have hb0 : Byt (a0.getD i.toNat default).2.2 := hk _ hmem
  generalize a0.getD i.toNat default = o at hb0
  have hbl : ((o.2.2.drop (0 : Int).toNat).take ((gmin ((o.2.2.length : Nat) : Int) 300).toNat - (0 : Int).toNat)).length ≤ 300 := by
    rw [gmin_eq, List.length_take]
    show min ((min (o.2.2.length : Int) 300).toNat - 0) _ ≤ 300
    omega
  have hb : Byt ((o.2.2.drop (0 : Int).toNat).take ((gmin ((o.2.2.length : Nat) : Int) 300).toNat - (0 : Int).toNat)) := byt_sub hb0
  refine g_ck ⟨h0, hi⟩ (g_ck (by rw [gmin_eq]; omega) ?_)
  generalize (o.2.2.drop (0 : Int).toNat).take ((gmin ((o.2.2.length : Nat) : Int) 300).toNat - (0 : Int).toNat) = b at hbl hb
  refine g_jn (fun v => v.2.2.2.2.2.2 = true ∧ (v.1.length : Int) ≤ 300 * (i + 1) ∧ Byt v.1 ∧ v.2.2.2.1 = v.2.1 ∧ Rl (v.2.2.1, v.2.2.2.1, v.2.2.2.2.1, v.2.2.2.2.2.1) v.1 v.2.2.2.1) (fun k hk2 => ?_) ?_
  · refine g_ck ⟨h0, hi⟩ ?_
    refine g_jn (fun _ => True) (fun k3 hk3 => g_if (fun _ => hk3 _ trivial) fun _ => hk3 _ trivial) fun c _ => ?_
    refine g_if (fun _ => ?_) fun _ => g_if (fun _ => ?_) fun _ => g_if (fun _ => ?_) fun _ => ?_
    · -- Feed
      refine g_bind (g13_gives hB hb (by omega)) ?_
      rintro ⟨⟨B1, pa1⟩, ks⟩ ⟨r1, r2, r3⟩
      dsimp only at r1 r2 r3 ⊢
      refine g_bind (g9_gives hr hb (by omega)) ?_
      rintro ⟨ks', st⟩ ⟨h', p', pa', m', B', e, hr', hrun', _⟩
      dsimp only at e hrun' ⊢
      subst e
      obtain ⟨rfl, rfl, rfl⟩ := r3.det hrun'
      exact g_call (g10_same (by omega)) (g_if (fun hc => absurd rfl hc) fun _ => hk2 _ ⟨rfl, by dsimp only; omega, r2, rfl, hr'⟩)
    · -- Tick
      refine g_call (g14_gives hB) (g_bind (g15_gives hr hB) ?_)
      rintro ⟨ks', st⟩ ⟨e1, h', e2, hr'⟩
      dsimp only at e1 e2 ⊢
      subst e2
      rw [e1]
      have := tb_len (B := rB) (pa := pa)
      have := tk_len (B := rB) (pa := pa)
      exact g_call (g10_same (by omega)) (g_if (fun hc => absurd rfl hc) fun _ => hk2 _ ⟨rfl, by dsimp only; omega, hr'.byt, rfl, hr'⟩)
    · -- One
      refine g_bind (g16_gives hB hb (by omega)) ?_
      rintro ⟨⟨B1, pa1⟩, ks, n⟩ ⟨r1, r2, r3⟩
      dsimp only at r1 r2 r3 ⊢
      refine g_bind (g17_gives hr hb (by omega)) ?_
      rintro ⟨ks', n', st⟩ ⟨h', p', pa', m', B', e, hr', hrun', hle⟩
      dsimp only at e hrun' hle ⊢
      subst e
      obtain ⟨rfl, rfl, rfl, rfl⟩ := r3.det hrun'
      exact g_call (g10_same (by omega)) (g_if (fun hc => absurd rfl hc) fun _ => g_if (fun hc => absurd rfl hc) fun _ => hk2 _ ⟨rfl, by dsimp only; omega, r2, rfl, hr'⟩)
    · -- Fork
      obtain ⟨l1, l2⟩ := hr.lens
      exact g_if (fun hc => absurd rfl hc) fun _ => g_ck (by omega) (g_ck (by omega) (hk2 _ ⟨rfl, by dsimp only; omega, hB, rfl, hr⟩))
  · rintro ⟨rB', rpa', h', pa', p', m', ok'⟩ ⟨hok', hl', hB', hpa', hr'⟩
    dsimp only at hok' hl' hB' hpa' hr' ⊢
    subst hok'
    subst hpa'
    refine g_call (waits_eq hr') ?_
    have hwait := hr'.wait
    have fin : Gives (some (St1.go (ρ := (List Int × Bool) ⊕ (List Int × Bool)) (rB', pa', h', pa', p', m', true, i + 1))) (rnd (fun s : List Int × Bool × List Int × Bool × List Int × Int × Bool × Int => s.2.2.2.2.2.2.1 = true ∧ 0 ≤ s.2.2.2.2.2.2.2 ∧ s.2.2.2.2.2.2.2 ≤ 40 ∧ (s.1.length : Int) ≤ 300 * s.2.2.2.2.2.2.2 ∧ Byt s.1 ∧ s.2.2.2.1 = s.2.1 ∧ Rl (s.2.2.1, s.2.2.2.1, s.2.2.2.2.1, s.2.2.2.2.2.1) s.1 s.2.2.2.1) (fun s => (40 - s.2.2.2.2.2.2.2).toNat) (40 - i).toNat (fun o => ∃ v, o = .inr v)) :=
      g_go ⟨rfl, by dsimp only; omega, by dsimp only; omega, by dsimp only; omega, hB', rfl, hr'⟩ (by dsimp only; omega)
    cases pa' with
    | true =>
      exact g_if (fun _ => g_if (fun hc => absurd (by rw [gmin_eq]; exact if_pos rfl) hc) fun _ => g_call g20_eq (g_if (fun hc => absurd Iff.rfl hc) fun _ => g_if (fun hc => absurd rfl hc) fun _ => g_i64 (by omega) fin)) fun hc => absurd rfl hc
    | false =>
      have hw := hwait rfl
      exact g_if (fun hc => by cases hc) fun _ => g_if (fun hc => absurd (if_neg (by decide)) hc) fun _ => g_call g20_eq (g_if (fun hc => absurd Iff.rfl hc) fun _ => g_if (fun _ => g_call (waits_eq hr') (g_if (fun hc => absurd hc (by rw [show wt rB' false = (rB'.length : Int) from if_neg (by decide)]; omega)) fun _ => g_i64 (by omega) fin)) fun _ => g_i64 (by omega) fin)
theorem runs_law {a0 : List (Int × ((Option Addr × Nat) × List Int))} (h : ∀ p ∈ a0, inR .u8 p.1 ∧ ∀ x ∈ p.2.2, (fun a : Int => inR .u8 a) x) : Gives (g5 a0) fun b => b = true := runs_gives fun p hp x hx => (h p hp).2 x hx

end Go.Proofs.YtenjkphlbdhaiaaDoor
