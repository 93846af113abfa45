import Derived.Test.YtenjkphlbdhaiaaPlainGB
import Derived.Test.YtenjkphlbdhaiaaLiftM4
set_option linter.unusedSimpArgs false
set_option linter.unusedVariables false
namespace Go.Proofs.Ytenjkphlbdhaiaa
open Go Go.Eng

theorem g4_gives {a0 : ByteArray} {a1 a2 a3 : Int} : Gives (g4 a0 a1 a2 a3) fun r => r = true := by
  unfold g4
  refine g_jn (fun v => v.size ≤ 200) (fun k hk => g_if (fun h => g_ck (by omega) (hk _ (Nat.le_of_eq (extract_size a0 (by omega))))) fun h => hk _ (by omega)) ?_
  intro s hs
  obtain ⟨cs, e15, hcl, hcn⟩ := g15_any s (by omega)
  refine g_call e15 ?_
  obtain ⟨b1, G1, e1, h1, l1⟩ := fill_gp hcl (by omega) a1
  refine g_call e1 (g_if (fun h => absurd rfl h) fun _ => ?_)
  obtain ⟨b2, G2, e2, h2, l2⟩ := g12_gp h1 a1
  refine g_call e2 ?_
  rw [List.append_nil] at h2
  have hline : (strs cs).take (tgt a1 ((strs cs).length + ([] : List ByteArray).length)) ++ (strs cs).drop (tgt a1 ((strs cs).length + ([] : List ByteArray).length)) = strs cs := List.take_append_drop _ _
  generalize tgt a1 ((strs cs).length + ([] : List ByteArray).length) = t0 at h2 hline
  have hsl := strs_len cs
  have his := strs_is hcl
  generalize hX2 : (strs cs).take t0 = X2 at h2 hline
  generalize hY2 : (strs cs).drop t0 = Y2 at h2 hline
  generalize strs cs = l at hline hsl his
  have hll : X2.length + Y2.length = l.length := by rw [← List.length_append, hline]
  refine g_call (g11_gp h2) (g_call (g18_gp h2) ?_)
  rw [hline, hll]
  refine g_jn (fun v => ∃ X G Y, Gp (v.1, v.2.1, v.2.2.1, v.2.2.2.1) 300 X G Y ∧ X.length + G.length + Y.length ≤ 1000 ∧ ((v.2.2.2.2 = [] ∧ X ++ Y = l) ∨ ∃ f t, f < t ∧ t ≤ l.length ∧ f = tgt a2 l.length ∧ v.2.2.2.2 = (l.drop f).take (t - f) ∧ X ++ Y = l.take f ++ l.drop t)) (fun k hk => ?_) ?_
  · have ht := tgt_le a3 (X2.length + Y2.length)
    refine del_gives h2 a2 a3 rfl rfl (fun _ => hk _ ⟨X2, G2, Y2, h2, by omega, .inl ⟨rfl, hline⟩⟩) fun b' G' X' Y' hlt h' hxy hL _ => ?_
    rw [hline] at hxy ⊢
    exact hk _ ⟨X', G', Y', h', by omega, .inr ⟨_, _, hlt, by omega, by rw [hll], rfl, hxy⟩⟩
  · rintro ⟨p1, p2, p3, p4, gone⟩ ⟨X, G, Y, h, hB, hc⟩
    dsimp only at h hc ⊢
    have hxl : X.length + Y.length + gone.length = l.length := by
      rcases hc with ⟨rfl, hxy⟩ | ⟨f, t, hlt, htl, hf, rfl, hxy⟩
      · rw [← List.length_append, hxy]; rfl
      · rw [← List.length_append, hxy, List.length_append, List.length_take, List.length_take, List.length_drop, List.length_drop]; omega
    have hp := h.pn
    refine g_call (g18_gp h) (g_i64 (by omega) (g_if (fun hc => absurd (by omega) hc) fun _ => g_call (g20_gp h) (g_i64 (by omega) (g_if (fun hc => absurd (by omega) hc) fun _ => ?_))))
    refine g_if (fun hpos => ?_) fun hpos => ?_
    · rcases hc with ⟨rfl, hxy⟩ | ⟨f, t, hlt, htl, hf, hg, hxy⟩
      · exact absurd hpos (by simp)
      · have hgl : gone.length = t - f := by rw [hg, List.length_take, List.length_drop]; omega
        obtain ⟨b5, G5, e5, h5, l5⟩ := g12_gp h (gmax 0 a2)
        have htg : tgt (gmax 0 a2) (X.length + Y.length) = f := by
          rw [gmax_eq]
          unfold tgt at hf ⊢
          omega
        rw [htg, hxy] at h5
        have i1 : (l.take f ++ l.drop t).take f = l.take f := by rw [List.take_append_of_le_length (by rw [List.length_take]; omega)]; rw [List.take_take, Nat.min_self]
        have i2 : (l.take f ++ l.drop t).drop f = l.drop t := by
          have : (l.take f).length = f := by rw [List.length_take]; omega
          conv => lhs; rw [← this]
          rw [show (l.take (l.take f).length) = l.take f by rw [this], List.drop_left]
        rw [i1, i2] at h5
        refine g_call e5 ?_
        have hlt5 : (l.take f).length = f := by rw [List.length_take]; omega
        have hld5 : (l.drop t).length = l.length - t := List.length_drop
        obtain ⟨b6, G6, e6, h6, l6⟩ := g21_gp h5 (A := gone) (fun c hc => his c (by
          rw [hg] at hc
          exact List.mem_of_mem_drop (List.mem_of_mem_take hc))) (by rw [hlt5, hld5]; omega) (by rw [hlt5, hld5]; omega)
        refine g_call e6 (g_if (fun hc => absurd rfl hc) fun _ => g_call (g11_gp h6) ?_)
        have hfin : l.take f ++ gone ++ l.drop t = l := by
          rw [hg]
          have i3 : l.drop t = (l.drop f).drop (t - f) := by rw [List.drop_drop]; congr 1; omega
          rw [i3, List.append_assoc, List.take_append_drop, List.take_append_drop]
        rw [hfin]
        refine g_call (g14_same (by omega)) (g_if (fun _ => g_call (g18_gp h6) (g_if (fun _ => g_call awake_true (g_some rfl)) fun hc => absurd ?_ hc)) fun hc => absurd rfl hc)
        rw [List.length_append, hlt5, hld5]
        omega
    · have hg0 : gone = [] := List.eq_nil_of_length_eq_zero (by omega)
      have hxy : X ++ Y = l := by
        rcases hc with ⟨_, hxy⟩ | ⟨f, t, hlt, htl, hf, hg, hxy⟩
        · exact hxy
        · have hgl : gone.length = t - f := by rw [hg, List.length_take, List.length_drop]; omega
          omega
      refine g_call (g11_gp h) ?_
      rw [hxy]
      subst hg0
      have hxl : X.length + Y.length = l.length := by simpa using hxl
      exact g_call (g14_same (by omega)) (g_if (fun _ => g_call (g18_gp h) (g_if (fun _ => g_call awake_true (g_some rfl)) fun hc => absurd (by omega) hc)) fun hc => absurd rfl hc)
theorem gapThere_law {a0 : ByteArray} {a1 a2 a3 : Int} (h0 : a0.size ≤ maxLen) (h1 : inR .i64 a1) (h2 : inR .i64 a2) (h3 : inR .i64 a3) : Gives (g4 a0 a1 a2 a3) fun b => b = true := g4_gives

end Go.Proofs.Ytenjkphlbdhaiaa
