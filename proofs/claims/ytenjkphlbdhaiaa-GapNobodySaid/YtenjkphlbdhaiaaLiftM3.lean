/-
  Functions of the program, lifted: each with its walk. Printed by lift.py.
  Nothing here is trusted.
-/
import Derived.Test.YtenjkphlbdhaiaaLiftA
set_option linter.unusedVariables false
set_option linter.unusedSimpArgs false
namespace Go.Proofs.Ytenjkphlbdhaiaa
open Go Go.Eng

theorem mo1_LiftM3 {p q : Prop} (k : q) (h : p := by first | exact rfl | exact Iff.rfl | exact ⟨rfl, rfl⟩ | exact decide_eq_true_iff | (constructor <;> first | exact rfl | (simp only [ei, eb, es, ec, c135, gmin, gmax, List.map_append, List.flatMap_append, List.nil_append, List.append_nil, List.append_assoc]; done) | omega | (simp only [List.nil_append, List.length_append, List.length_cons, List.length_nil]; omega) | (simp [ei, eb, es, ec, c135, gmin, gmax]; done)) | exact rfl | (simp only [ei, eb, es, ec, c135, gmin, gmax, List.map_append, List.flatMap_append, List.nil_append, List.append_nil, List.append_assoc]; done) | omega | (simp only [List.nil_append, List.length_append, List.length_cons, List.length_nil]; omega) | (simp [ei, eb, es, ec, c135, gmin, gmax]; done) | simp [ei, eb, es, ec, c135, gmin, gmax]) : Ob p ∧ q := ⟨⟨h⟩, k⟩
theorem mf1_LiftM3 {p q : Prop} (k : q) (h : p := by first | (rw [← hfin] <;> first | exact rfl | exact Iff.rfl | exact ⟨rfl, rfl⟩ | exact decide_eq_true_iff | (constructor <;> first | exact rfl | (simp only [ei, eb, es, ec, c135, gmin, gmax, List.map_append, List.flatMap_append, List.nil_append, List.append_nil, List.append_assoc]; done) | omega | (simp only [List.nil_append, List.length_append, List.length_cons, List.length_nil]; omega) | (simp [ei, eb, es, ec, c135, gmin, gmax]; done)) | exact rfl | (simp only [ei, eb, es, ec, c135, gmin, gmax, List.map_append, List.flatMap_append, List.nil_append, List.append_nil, List.append_assoc]; done) | omega | (simp only [List.nil_append, List.length_append, List.length_cons, List.length_nil]; omega) | (simp [ei, eb, es, ec, c135, gmin, gmax]; done) | simp [ei, eb, es, ec, c135, gmin, gmax]) | first | exact rfl | exact Iff.rfl | exact ⟨rfl, rfl⟩ | exact decide_eq_true_iff | (constructor <;> first | exact rfl | (simp only [ei, eb, es, ec, c135, gmin, gmax, List.map_append, List.flatMap_append, List.nil_append, List.append_nil, List.append_assoc]; done) | omega | (simp only [List.nil_append, List.length_append, List.length_cons, List.length_nil]; omega) | (simp [ei, eb, es, ec, c135, gmin, gmax]; done)) | exact rfl | (simp only [ei, eb, es, ec, c135, gmin, gmax, List.map_append, List.flatMap_append, List.nil_append, List.append_nil, List.append_assoc]; done) | omega | (simp only [List.nil_append, List.length_append, List.length_cons, List.length_nil]; omega) | (simp [ei, eb, es, ec, c135, gmin, gmax]; done) | simp [ei, eb, es, ec, c135, gmin, gmax]) : Ob p ∧ q := ⟨⟨h⟩, k⟩
/-- placard/placardlaw12.GapMoves -/
noncomputable def g3 (a0 : ByteArray) (a1 : Int) (a2 : List Int) : Option (Bool) :=
  jn (α := _) (β := ByteArray) (fun k6 =>
      if 200 < (a0.size : Int) then
        (
          ck (0 ≤ (0 : Int) ∧ (0 : Int) ≤ (200 : Int) ∧ (200 : Int) ≤ (a0.size : Int)) <|
          k6 (a0.extract (0 : Int).toNat (200 : Int).toNat)
        )
      else
        k6 a0
  ) (fun v5 =>
    (g15 v5).bind fun v18 =>
    (g21 (300, [], 0, 0) v18).bind fun v20 =>
    if ¬ v20.1 = 0 then
      some false
    else
      (
        (g12 (v20.2.1, v20.2.2.1, v20.2.2.2.1, v20.2.2.2.2) a1).bind fun v23 =>
        (g11 (v23.2.1, v23.2.2.1, v23.2.2.2.1, v23.2.2.2.2)).bind fun v25 =>
        jn (α := _) (β := Int × List ByteArray × Int × Int) (fun k106 =>
            (loopO (σ := Int × List ByteArray × Int × Int × Int) (ρ := (Int × List ByteArray × Int × Int) ⊕ (Int × List ByteArray × Int × Int)) (fun s109 =>
                if s109.2.2.2.2 < ((a2.length : Nat) : Int) then
                  (
                    if s109.2.2.2.2 < 40 then
                      (
                        ck (0 ≤ s109.2.2.2.2 ∧ s109.2.2.2.2 < ((a2.length : Nat) : Int)) <|
                        (g12 (s109.1, s109.2.1, s109.2.2.1, s109.2.2.2.1) (a2.getD s109.2.2.2.2.toNat 0)).bind fun v146 =>
                        (g13 (v146.2.1, v146.2.2.1, v146.2.2.2.1, v146.2.2.2.2)).bind fun v148 =>
                        if ¬ v146.1 = v148 then
                          some (.out (.inl ((v146.2.1, v146.2.2.1, v146.2.2.2.1, v146.2.2.2.2))))
                        else
                          (
                            ck (0 ≤ s109.2.2.2.2 ∧ s109.2.2.2.2 < ((a2.length : Nat) : Int)) <|
                            if ¬ v146.1 = (gmax 0 (gmin (a2.getD s109.2.2.2.2.toNat 0) ((v25.length : Nat) : Int))) then
                              some (.out (.inl ((v146.2.1, v146.2.2.1, v146.2.2.2.1, v146.2.2.2.2))))
                            else
                              (
                                (g11 (v146.2.1, v146.2.2.1, v146.2.2.2.1, v146.2.2.2.2)).bind fun v153 =>
                                (g14 v153 v25).bind fun v155 =>
                                if ¬ (v155 = true) then
                                  some (.out (.inl ((v146.2.1, v146.2.2.1, v146.2.2.2.1, v146.2.2.2.2))))
                                else
                                  (
                                    ck (inR .i64 (s109.2.2.2.2 + 1)) <|
                                    some (.go (v146.2.1, v146.2.2.1, v146.2.2.2.1, v146.2.2.2.2, s109.2.2.2.2 + 1))
                                  )
                              )
                          )
                      )
                    else
                      some (.out (.inr ((s109.1, s109.2.1, s109.2.2.1, s109.2.2.2.1))))
                  )
                else
                  some (.out (.inr ((s109.1, s109.2.1, s109.2.2.1, s109.2.2.2.1))))
              ) (v23.2.1, v23.2.2.1, v23.2.2.2.1, v23.2.2.2.2, 0)).bind fun o142 =>
            sm o142 (fun o159 =>
                some false
              ) (fun o160 =>
                k106 (o160.1, o160.2.1, o160.2.2.1, o160.2.2.2)
              )
        ) (fun v105 =>
          (g16 (v105.1, v105.2.1, v105.2.2.1, v105.2.2.2)).bind fun v162 =>
          (g15 v162).bind fun v164 =>
          (g14 v164 v25).bind fun v166 =>
          if v166 = true then
            (
              (g17).bind fun v169 =>
              some v169
            )
          else
            some false
        )
      )
  )
noncomputable def k3 : Eng.CS := { f := 3, calm := true, more := 0, ι := ByteArray × Int × (List Int) × Bool, ok := fun i => g3 i.1 i.2.1 i.2.2.1 = some i.2.2.2, rds := fun _ => [], args := fun i => [.w (.v (.string (i.1))), .w (.v (.int .i64 (i.2.1))), .sl 1 i.2.2.1.length (ei .i64 i.2.2.1)], res := fun i => bS i.2.2.2 }
set_option maxRecDepth 8000 in
set_option maxHeartbeats 4000000 in
theorem k3_ok : CalmOk Try.prog k3 := by
  refine R.calmspec Try.func3 nm3 rfl ?_
  rintro ⟨a0, a1, a2, r⟩ hok q _ args hargs
  match args, hargs with
  | [_, _, _], hargs =>
  obtain ⟨rfl, rfl, ⟨A2, cp2, rfl, hc2, _, hR2⟩, _⟩ := hargs
  refine ⟨envC [k11, k12, k13, k14, k15, k16, k17, k21] false [(3, 11), (10, 3)], 6, envC_ok (css_cons ⟨fun h => (by cases h), fun _ => k11_ok⟩ (css_cons ⟨fun h => (by cases h), fun _ => k12_ok⟩ (css_cons ⟨fun _ => k13_ok, fun h => (by cases h)⟩ (css_cons ⟨fun _ => k14_ok, fun h => (by cases h)⟩ (css_cons ⟨fun h => (by cases h), fun _ => k15_ok⟩ (css_cons ⟨fun _ => k16_ok, fun h => (by cases h)⟩ (css_cons ⟨fun _ => k17_ok, fun h => (by cases h)⟩ (css_cons ⟨fun h => (by cases h), fun _ => k21_ok⟩ (css_nil))))))))), rfl, (by intro x hx; simp only [List.mem_cons, List.not_mem_nil, or_false] at hx; rcases hx with rfl | rfl | rfl <;> rfl), ?_⟩
  have H : Gives (g3 a0 a1 a2) (fun a => a = r) := ⟨r, hok, rfl⟩
  unfold g3 at H
  clear hok
  refine R.cut_fam H 13 [1] [] (fun v5 => [(0, .v (.string (v5)))]) (fun v5 => []) [] 0 (fun H => ?_)
  refine And.intro ?_ ?_
  · refine if_st H (fun h7 H => ?_) (fun h7 H => ?_)
    · refine ob_ck H fun h8 H => ?_
      refine ⟨a0.extract (0 : Int).toNat (200 : Int).toNat, ⟨H⟩, ⟨rfl⟩, ?_⟩
      repeat refine mo1_LiftM3 ?_
      first | exact trivial | exact rfl
    · refine ⟨a0, ⟨H⟩, ⟨rfl⟩, ?_⟩
      repeat refine mo1_LiftM3 ?_
      first | exact trivial | exact rfl
  · intro v5 H
    refine And.intro (fun h => absurd h (by decide)) (fun _ => ?_)
    refine And.intro (fun h => absurd h (by decide)) (fun _ => ?_)
    refine And.intro (fun h => absurd h (by decide)) (fun _ => ?_)
    obtain ⟨v18, hv19, H⟩ := call_st H
    refine ⟨(v5, v18), ⟨hv19⟩, ⟨trivial⟩, ?_⟩
    refine And.intro ⟨rfl⟩ ?_
    obtain ⟨v20, hv21, H⟩ := call_st H
    refine ⟨((300, [], 0, 0), v18, v20), ⟨hv21⟩, ⟨trivial⟩, ?_⟩
    refine And.intro ⟨rfl⟩ ?_
    refine And.intro ⟨by first | rfl | (simp; done), by first | rfl | (simp [ei, eb, es, ec, c135]; done) | (simp only [ei, eb, es, ec, c135, List.map_append, List.nil_append, List.append_assoc]; rfl)⟩ ?_
    refine mo1_LiftM3 ?_
    refine mo1_LiftM3 ?_
    refine mo1_LiftM3 ?_
    refine mo1_LiftM3 ?_
    refine if_st H (fun h22 H => ?_) (fun h22 H => ?_)
    · have hfin := fin_st H
      repeat refine mf1_LiftM3 ?_
      first | exact trivial | exact rfl
    · obtain ⟨v23, hv24, H⟩ := call_st H
      refine ⟨((v20.2.1, v20.2.2.1, v20.2.2.2.1, v20.2.2.2.2), a1, v23), ⟨hv24⟩, ⟨trivial⟩, ?_⟩
      refine And.intro ⟨rfl⟩ ?_
      refine And.intro ⟨rfl⟩ ?_
      refine mo1_LiftM3 ?_
      refine mo1_LiftM3 ?_
      refine mo1_LiftM3 ?_
      refine mo1_LiftM3 ?_
      obtain ⟨v25, hv26, H⟩ := call_st H
      refine ⟨((v23.2.1, v23.2.2.1, v23.2.2.2.1, v23.2.2.2.2), v25), ⟨hv26⟩, ⟨trivial⟩, ?_⟩
      refine mo1_LiftM3 ?_
      refine mo1_LiftM3 ?_
      refine mo1_LiftM3 ?_
      refine mo1_LiftM3 ?_
      refine R.cut_fam H 77 [7, 8] [] (fun v105 => []) (fun v105 => [(29, .cells 43 [.v (.int .i64 (v105.1)), .own 77, .v (.int .i64 (v105.2.2.1)), .v (.int .i64 (v105.2.2.2))]), (77, .arr 9 1 (v105.2.1.length) (es (v105.2.1)))]) [(45, .arr 9 1 (v18.length) (es (v18))), (63, .arr 9 1 (v25.length) (es (v25)))] 1 (fun H => ?_)
      refine And.intro ?_ ?_
      · refine R.loop_fam (bind_st H) [2, 7, 8] [] (fun _ s109 => [(9, .v (.int .i64 (s109.2.2.2.2)))]) (fun _ s109 => [(29, .cells 43 [.v (.int .i64 (s109.1)), .own 65, .v (.int .i64 (s109.2.2.1)), .v (.int .i64 (s109.2.2.2.1))]), (65, .arr 9 1 (s109.2.1.length) (es (s109.2.1)))]) 1 (fun n161 H => ?_)
        refine ⟨(n161, _), ⟨H⟩, ⟨trivial⟩, ?_⟩
        repeat refine mo1_LiftM3 ?_
        rintro ⟨m0, s109⟩ H _
        obtain ⟨m110, hm0, H⟩ := IG_succ H
        dsimp only at hm0
        subst hm0
        try dsimp only at H
        refine if_st H (fun h143 H => ?_) (fun h143 H => ?_)
        · refine if_st H (fun h144 H => ?_) (fun h144 H => ?_)
          · refine ob_ix hR2 (fun h => ei0 h) H fun h145 H => ?_
            refine ld_int (e := a2.getD s109.2.2.2.2.toNat 0) (rd_get hR2 (ei_get (l := a2) (tn h145))) ?_
            obtain ⟨v146, hv147, H⟩ := call_st H
            refine ⟨((s109.1, s109.2.1, s109.2.2.1, s109.2.2.2.1), a2.getD s109.2.2.2.2.toNat 0, v146), ⟨hv147⟩, ⟨trivial⟩, ?_⟩
            refine And.intro ⟨rfl⟩ ?_
            refine And.intro ⟨rfl⟩ ?_
            refine mo1_LiftM3 ?_
            refine mo1_LiftM3 ?_
            refine mo1_LiftM3 ?_
            refine mo1_LiftM3 ?_
            obtain ⟨v148, hv149, H⟩ := call_st H
            refine ⟨((v146.2.1, v146.2.2.1, v146.2.2.2.1, v146.2.2.2.2), v148), ⟨hv149⟩, ⟨trivial⟩, ?_⟩
            refine mo1_LiftM3 ?_
            refine mo1_LiftM3 ?_
            refine mo1_LiftM3 ?_
            refine mo1_LiftM3 ?_
            refine if_st H (fun h150 H => ?_) (fun h150 H => ?_)
            · replace H := some_st H
              dsimp only [stp, sm] at H
              have hfin := fin_st H
              repeat refine mf1_LiftM3 ?_
              first | exact trivial | exact rfl
            · refine ob_ix hR2 (fun h => ei0 h) H fun h151 H => ?_
              refine ld_int (e := a2.getD s109.2.2.2.2.toNat 0) (rd_get hR2 (ei_get (l := a2) (tn h151))) ?_
              refine if_st H (fun h152 H => ?_) (fun h152 H => ?_)
              · replace H := some_st H
                dsimp only [stp, sm] at H
                have hfin := fin_st H
                repeat refine mf1_LiftM3 ?_
                first | exact trivial | exact rfl
              · obtain ⟨v153, hv154, H⟩ := call_st H
                refine ⟨((v146.2.1, v146.2.2.1, v146.2.2.2.1, v146.2.2.2.2), v153), ⟨hv154⟩, ⟨trivial⟩, ?_⟩
                refine mo1_LiftM3 ?_
                refine mo1_LiftM3 ?_
                refine mo1_LiftM3 ?_
                refine mo1_LiftM3 ?_
                obtain ⟨v155, hv156, H⟩ := call_st H
                refine ⟨(v153, v25, v155), ⟨hv156⟩, ⟨trivial⟩, ?_⟩
                refine And.intro ⟨by first | rfl | (simp; done), by first | rfl | (simp [ei, eb, es, ec, c135]; done) | (simp only [ei, eb, es, ec, c135, List.map_append, List.nil_append, List.append_assoc]; rfl)⟩ ?_
                refine And.intro ⟨by first | rfl | (simp; done), by first | rfl | (simp [ei, eb, es, ec, c135]; done) | (simp only [ei, eb, es, ec, c135, List.map_append, List.nil_append, List.append_assoc]; rfl)⟩ ?_
                refine if_st H (fun h157 H => ?_) (fun h157 H => ?_)
                · replace H := some_st H
                  dsimp only [stp, sm] at H
                  have hfin := fin_st H
                  repeat refine mf1_LiftM3 ?_
                  first | exact trivial | exact rfl
                · refine ob_ck H fun h158 H => ?_
                  replace H := some_st H
                  refine ⟨(m110, (v146.2.1, v146.2.2.1, v146.2.2.2.1, v146.2.2.2.2, s109.2.2.2.2 + 1)), ⟨H, Nat.lt_succ_self _⟩, ⟨trivial⟩, ⟨rfl⟩, ?_⟩
                  repeat refine mo1_LiftM3 ?_
                  first | exact trivial | exact rfl
          · replace H := some_st H
            dsimp only [stp, sm] at H
            refine ⟨(s109.1, s109.2.1, s109.2.2.1, s109.2.2.2.1), ⟨H⟩, ⟨rfl⟩, ?_⟩
            repeat refine mo1_LiftM3 ?_
            first | exact trivial | exact rfl
        · replace H := some_st H
          dsimp only [stp, sm] at H
          refine ⟨(s109.1, s109.2.1, s109.2.2.1, s109.2.2.2.1), ⟨H⟩, ⟨rfl⟩, ?_⟩
          repeat refine mo1_LiftM3 ?_
          first | exact trivial | exact rfl
      · intro v105 H
        obtain ⟨v162, hv163, H⟩ := call_st H
        refine ⟨((v105.1, v105.2.1, v105.2.2.1, v105.2.2.2), v162), ⟨hv163⟩, ⟨trivial⟩, ?_⟩
        refine mo1_LiftM3 ?_
        refine mo1_LiftM3 ?_
        refine mo1_LiftM3 ?_
        refine mo1_LiftM3 ?_
        obtain ⟨v164, hv165, H⟩ := call_st H
        refine ⟨(v162, v164), ⟨hv165⟩, ⟨trivial⟩, ?_⟩
        refine And.intro ⟨rfl⟩ ?_
        obtain ⟨v166, hv167, H⟩ := call_st H
        refine ⟨(v164, v25, v166), ⟨hv167⟩, ⟨trivial⟩, ?_⟩
        refine And.intro ⟨by first | rfl | (simp; done), by first | rfl | (simp [ei, eb, es, ec, c135]; done) | (simp only [ei, eb, es, ec, c135, List.map_append, List.nil_append, List.append_assoc]; rfl)⟩ ?_
        refine And.intro ⟨by first | rfl | (simp; done), by first | rfl | (simp [ei, eb, es, ec, c135]; done) | (simp only [ei, eb, es, ec, c135, List.map_append, List.nil_append, List.append_assoc]; rfl)⟩ ?_
        refine if_st H (fun h168 H => ?_) (fun h168 H => ?_)
        · obtain ⟨v169, hv170, H⟩ := call_st H
          refine ⟨v169, ⟨hv170⟩, ⟨trivial⟩, ?_⟩
          have hfin := fin_st H
          repeat refine mf1_LiftM3 ?_
          first | exact trivial | exact rfl
        · have hfin := fin_st H
          repeat refine mf1_LiftM3 ?_
          first | exact trivial | exact rfl

end Go.Proofs.Ytenjkphlbdhaiaa
