/-
  Functions of the program, lifted: each with its walk. Printed by lift.py.
  Nothing here is trusted.
-/
import Derived.Test.YtcnofjjiepcpjaaLiftL2
set_option linter.unusedVariables false
set_option linter.unusedSimpArgs false
namespace Go.Proofs.Ytcnofjjiepcpjaa
open Go Go.Eng

/-- placard/placardlaw16.meet -/
noncomputable def g56 (a0 : (Int × Int × Int × Int)) (a1 : (Int × Int × Int × Int)) : Option (Bool) :=
  ck (inR .i64 (a1.1 + a1.2.2.1)) <|
  if a0.1 < (a1.1 + a1.2.2.1) then
    (
      ck (inR .i64 (a0.1 + a0.2.2.1)) <|
      if a1.1 < (a0.1 + a0.2.2.1) then
        (
          ck (inR .i64 (a1.2.1 + a1.2.2.2)) <|
          if a0.2.1 < (a1.2.1 + a1.2.2.2) then
            (
              ck (inR .i64 (a0.2.1 + a0.2.2.2)) <|
              some (decide (a1.2.1 < (a0.2.1 + a0.2.2.2)))
            )
          else
            some false
        )
      else
        some false
    )
  else
    some false
noncomputable def k56 : Eng.CS := { f := 56, calm := true, more := 0, ι := (Int × Int × Int × Int) × (Int × Int × Int × Int) × Bool, ok := fun i => g56 i.1 i.2.1 = some i.2.2, rds := fun _ => [], args := fun i => [.w (.agg [.v (.int .i64 (i.1.1)), .v (.int .i64 (i.1.2.1)), .v (.int .i64 (i.1.2.2.1)), .v (.int .i64 (i.1.2.2.2))]), .w (.agg [.v (.int .i64 (i.2.1.1)), .v (.int .i64 (i.2.1.2.1)), .v (.int .i64 (i.2.1.2.2.1)), .v (.int .i64 (i.2.1.2.2.2))])], res := fun i => bS i.2.2 }
set_option maxRecDepth 8000 in
set_option maxHeartbeats 4000000 in
theorem k56_ok : CalmOk Try.prog k56 := by
  refine R.calmspec Try.func56 nm56 rfl ?_
  rintro ⟨a0, a1, r⟩ hok q _ args hargs
  match args, hargs with
  | [_, _], hargs =>
  obtain ⟨rfl, rfl, _⟩ := hargs
  refine ⟨envC [] false [], 6, envC_ok (css_nil), rfl, (by intro x hx; simp only [List.mem_cons, List.not_mem_nil, or_false] at hx; rcases hx with rfl | rfl <;> rfl), ?_⟩
  have H : Gives (g56 a0 a1) (fun a => a = r) := ⟨r, hok, rfl⟩
  unfold g56 at H
  clear hok
  refine ob_ck H fun h1 H => ?_
  refine if_st H (fun h2 H => ?_) (fun h2 H => ?_)
  · refine ob_ck H fun h3 H => ?_
    refine if_st H (fun h4 H => ?_) (fun h4 H => ?_)
    · refine ob_ck H fun h5 H => ?_
      refine if_st H (fun h6 H => ?_) (fun h6 H => ?_)
      · refine ob_ck H fun h7 H => ?_
        have hfin := fin_st H
        repeat (refine And.intro (Ob.mk (by first | (rw [← hfin] <;> first | exact rfl | exact Iff.rfl | exact ⟨rfl, rfl⟩ | exact decide_eq_true_iff | (constructor <;> first | rfl | simp [ei, eb, es, ec, c58]) | simp [ei, eb, es, ec, c58]) | first | exact rfl | exact Iff.rfl | exact ⟨rfl, rfl⟩ | exact decide_eq_true_iff | (constructor <;> first | rfl | simp [ei, eb, es, ec, c58]) | simp [ei, eb, es, ec, c58])) ?_)
        first | exact trivial | exact rfl
      · have hfin := fin_st H
        repeat (refine And.intro (Ob.mk (by first | (rw [← hfin] <;> first | exact rfl | exact Iff.rfl | exact ⟨rfl, rfl⟩ | exact decide_eq_true_iff | (constructor <;> first | rfl | simp [ei, eb, es, ec, c58]) | simp [ei, eb, es, ec, c58]) | first | exact rfl | exact Iff.rfl | exact ⟨rfl, rfl⟩ | exact decide_eq_true_iff | (constructor <;> first | rfl | simp [ei, eb, es, ec, c58]) | simp [ei, eb, es, ec, c58])) ?_)
        first | exact trivial | exact rfl
    · have hfin := fin_st H
      repeat (refine And.intro (Ob.mk (by first | (rw [← hfin] <;> first | exact rfl | exact Iff.rfl | exact ⟨rfl, rfl⟩ | exact decide_eq_true_iff | (constructor <;> first | rfl | simp [ei, eb, es, ec, c58]) | simp [ei, eb, es, ec, c58]) | first | exact rfl | exact Iff.rfl | exact ⟨rfl, rfl⟩ | exact decide_eq_true_iff | (constructor <;> first | rfl | simp [ei, eb, es, ec, c58]) | simp [ei, eb, es, ec, c58])) ?_)
      first | exact trivial | exact rfl
  · have hfin := fin_st H
    repeat (refine And.intro (Ob.mk (by first | (rw [← hfin] <;> first | exact rfl | exact Iff.rfl | exact ⟨rfl, rfl⟩ | exact decide_eq_true_iff | (constructor <;> first | rfl | simp [ei, eb, es, ec, c58]) | simp [ei, eb, es, ec, c58]) | first | exact rfl | exact Iff.rfl | exact ⟨rfl, rfl⟩ | exact decide_eq_true_iff | (constructor <;> first | rfl | simp [ei, eb, es, ec, c58]) | simp [ei, eb, es, ec, c58])) ?_)
    first | exact trivial | exact rfl

def c83 (p : (Int × Int × Int × Int)) : List Value := [.int .i64 p.1, .int .i64 p.2.1, .int .i64 p.2.2.1, .int .i64 p.2.2.2]
theorem c83_len : ∀ a, (c83 a).length = 4 := fun _ => rfl
theorem c83_one : ∀ a, ∀ y ∈ c83 a, y.oneCell' = true := by intro a y hy; simp only [c83, List.mem_cons, List.not_mem_nil, or_false] at hy; rcases hy with rfl | rfl | rfl | rfl <;> rfl
/-- placard/placardref16.Boxes -/
noncomputable def g55 (a0 : Int) (a1 : Int) (a2 : Int) (a3 : List (Int × Int × Int × Int)) (a4 : List (Int × Int × Int × Int)) : Option (List (Int × Int × Int × Int)) :=
  (g34 a1 0 a3).bind fun v19 =>
  if ¬ v19 = 0 then
    some ([] : List (Int × Int × Int × Int))
  else
    (
      (g34 a0 a2 a4).bind fun v22 =>
      if ¬ v22 = 0 then
        some ([] : List (Int × Int × Int × Int))
      else
        (
          (g52 a1 0 a3).bind fun v25 =>
          (g52 a0 a2 a4).bind fun v27 =>
          jn (α := _) (β := List Int) (fun k188 =>
              (loopO (σ := List Int × Int) (ρ := List Int) (fun s189 =>
                  if s189.2 < ((a3.length : Nat) : Int) then
                    (
                      ck (0 ≤ s189.2 ∧ s189.2 < ((v25.1.length : Nat) : Int)) <|
                      if (v25.1.getD s189.2.toNat false) = true then
                        (
                          ck (0 ≤ s189.2 ∧ s189.2 < ((a3.length : Nat) : Int)) <|
                          ck ((s189.1.length + 1) * 8 ≤ 140737488355328) <|
                          ck (inR .i64 (s189.2 + 1)) <|
                          some (.go ((s189.1 ++ [(a3.getD s189.2.toNat default).1]), s189.2 + 1))
                        )
                      else
                        (
                          ck ((s189.1.length + 1) * 8 ≤ 140737488355328) <|
                          ck (inR .i64 (s189.2 + 1)) <|
                          some (.go ((s189.1 ++ [0]), s189.2 + 1))
                        )
                    )
                  else
                    some (.out s189.1)
                ) ([], 0)).bind fun o207 =>
                k188 o207
          ) (fun v187 =>
            (g82 0 a3 v25.1).bind fun v217 =>
            ck (inR .i64 (a1 - v217)) <|
            jn (α := _) (β := Int × List Int) (fun k249 =>
                (loopO (σ := Int × List Int) (ρ := Int × List Int) (fun s250 =>
                    if 0 < s250.1 then
                      (
                        (g94 a3 v25.1 s250.2).bind fun v270 =>
                        if v270 < 0 then
                          some (.out (s250.1, s250.2))
                        else
                          (
                            ck (0 ≤ v270 ∧ v270 < ((s250.2.length : Nat) : Int)) <|
                            ck (inR .i64 ((s250.2.getD v270.toNat 0) + 1)) <|
                            ck (0 ≤ v270 ∧ v270 < ((s250.2.length : Nat) : Int)) <|
                            ck (inR .i64 (s250.1 - 1)) <|
                            some (.go (s250.1 - 1, (s250.2.set v270.toNat ((s250.2.getD v270.toNat 0) + 1))))
                          )
                      )
                    else
                      some (.out (s250.1, s250.2))
                  ) (a1 - v217, v187)).bind fun o268 =>
                  k249 (o268.1, o268.2)
            ) (fun v248 =>
              jn (α := _) (β := List Int) (fun k426 =>
                  (loopO (σ := List Int × Int) (ρ := List Int) (fun s427 =>
                      if s427.2 < ((a4.length : Nat) : Int) then
                        (
                          ck (0 ≤ s427.2 ∧ s427.2 < ((v27.1.length : Nat) : Int)) <|
                          if (v27.1.getD s427.2.toNat false) = true then
                            (
                              ck (0 ≤ s427.2 ∧ s427.2 < ((a4.length : Nat) : Int)) <|
                              ck ((s427.1.length + 1) * 8 ≤ 140737488355328) <|
                              ck (inR .i64 (s427.2 + 1)) <|
                              some (.go ((s427.1 ++ [(a4.getD s427.2.toNat default).1]), s427.2 + 1))
                            )
                          else
                            (
                              ck ((s427.1.length + 1) * 8 ≤ 140737488355328) <|
                              ck (inR .i64 (s427.2 + 1)) <|
                              some (.go ((s427.1 ++ [0]), s427.2 + 1))
                            )
                        )
                      else
                        some (.out s427.1)
                    ) ([], 0)).bind fun o445 =>
                    k426 o445
              ) (fun v425 =>
                (g82 a2 a4 v27.1).bind fun v455 =>
                ck (inR .i64 (a0 - v455)) <|
                jn (α := _) (β := Int × List Int) (fun k487 =>
                    (loopO (σ := Int × List Int) (ρ := Int × List Int) (fun s488 =>
                        if 0 < s488.1 then
                          (
                            (g94 a4 v27.1 s488.2).bind fun v508 =>
                            if v508 < 0 then
                              some (.out (s488.1, s488.2))
                            else
                              (
                                ck (0 ≤ v508 ∧ v508 < ((s488.2.length : Nat) : Int)) <|
                                ck (inR .i64 ((s488.2.getD v508.toNat 0) + 1)) <|
                                ck (0 ≤ v508 ∧ v508 < ((s488.2.length : Nat) : Int)) <|
                                ck (inR .i64 (s488.1 - 1)) <|
                                some (.go (s488.1 - 1, (s488.2.set v508.toNat ((s488.2.getD v508.toNat 0) + 1))))
                              )
                          )
                        else
                          some (.out (s488.1, s488.2))
                      ) (a0 - v455, v425)).bind fun o506 =>
                      k487 (o506.1, o506.2)
                ) (fun v486 =>
                  (g41 a1 0 0 a3).bind fun v516 =>
                  (g41 a0 a2 0 a4).bind fun v518 =>
                  jn (α := _) (β := List (Int × Int × Int × Int)) (fun k886 =>
                      (loopO (σ := List (Int × Int × Int × Int) × Int) (ρ := List (Int × Int × Int × Int)) (fun s887 =>
                          if s887.2 < ((a3.length : Nat) : Int) then
                            (
                              jn (α := _) (β := List (Int × Int × Int × Int)) (fun k1175 =>
                                  (loopO (σ := List (Int × Int × Int × Int) × Int) (ρ := List (Int × Int × Int × Int)) (fun s1176 =>
                                      if s1176.2 < ((a4.length : Nat) : Int) then
                                        (
                                          jn (α := _) (β := Bool) (fun k1218 =>
                                              ck (0 ≤ s887.2 ∧ s887.2 < ((v25.1.length : Nat) : Int)) <|
                                              if (v25.1.getD s887.2.toNat false) = true then
                                                (
                                                  ck (0 ≤ s1176.2 ∧ s1176.2 < ((v27.1.length : Nat) : Int)) <|
                                                  k1218 (decide ((v27.1.getD s1176.2.toNat false) = true))
                                                )
                                              else
                                                k1218 false
                                          ) (fun v1217 =>
                                            if v1217 = true then
                                              (
                                                ck (0 ≤ s887.2 ∧ s887.2 < ((v516.1.length : Nat) : Int)) <|
                                                ck (0 ≤ s1176.2 ∧ s1176.2 < ((v518.1.length : Nat) : Int)) <|
                                                ck (0 ≤ s887.2 ∧ s887.2 < ((v248.2.length : Nat) : Int)) <|
                                                ck (0 ≤ s1176.2 ∧ s1176.2 < ((v486.2.length : Nat) : Int)) <|
                                                ck ((s1176.1.length + 1) * 32 ≤ 140737488355328) <|
                                                ck (inR .i64 (s1176.2 + 1)) <|
                                                some (.go ((s1176.1 ++ [(v516.1.getD s887.2.toNat 0, v518.1.getD s1176.2.toNat 0, v248.2.getD s887.2.toNat 0, v486.2.getD s1176.2.toNat 0)]), s1176.2 + 1))
                                              )
                                            else
                                              (
                                                ck (inR .i64 (s1176.2 + 1)) <|
                                                some (.go (s1176.1, s1176.2 + 1))
                                              )
                                          )
                                        )
                                      else
                                        some (.out s1176.1)
                                    ) (s887.1, 0)).bind fun o1212 =>
                                    k1175 o1212
                              ) (fun v1174 =>
                                ck (inR .i64 (s887.2 + 1)) <|
                                some (.go (v1174, s887.2 + 1))
                              )
                            )
                          else
                            some (.out s887.1)
                        ) ([], 0)).bind fun o1117 =>
                        k886 o1117
                  ) (fun v885 =>
                    some v885
                  )
                )
              )
            )
          )
        )
    )
noncomputable def k55 : Eng.CS := { f := 55, calm := false, more := 1, ι := Int × Int × Int × (List (Int × Int × Int × Int)) × (List (Int × Int × Int × Int)) × List (Int × Int × Int × Int), ok := fun i => g55 i.1 i.2.1 i.2.2.1 i.2.2.2.1 i.2.2.2.2.1 = some i.2.2.2.2.2, rds := fun _ => [], args := fun i => [.w (.v (.int .i64 (i.1))), .w (.v (.int .i64 (i.2.1))), .w (.v (.int .i64 (i.2.2.1))), .sl 4 i.2.2.2.1.length (ec c58 i.2.2.2.1), .sl 4 i.2.2.2.2.1.length (ec c58 i.2.2.2.2.1)], res := fun i => .own 0, L' := fun i => [(0, .arr 83 4 i.2.2.2.2.2.length (ec c83 i.2.2.2.2.2))], rn := [(0, 0, 83, 4)] }
set_option maxRecDepth 8000 in
set_option maxHeartbeats 4000000 in
theorem k55_ok : CSOk Try.prog k55 := by
  refine R.cspec Try.func55 nm55 rfl ?_
  rintro ⟨a0, a1, a2, a3, a4, r⟩ hok q _ args hargs
  match args, hargs with
  | [_, _, _, _, _], hargs =>
  obtain ⟨rfl, rfl, rfl, ⟨A3, cp3, rfl, hc3, _, hR3⟩, ⟨A4, cp4, rfl, hc4, _, hR4⟩, _⟩ := hargs
  refine ⟨envC [k34, k41, k52, k82, k94] false [(55, 12), (55, 17), (55, 18), (80, 9), (80, 15)], 6, envC_ok (css_cons ⟨fun _ => k34_ok, fun h => (by cases h)⟩ (css_cons ⟨fun h => (by cases h), fun _ => k41_ok⟩ (css_cons ⟨fun h => (by cases h), fun _ => k52_ok⟩ (css_cons ⟨fun _ => k82_ok, fun h => (by cases h)⟩ (css_cons ⟨fun _ => k94_ok, fun h => (by cases h)⟩ (css_nil)))))), ?_⟩
  have H : Gives (g55 a0 a1 a2 a3 a4) (fun a => a = r) := ⟨r, hok, rfl⟩
  unfold g55 at H
  clear hok
  obtain ⟨v19, hv20, H⟩ := call_st H
  refine ⟨(a1, 0, a3, v19), ⟨hv20⟩, ⟨trivial⟩, ?_⟩
  refine And.intro ⟨rfl⟩ ?_
  refine And.intro ⟨rfl⟩ ?_
  refine And.intro ⟨rfl, hc3, (ec_len c58_len).trans (congrArg (· * 4) (show _ = _ from rfl)), hR3⟩ ?_
  refine if_st H (fun h21 H => ?_) (fun h21 H => ?_)
  · have hfin := fin_st H
    repeat (refine And.intro (Ob.mk (by first | (rw [← hfin] <;> first | exact rfl | exact Iff.rfl | exact ⟨rfl, rfl⟩ | exact decide_eq_true_iff | (constructor <;> first | rfl | simp [ei, eb, es, ec, c58, c83]) | simp [ei, eb, es, ec, c58, c83]) | first | exact rfl | exact Iff.rfl | exact ⟨rfl, rfl⟩ | exact decide_eq_true_iff | (constructor <;> first | rfl | simp [ei, eb, es, ec, c58, c83]) | simp [ei, eb, es, ec, c58, c83])) ?_)
    first | exact trivial | exact rfl
  · obtain ⟨v22, hv23, H⟩ := call_st H
    refine ⟨(a0, a2, a4, v22), ⟨hv23⟩, ⟨trivial⟩, ?_⟩
    refine And.intro ⟨rfl⟩ ?_
    refine And.intro ⟨rfl⟩ ?_
    refine And.intro ⟨rfl, hc4, (ec_len c58_len).trans (congrArg (· * 4) (show _ = _ from rfl)), hR4⟩ ?_
    refine if_st H (fun h24 H => ?_) (fun h24 H => ?_)
    · have hfin := fin_st H
      repeat (refine And.intro (Ob.mk (by first | (rw [← hfin] <;> first | exact rfl | exact Iff.rfl | exact ⟨rfl, rfl⟩ | exact decide_eq_true_iff | (constructor <;> first | rfl | simp [ei, eb, es, ec, c58, c83]) | simp [ei, eb, es, ec, c58, c83]) | first | exact rfl | exact Iff.rfl | exact ⟨rfl, rfl⟩ | exact decide_eq_true_iff | (constructor <;> first | rfl | simp [ei, eb, es, ec, c58, c83]) | simp [ei, eb, es, ec, c58, c83])) ?_)
      first | exact trivial | exact rfl
    · obtain ⟨v25, hv26, H⟩ := call_st H
      refine ⟨(a1, 0, a3, v25), ⟨hv26⟩, ⟨trivial⟩, ?_⟩
      refine And.intro ⟨rfl⟩ ?_
      refine And.intro ⟨rfl⟩ ?_
      refine And.intro ⟨rfl, hc3, (ec_len c58_len).trans (congrArg (· * 4) (show _ = _ from rfl)), hR3⟩ ?_
      obtain ⟨v27, hv28, H⟩ := call_st H
      refine ⟨(a0, a2, a4, v27), ⟨hv28⟩, ⟨trivial⟩, ?_⟩
      refine And.intro ⟨rfl⟩ ?_
      refine And.intro ⟨rfl⟩ ?_
      refine And.intro ⟨rfl, hc4, (ec_len c58_len).trans (congrArg (· * 4) (show _ = _ from rfl)), hR4⟩ ?_
      refine R.cut_fam H 49 [0, 1, 2, 3, 8, 9] [] (fun v187 => []) (fun v187 => [(38, .cells 116 [.own 49, .v (.int .i64 (0))]), (49, .arr 3 1 (v187.length) (ei .i64 (v187)))]) [(20, .arr 4 1 (v25.1.length) (eb (v25.1))), (30, .arr 4 1 (v27.1.length) (eb (v27.1))), (37, .cells 116 [.v (.slice none 0 0), .v (.int .i64 (0))])] 1 (fun H => ?_)
      refine And.intro ?_ ?_
      · refine R.loop_fam (bind_st H) [0, 1, 2, 3, 8, 9] [(100038, 0, 3, 1)] (fun _ s189 => [(10, .v (.int .i64 (s189.2)))]) (fun _ s189 => [(38, .cells 116 [.own 41, .v (.int .i64 (0))]), (41, .arr 3 1 (s189.1.length) (ei .i64 (s189.1)))]) 1 (fun n216 H => ?_)
        refine ⟨(n216, _), ⟨H⟩, ⟨trivial⟩, ?_⟩
        repeat (refine And.intro (Ob.mk (by first | exact rfl | exact Iff.rfl | exact ⟨rfl, rfl⟩ | exact decide_eq_true_iff | (constructor <;> first | rfl | simp [ei, eb, es, ec, c58, c83]) | simp [ei, eb, es, ec, c58, c83])) ?_)
        rintro ⟨m0, s189⟩ H _
        obtain ⟨m190, hm0, H⟩ := IG_succ H
        dsimp only at hm0
        subst hm0
        try dsimp only at H
        refine if_st H (fun h208 H => ?_) (fun h208 H => ?_)
        · refine ob_ck H fun h209 H => ?_
          refine ld_bool (e := v25.1.getD s189.2.toNat false) (own_get (ys := eb v25.1) (by first | rfl | simp [ei, eb, es, ec, c58, c83]) (eb_get (l := v25.1) (by first | exact tn h209 | (have := tn h209; simp at this ⊢; omega) | (have := tn h209; simp; omega)))) ?_
          refine if_st H (fun h210 H => ?_) (fun h210 H => ?_)
          · refine ob_ix hR3 (fun h => ec0 c58_len (by decide) h) H fun h211 H => ?_
            refine ld_int (e := (a3.getD s189.2.toNat default).1) (rd_get hR3 ((ec_get (i := s189.2.toNat) (o := 0) c58_len (tn h211) (by decide)).trans rfl)) ?_
            refine ob_app (by decide) (by first | exact ei_one | ((repeat (refine List.forall_mem_cons.2 ⟨rfl, ?_⟩)); intro y hy; cases hy; done) | (intro y hy; simp [ei, eb, es, ec, c58, c83] at hy; (first | (rcases hy with rfl | hy) | subst hy | skip); all_goals first | rfl | simp_all [Value.oneCell'])) H fun h212 H => ?_
            refine ob_ck H fun h213 H => ?_
            replace H := some_st H
            refine ⟨(m190, ((s189.1 ++ [(a3.getD s189.2.toNat default).1]), s189.2 + 1)), ⟨H, Nat.lt_succ_self _⟩, ⟨trivial⟩, ⟨rfl⟩, ?_⟩
            repeat (refine And.intro (Ob.mk (by first | exact rfl | exact Iff.rfl | exact ⟨rfl, rfl⟩ | exact decide_eq_true_iff | (constructor <;> first | rfl | simp [ei, eb, es, ec, c58, c83]) | simp [ei, eb, es, ec, c58, c83])) ?_)
            first | exact trivial | exact rfl
          · refine ob_app (by decide) (by first | exact ei_one | ((repeat (refine List.forall_mem_cons.2 ⟨rfl, ?_⟩)); intro y hy; cases hy; done) | (intro y hy; simp [ei, eb, es, ec, c58, c83] at hy; (first | (rcases hy with rfl | hy) | subst hy | skip); all_goals first | rfl | simp_all [Value.oneCell'])) H fun h214 H => ?_
            refine ob_ck H fun h215 H => ?_
            replace H := some_st H
            refine ⟨(m190, ((s189.1 ++ [0]), s189.2 + 1)), ⟨H, Nat.lt_succ_self _⟩, ⟨trivial⟩, ⟨rfl⟩, ?_⟩
            repeat (refine And.intro (Ob.mk (by first | exact rfl | exact Iff.rfl | exact ⟨rfl, rfl⟩ | exact decide_eq_true_iff | (constructor <;> first | rfl | simp [ei, eb, es, ec, c58, c83]) | simp [ei, eb, es, ec, c58, c83])) ?_)
            first | exact trivial | exact rfl
        · replace H := some_st H
          dsimp only [stp, sm] at H
          refine ⟨s189.1, ⟨H⟩, ⟨rfl⟩, ?_⟩
          repeat (refine And.intro (Ob.mk (by first | exact rfl | exact Iff.rfl | exact ⟨rfl, rfl⟩ | exact decide_eq_true_iff | (constructor <;> first | rfl | simp [ei, eb, es, ec, c58, c83]) | simp [ei, eb, es, ec, c58, c83])) ?_)
          first | exact trivial | exact rfl
      · intro v187 H
        obtain ⟨v217, hv218, H⟩ := call_st H
        refine ⟨(0, a3, v25.1, v217), ⟨hv218⟩, ⟨trivial⟩, ?_⟩
        refine And.intro ⟨rfl⟩ ?_
        refine And.intro ⟨rfl, hc3, (ec_len c58_len).trans (congrArg (· * 4) (show _ = _ from rfl)), hR3⟩ ?_
        refine And.intro ⟨by first | rfl | (simp; done), by first | rfl | (simp [ei, eb, es, ec, c58, c83]; done) | (simp only [ei, eb, es, ec, c58, c83, List.map_append, List.nil_append, List.append_assoc]; rfl)⟩ ?_
        refine ob_ck H fun h219 H => ?_
        refine R.cut_fam H 71 [8, 9] [] (fun v248 => []) (fun v248 => [(38, .cells 116 [.own 49, .v (.int .i64 (v248.1))]), (49, .arr 3 1 (v248.2.length) (ei .i64 (v248.2)))]) [(20, .arr 4 1 (v25.1.length) (eb (v25.1))), (30, .arr 4 1 (v27.1.length) (eb (v27.1))), (37, .cells 116 [.v (.slice none 0 0), .v (.int .i64 (0))])] 0 (fun H => ?_)
        refine And.intro ?_ ?_
        · refine R.loop_fam (bind_st H) [2, 3, 8, 9] [] (fun _ s250 => []) (fun _ s250 => [(38, .cells 116 [.own 49, .v (.int .i64 (s250.1))]), (49, .arr 3 1 (s250.2.length) (ei .i64 (s250.2)))]) 0 (fun n277 H => ?_)
          refine ⟨(n277, _), ⟨H⟩, ⟨trivial⟩, ?_⟩
          repeat (refine And.intro (Ob.mk (by first | exact rfl | exact Iff.rfl | exact ⟨rfl, rfl⟩ | exact decide_eq_true_iff | (constructor <;> first | rfl | simp [ei, eb, es, ec, c58, c83]) | simp [ei, eb, es, ec, c58, c83])) ?_)
          rintro ⟨m0, s250⟩ H _
          obtain ⟨m251, hm0, H⟩ := IG_succ H
          dsimp only at hm0
          subst hm0
          try dsimp only at H
          refine if_st H (fun h269 H => ?_) (fun h269 H => ?_)
          · obtain ⟨v270, hv271, H⟩ := call_st H
            refine ⟨(a3, v25.1, s250.2, v270), ⟨hv271⟩, ⟨trivial⟩, ?_⟩
            refine And.intro ⟨rfl, hc3, (ec_len c58_len).trans (congrArg (· * 4) (show _ = _ from rfl)), hR3⟩ ?_
            refine And.intro ⟨by first | rfl | (simp; done), by first | rfl | (simp [ei, eb, es, ec, c58, c83]; done) | (simp only [ei, eb, es, ec, c58, c83, List.map_append, List.nil_append, List.append_assoc]; rfl)⟩ ?_
            refine And.intro ⟨by first | rfl | (simp; done), by first | rfl | (simp [ei, eb, es, ec, c58, c83]; done) | (simp only [ei, eb, es, ec, c58, c83, List.map_append, List.nil_append, List.append_assoc]; rfl)⟩ ?_
            refine if_st H (fun h272 H => ?_) (fun h272 H => ?_)
            · replace H := some_st H
              dsimp only [stp, sm] at H
              refine ⟨(s250.1, s250.2), ⟨H⟩, ⟨rfl⟩, ?_⟩
              repeat (refine And.intro (Ob.mk (by first | exact rfl | exact Iff.rfl | exact ⟨rfl, rfl⟩ | exact decide_eq_true_iff | (constructor <;> first | rfl | simp [ei, eb, es, ec, c58, c83]) | simp [ei, eb, es, ec, c58, c83])) ?_)
              first | exact trivial | exact rfl
            · refine ob_ck H fun h273 H => ?_
              refine ld_int (e := s250.2.getD v270.toNat 0) (own_get (ys := ei .i64 s250.2) (by first | rfl | simp [ei, eb, es, ec, c58, c83]) (ei_get (l := s250.2) (by first | exact tn h273 | (have := tn h273; simp at this ⊢; omega) | (have := tn h273; simp; omega)))) ?_
              refine ob_ck H fun h274 H => ?_
              refine ob_ck H fun h275 H => ?_
              refine And.intro ⟨by first | (have := tn h275; simp [ei, eb, es, ec, c58, c83] at this ⊢; omega) | (have := tn h275; simp [ei, eb, es, ec, c58, c83]; omega)⟩ ?_
              refine ob_ck H fun h276 H => ?_
              replace H := some_st H
              refine ⟨(m251, (s250.1 - 1, (s250.2.set v270.toNat ((s250.2.getD v270.toNat 0) + 1)))), ⟨H, Nat.lt_succ_self _⟩, ⟨trivial⟩, ⟨rfl⟩, ?_⟩
              repeat (refine And.intro (Ob.mk (by first | exact rfl | exact Iff.rfl | exact ⟨rfl, rfl⟩ | exact decide_eq_true_iff | (constructor <;> first | rfl | simp [ei, eb, es, ec, c58, c83]) | simp [ei, eb, es, ec, c58, c83])) ?_)
              first | exact trivial | exact rfl
          · replace H := some_st H
            dsimp only [stp, sm] at H
            refine ⟨(s250.1, s250.2), ⟨H⟩, ⟨rfl⟩, ?_⟩
            repeat (refine And.intro (Ob.mk (by first | exact rfl | exact Iff.rfl | exact ⟨rfl, rfl⟩ | exact decide_eq_true_iff | (constructor <;> first | rfl | simp [ei, eb, es, ec, c58, c83]) | simp [ei, eb, es, ec, c58, c83])) ?_)
            first | exact trivial | exact rfl
        · intro v248 H
          refine R.cut_fam H 92 [0, 1, 2, 3, 8, 9] [] (fun v425 => []) (fun v425 => [(81, .cells 116 [.own 92, .v (.int .i64 (0))]), (92, .arr 3 1 (v425.length) (ei .i64 (v425)))]) [(38, .cells 116 [.own 49, .v (.int .i64 (v248.1))]), (49, .arr 3 1 (v248.2.length) (ei .i64 (v248.2))), (20, .arr 4 1 (v25.1.length) (eb (v25.1))), (30, .arr 4 1 (v27.1.length) (eb (v27.1))), (37, .cells 116 [.own 49, .v (.int .i64 (v248.1))]), (80, .cells 116 [.v (.slice none 0 0), .v (.int .i64 (0))])] 1 (fun H => ?_)
          refine And.intro ?_ ?_
          · refine R.loop_fam (bind_st H) [0, 1, 2, 3, 8, 9] [(100081, 0, 3, 1)] (fun _ s427 => [(10, .v (.int .i64 (s427.2)))]) (fun _ s427 => [(81, .cells 116 [.own 84, .v (.int .i64 (0))]), (84, .arr 3 1 (s427.1.length) (ei .i64 (s427.1)))]) 1 (fun n454 H => ?_)
            refine ⟨(n454, _), ⟨H⟩, ⟨trivial⟩, ?_⟩
            repeat (refine And.intro (Ob.mk (by first | exact rfl | exact Iff.rfl | exact ⟨rfl, rfl⟩ | exact decide_eq_true_iff | (constructor <;> first | rfl | simp [ei, eb, es, ec, c58, c83]) | simp [ei, eb, es, ec, c58, c83])) ?_)
            rintro ⟨m0, s427⟩ H _
            obtain ⟨m428, hm0, H⟩ := IG_succ H
            dsimp only at hm0
            subst hm0
            try dsimp only at H
            refine if_st H (fun h446 H => ?_) (fun h446 H => ?_)
            · refine ob_ck H fun h447 H => ?_
              refine ld_bool (e := v27.1.getD s427.2.toNat false) (own_get (ys := eb v27.1) (by first | rfl | simp [ei, eb, es, ec, c58, c83]) (eb_get (l := v27.1) (by first | exact tn h447 | (have := tn h447; simp at this ⊢; omega) | (have := tn h447; simp; omega)))) ?_
              refine if_st H (fun h448 H => ?_) (fun h448 H => ?_)
              · refine ob_ix hR4 (fun h => ec0 c58_len (by decide) h) H fun h449 H => ?_
                refine ld_int (e := (a4.getD s427.2.toNat default).1) (rd_get hR4 ((ec_get (i := s427.2.toNat) (o := 0) c58_len (tn h449) (by decide)).trans rfl)) ?_
                refine ob_app (by decide) (by first | exact ei_one | ((repeat (refine List.forall_mem_cons.2 ⟨rfl, ?_⟩)); intro y hy; cases hy; done) | (intro y hy; simp [ei, eb, es, ec, c58, c83] at hy; (first | (rcases hy with rfl | hy) | subst hy | skip); all_goals first | rfl | simp_all [Value.oneCell'])) H fun h450 H => ?_
                refine ob_ck H fun h451 H => ?_
                replace H := some_st H
                refine ⟨(m428, ((s427.1 ++ [(a4.getD s427.2.toNat default).1]), s427.2 + 1)), ⟨H, Nat.lt_succ_self _⟩, ⟨trivial⟩, ⟨rfl⟩, ?_⟩
                repeat (refine And.intro (Ob.mk (by first | exact rfl | exact Iff.rfl | exact ⟨rfl, rfl⟩ | exact decide_eq_true_iff | (constructor <;> first | rfl | simp [ei, eb, es, ec, c58, c83]) | simp [ei, eb, es, ec, c58, c83])) ?_)
                first | exact trivial | exact rfl
              · refine ob_app (by decide) (by first | exact ei_one | ((repeat (refine List.forall_mem_cons.2 ⟨rfl, ?_⟩)); intro y hy; cases hy; done) | (intro y hy; simp [ei, eb, es, ec, c58, c83] at hy; (first | (rcases hy with rfl | hy) | subst hy | skip); all_goals first | rfl | simp_all [Value.oneCell'])) H fun h452 H => ?_
                refine ob_ck H fun h453 H => ?_
                replace H := some_st H
                refine ⟨(m428, ((s427.1 ++ [0]), s427.2 + 1)), ⟨H, Nat.lt_succ_self _⟩, ⟨trivial⟩, ⟨rfl⟩, ?_⟩
                repeat (refine And.intro (Ob.mk (by first | exact rfl | exact Iff.rfl | exact ⟨rfl, rfl⟩ | exact decide_eq_true_iff | (constructor <;> first | rfl | simp [ei, eb, es, ec, c58, c83]) | simp [ei, eb, es, ec, c58, c83])) ?_)
                first | exact trivial | exact rfl
            · replace H := some_st H
              dsimp only [stp, sm] at H
              refine ⟨s427.1, ⟨H⟩, ⟨rfl⟩, ?_⟩
              repeat (refine And.intro (Ob.mk (by first | exact rfl | exact Iff.rfl | exact ⟨rfl, rfl⟩ | exact decide_eq_true_iff | (constructor <;> first | rfl | simp [ei, eb, es, ec, c58, c83]) | simp [ei, eb, es, ec, c58, c83])) ?_)
              first | exact trivial | exact rfl
          · intro v425 H
            obtain ⟨v455, hv456, H⟩ := call_st H
            refine ⟨(a2, a4, v27.1, v455), ⟨hv456⟩, ⟨trivial⟩, ?_⟩
            refine And.intro ⟨rfl⟩ ?_
            refine And.intro ⟨rfl, hc4, (ec_len c58_len).trans (congrArg (· * 4) (show _ = _ from rfl)), hR4⟩ ?_
            refine And.intro ⟨by first | rfl | (simp; done), by first | rfl | (simp [ei, eb, es, ec, c58, c83]; done) | (simp only [ei, eb, es, ec, c58, c83, List.map_append, List.nil_append, List.append_assoc]; rfl)⟩ ?_
            refine ob_ck H fun h457 H => ?_
            refine R.cut_fam H 114 [8, 9] [] (fun v486 => []) (fun v486 => [(81, .cells 116 [.own 92, .v (.int .i64 (v486.1))]), (92, .arr 3 1 (v486.2.length) (ei .i64 (v486.2)))]) [(38, .cells 116 [.own 49, .v (.int .i64 (v248.1))]), (49, .arr 3 1 (v248.2.length) (ei .i64 (v248.2))), (20, .arr 4 1 (v25.1.length) (eb (v25.1))), (30, .arr 4 1 (v27.1.length) (eb (v27.1))), (37, .cells 116 [.own 49, .v (.int .i64 (v248.1))]), (80, .cells 116 [.v (.slice none 0 0), .v (.int .i64 (0))])] 0 (fun H => ?_)
            refine And.intro ?_ ?_
            · refine R.loop_fam (bind_st H) [2, 3, 8, 9] [] (fun _ s488 => []) (fun _ s488 => [(81, .cells 116 [.own 92, .v (.int .i64 (s488.1))]), (92, .arr 3 1 (s488.2.length) (ei .i64 (s488.2)))]) 0 (fun n515 H => ?_)
              refine ⟨(n515, _), ⟨H⟩, ⟨trivial⟩, ?_⟩
              repeat (refine And.intro (Ob.mk (by first | exact rfl | exact Iff.rfl | exact ⟨rfl, rfl⟩ | exact decide_eq_true_iff | (constructor <;> first | rfl | simp [ei, eb, es, ec, c58, c83]) | simp [ei, eb, es, ec, c58, c83])) ?_)
              rintro ⟨m0, s488⟩ H _
              obtain ⟨m489, hm0, H⟩ := IG_succ H
              dsimp only at hm0
              subst hm0
              try dsimp only at H
              refine if_st H (fun h507 H => ?_) (fun h507 H => ?_)
              · obtain ⟨v508, hv509, H⟩ := call_st H
                refine ⟨(a4, v27.1, s488.2, v508), ⟨hv509⟩, ⟨trivial⟩, ?_⟩
                refine And.intro ⟨rfl, hc4, (ec_len c58_len).trans (congrArg (· * 4) (show _ = _ from rfl)), hR4⟩ ?_
                refine And.intro ⟨by first | rfl | (simp; done), by first | rfl | (simp [ei, eb, es, ec, c58, c83]; done) | (simp only [ei, eb, es, ec, c58, c83, List.map_append, List.nil_append, List.append_assoc]; rfl)⟩ ?_
                refine And.intro ⟨by first | rfl | (simp; done), by first | rfl | (simp [ei, eb, es, ec, c58, c83]; done) | (simp only [ei, eb, es, ec, c58, c83, List.map_append, List.nil_append, List.append_assoc]; rfl)⟩ ?_
                refine if_st H (fun h510 H => ?_) (fun h510 H => ?_)
                · replace H := some_st H
                  dsimp only [stp, sm] at H
                  refine ⟨(s488.1, s488.2), ⟨H⟩, ⟨rfl⟩, ?_⟩
                  repeat (refine And.intro (Ob.mk (by first | exact rfl | exact Iff.rfl | exact ⟨rfl, rfl⟩ | exact decide_eq_true_iff | (constructor <;> first | rfl | simp [ei, eb, es, ec, c58, c83]) | simp [ei, eb, es, ec, c58, c83])) ?_)
                  first | exact trivial | exact rfl
                · refine ob_ck H fun h511 H => ?_
                  refine ld_int (e := s488.2.getD v508.toNat 0) (own_get (ys := ei .i64 s488.2) (by first | rfl | simp [ei, eb, es, ec, c58, c83]) (ei_get (l := s488.2) (by first | exact tn h511 | (have := tn h511; simp at this ⊢; omega) | (have := tn h511; simp; omega)))) ?_
                  refine ob_ck H fun h512 H => ?_
                  refine ob_ck H fun h513 H => ?_
                  refine And.intro ⟨by first | (have := tn h513; simp [ei, eb, es, ec, c58, c83] at this ⊢; omega) | (have := tn h513; simp [ei, eb, es, ec, c58, c83]; omega)⟩ ?_
                  refine ob_ck H fun h514 H => ?_
                  replace H := some_st H
                  refine ⟨(m489, (s488.1 - 1, (s488.2.set v508.toNat ((s488.2.getD v508.toNat 0) + 1)))), ⟨H, Nat.lt_succ_self _⟩, ⟨trivial⟩, ⟨rfl⟩, ?_⟩
                  repeat (refine And.intro (Ob.mk (by first | exact rfl | exact Iff.rfl | exact ⟨rfl, rfl⟩ | exact decide_eq_true_iff | (constructor <;> first | rfl | simp [ei, eb, es, ec, c58, c83]) | simp [ei, eb, es, ec, c58, c83])) ?_)
                  first | exact trivial | exact rfl
              · replace H := some_st H
                dsimp only [stp, sm] at H
                refine ⟨(s488.1, s488.2), ⟨H⟩, ⟨rfl⟩, ?_⟩
                repeat (refine And.intro (Ob.mk (by first | exact rfl | exact Iff.rfl | exact ⟨rfl, rfl⟩ | exact decide_eq_true_iff | (constructor <;> first | rfl | simp [ei, eb, es, ec, c58, c83]) | simp [ei, eb, es, ec, c58, c83])) ?_)
                first | exact trivial | exact rfl
            · intro v486 H
              obtain ⟨v516, hv517, H⟩ := call_st H
              refine ⟨(a1, 0, 0, a3, v516), ⟨hv517⟩, ⟨trivial⟩, ?_⟩
              refine And.intro ⟨rfl⟩ ?_
              refine And.intro ⟨rfl⟩ ?_
              refine And.intro ⟨rfl⟩ ?_
              refine And.intro ⟨rfl, hc3, (ec_len c58_len).trans (congrArg (· * 4) (show _ = _ from rfl)), hR3⟩ ?_
              obtain ⟨v518, hv519, H⟩ := call_st H
              refine ⟨(a0, a2, 0, a4, v518), ⟨hv519⟩, ⟨trivial⟩, ?_⟩
              refine And.intro ⟨rfl⟩ ?_
              refine And.intro ⟨rfl⟩ ?_
              refine And.intro ⟨rfl⟩ ?_
              refine And.intro ⟨rfl, hc4, (ec_len c58_len).trans (congrArg (· * 4) (show _ = _ from rfl)), hR4⟩ ?_
              refine R.cut_fam H 146 [] [] (fun v885 => [(21, .own 146)]) (fun v885 => [(146, .arr 83 4 (v885.length) (ec c83 (v885)))]) [(81, .cells 116 [.own 92, .v (.int .i64 (v486.1))]), (92, .arr 3 1 (v486.2.length) (ei .i64 (v486.2))), (38, .cells 116 [.own 49, .v (.int .i64 (v248.1))]), (49, .arr 3 1 (v248.2.length) (ei .i64 (v248.2))), (20, .arr 4 1 (v25.1.length) (eb (v25.1))), (30, .arr 4 1 (v27.1.length) (eb (v27.1))), (37, .cells 116 [.own 49, .v (.int .i64 (v248.1))]), (80, .cells 116 [.own 92, .v (.int .i64 (v486.1))]), (124, .arr 3 1 (v516.1.length) (ei .i64 (v516.1))), (134, .arr 3 1 (v518.1.length) (ei .i64 (v518.1)))] 1 (fun H => ?_)
              refine And.intro ?_ ?_
              · refine R.loop_fam (bind_st H) [3, 4, 11, 13, 15, 16, 17, 19] [(21, 0, 83, 4)] (fun _ s887 => [(21, .own 138), (22, .v (.int .i64 (s887.2)))]) (fun _ s887 => [(138, .arr 83 4 (s887.1.length) (ec c83 (s887.1)))]) 1 (fun n1232 H => ?_)
                refine ⟨(n1232, _), ⟨H⟩, ⟨trivial⟩, ?_⟩
                repeat (refine And.intro (Ob.mk (by first | exact rfl | exact Iff.rfl | exact ⟨rfl, rfl⟩ | exact decide_eq_true_iff | (constructor <;> first | rfl | simp [ei, eb, es, ec, c58, c83]) | simp [ei, eb, es, ec, c58, c83])) ?_)
                rintro ⟨m0, s887⟩ H _
                obtain ⟨m888, hm0, H⟩ := IG_succ H
                dsimp only at hm0
                subst hm0
                try dsimp only at H
                refine if_st H (fun h1118 H => ?_) (fun h1118 H => ?_)
                · refine R.cut_fam H 152 [3, 4, 11, 13, 15, 16, 17, 19, 22] [] (fun v1174 => [(21, .own 152)]) (fun v1174 => [(152, .arr 83 4 (v1174.length) (ec c83 (v1174)))]) [(81, .cells 116 [.own 92, .v (.int .i64 (v486.1))]), (92, .arr 3 1 (v486.2.length) (ei .i64 (v486.2))), (38, .cells 116 [.own 49, .v (.int .i64 (v248.1))]), (49, .arr 3 1 (v248.2.length) (ei .i64 (v248.2))), (20, .arr 4 1 (v25.1.length) (eb (v25.1))), (30, .arr 4 1 (v27.1.length) (eb (v27.1))), (37, .cells 116 [.own 49, .v (.int .i64 (v248.1))]), (80, .cells 116 [.own 92, .v (.int .i64 (v486.1))]), (124, .arr 3 1 (v516.1.length) (ei .i64 (v516.1))), (134, .arr 3 1 (v518.1.length) (ei .i64 (v518.1)))] 1 (fun H => ?_)
                  refine And.intro ?_ ?_
                  · refine R.loop_fam (bind_st H) [3, 4, 11, 13, 15, 16, 17, 19, 22] [] (fun _ s1176 => [(21, .own 144), (23, .v (.int .i64 (s1176.2)))]) (fun _ s1176 => [(144, .arr 83 4 (s1176.1.length) (ec c83 (s1176.1)))]) 1 (fun n1230 H => ?_)
                    refine ⟨(n1230, _), ⟨H⟩, ⟨trivial⟩, ?_⟩
                    repeat (refine And.intro (Ob.mk (by first | exact rfl | exact Iff.rfl | exact ⟨rfl, rfl⟩ | exact decide_eq_true_iff | (constructor <;> first | rfl | simp [ei, eb, es, ec, c58, c83]) | simp [ei, eb, es, ec, c58, c83])) ?_)
                    rintro ⟨m0, s1176⟩ H _
                    obtain ⟨m1177, hm0, H⟩ := IG_succ H
                    dsimp only at hm0
                    subst hm0
                    try dsimp only at H
                    refine if_st H (fun h1213 H => ?_) (fun h1213 H => ?_)
                    · refine R.cut_fam H 160 [3, 4, 11, 13, 15, 16, 17, 19, 21, 22, 23] [] (fun v1217 => [(93, bS v1217)]) (fun v1217 => []) [(144, .arr 83 4 (s1176.1.length) (ec c83 (s1176.1))), (81, .cells 116 [.own 92, .v (.int .i64 (v486.1))]), (92, .arr 3 1 (v486.2.length) (ei .i64 (v486.2))), (38, .cells 116 [.own 49, .v (.int .i64 (v248.1))]), (49, .arr 3 1 (v248.2.length) (ei .i64 (v248.2))), (20, .arr 4 1 (v25.1.length) (eb (v25.1))), (30, .arr 4 1 (v27.1.length) (eb (v27.1))), (37, .cells 116 [.own 49, .v (.int .i64 (v248.1))]), (80, .cells 116 [.own 92, .v (.int .i64 (v486.1))]), (124, .arr 3 1 (v516.1.length) (ei .i64 (v516.1))), (134, .arr 3 1 (v518.1.length) (ei .i64 (v518.1)))] 0 (fun H => ?_)
                      refine And.intro ?_ ?_
                      · refine ob_ck H fun h1219 H => ?_
                        refine ld_bool (e := v25.1.getD s887.2.toNat false) (own_get (ys := eb v25.1) (by first | rfl | simp [ei, eb, es, ec, c58, c83]) (eb_get (l := v25.1) (by first | exact tn h1219 | (have := tn h1219; simp at this ⊢; omega) | (have := tn h1219; simp; omega)))) ?_
                        refine if_st H (fun h1220 H => ?_) (fun h1220 H => ?_)
                        · refine ob_ck H fun h1221 H => ?_
                          refine ld_bool (e := v27.1.getD s1176.2.toNat false) (own_get (ys := eb v27.1) (by first | rfl | simp [ei, eb, es, ec, c58, c83]) (eb_get (l := v27.1) (by first | exact tn h1221 | (have := tn h1221; simp at this ⊢; omega) | (have := tn h1221; simp; omega)))) ?_
                          refine ⟨(decide ((v27.1.getD s1176.2.toNat false) = true)), ⟨H⟩, ⟨rfl⟩, ?_⟩
                          repeat (refine And.intro (Ob.mk (by first | exact rfl | exact Iff.rfl | exact ⟨rfl, rfl⟩ | exact decide_eq_true_iff | (constructor <;> first | rfl | simp [ei, eb, es, ec, c58, c83]) | simp [ei, eb, es, ec, c58, c83])) ?_)
                          first | exact trivial | exact rfl
                        · refine ⟨false, ⟨H⟩, ⟨rfl⟩, ?_⟩
                          repeat (refine And.intro (Ob.mk (by first | exact rfl | exact Iff.rfl | exact ⟨rfl, rfl⟩ | exact decide_eq_true_iff | (constructor <;> first | rfl | simp [ei, eb, es, ec, c58, c83]) | simp [ei, eb, es, ec, c58, c83])) ?_)
                          first | exact trivial | exact rfl
                      · intro v1217 H
                        refine if_st H (fun h1222 H => ?_) (fun h1222 H => ?_)
                        · refine And.intro ⟨by kernel_rfl⟩ ?_
                          refine ⟨(Pn.calm 0 (Pn.calm 1 (Pn.calm 2 (Pn.calm 3 (Pn.calm 4 (Pn.calm 5 (Pn.calm 6 (Pn.calm 7 (Pn.calm 8 (Pn.calm 9 (Pn.calm 10 (Pn.calm 11 (Pn.calm 12 (Pn.calm 13 (Pn.calm 14 (Pn.calm 15 (Pn.calm 16 (Pn.calm 17 (Pn.eff 18 [17, 4, 8, 12, 16, 3, 7, 11, 15, 1, 2, 5, 6, 9, 10, 13, 14] (Pn.eff 19 [0, 18, 17, 4, 8, 12, 16, 3, 7, 11, 15, 1, 2, 5, 6, 9, 10, 13, 14] (Pn.calm 20 Pn.done) Pn.no) Pn.no))))))))))))))))))), ⟨by kernel_rfl⟩, ?_⟩
                          refine ob_ck H fun h1223 H => ?_
                          refine ld_int (e := v516.1.getD s887.2.toNat 0) (own_get (ys := ei .i64 v516.1) (by first | rfl | simp [ei, eb, es, ec, c58, c83]) (ei_get (l := v516.1) (by first | exact tn h1223 | (have := tn h1223; simp at this ⊢; omega) | (have := tn h1223; simp; omega)))) ?_
                          refine ob_ck H fun h1224 H => ?_
                          refine ld_int (e := v518.1.getD s1176.2.toNat 0) (own_get (ys := ei .i64 v518.1) (by first | rfl | simp [ei, eb, es, ec, c58, c83]) (ei_get (l := v518.1) (by first | exact tn h1224 | (have := tn h1224; simp at this ⊢; omega) | (have := tn h1224; simp; omega)))) ?_
                          refine ob_ck H fun h1225 H => ?_
                          refine ld_int (e := v248.2.getD s887.2.toNat 0) (own_get (ys := ei .i64 v248.2) (by first | rfl | simp [ei, eb, es, ec, c58, c83]) (ei_get (l := v248.2) (by first | exact tn h1225 | (have := tn h1225; simp at this ⊢; omega) | (have := tn h1225; simp; omega)))) ?_
                          refine ob_ck H fun h1226 H => ?_
                          refine ld_int (e := v486.2.getD s1176.2.toNat 0) (own_get (ys := ei .i64 v486.2) (by first | rfl | simp [ei, eb, es, ec, c58, c83]) (ei_get (l := v486.2) (by first | exact tn h1226 | (have := tn h1226; simp at this ⊢; omega) | (have := tn h1226; simp; omega)))) ?_
                          refine And.intro ?_ trivial
                          refine And.intro ⟨rfl⟩ ?_
                          refine And.intro ?_ trivial
                          refine ob_app (by decide) (by first | exact (ec_one c83_one) | ((repeat (refine List.forall_mem_cons.2 ⟨rfl, ?_⟩)); intro y hy; cases hy; done) | (intro y hy; simp [ei, eb, es, ec, c58, c83] at hy; (first | (rcases hy with rfl | hy) | subst hy | skip); all_goals first | rfl | simp_all [Value.oneCell'])) H fun h1227 H => ?_
                          refine And.intro ⟨rfl⟩ ?_
                          refine ob_ck H fun h1228 H => ?_
                          replace H := some_st H
                          refine ⟨(m1177, ((s1176.1 ++ [(v516.1.getD s887.2.toNat 0, v518.1.getD s1176.2.toNat 0, v248.2.getD s887.2.toNat 0, v486.2.getD s1176.2.toNat 0)]), s1176.2 + 1)), ⟨H, Nat.lt_succ_self _⟩, ⟨trivial⟩, ⟨rfl⟩, ?_⟩
                          repeat (refine And.intro (Ob.mk (by first | exact rfl | exact Iff.rfl | exact ⟨rfl, rfl⟩ | exact decide_eq_true_iff | (constructor <;> first | rfl | simp [ei, eb, es, ec, c58, c83]) | simp [ei, eb, es, ec, c58, c83])) ?_)
                          first | exact trivial | exact rfl
                        · refine ob_ck H fun h1229 H => ?_
                          replace H := some_st H
                          refine ⟨(m1177, (s1176.1, s1176.2 + 1)), ⟨H, Nat.lt_succ_self _⟩, ⟨trivial⟩, ⟨rfl⟩, ?_⟩
                          repeat (refine And.intro (Ob.mk (by first | exact rfl | exact Iff.rfl | exact ⟨rfl, rfl⟩ | exact decide_eq_true_iff | (constructor <;> first | rfl | simp [ei, eb, es, ec, c58, c83]) | simp [ei, eb, es, ec, c58, c83])) ?_)
                          first | exact trivial | exact rfl
                    · replace H := some_st H
                      dsimp only [stp, sm] at H
                      refine ⟨s1176.1, ⟨H⟩, ⟨rfl⟩, ?_⟩
                      repeat (refine And.intro (Ob.mk (by first | exact rfl | exact Iff.rfl | exact ⟨rfl, rfl⟩ | exact decide_eq_true_iff | (constructor <;> first | rfl | simp [ei, eb, es, ec, c58, c83]) | simp [ei, eb, es, ec, c58, c83])) ?_)
                      first | exact trivial | exact rfl
                  · intro v1174 H
                    refine ob_ck H fun h1231 H => ?_
                    replace H := some_st H
                    refine ⟨(m888, (v1174, s887.2 + 1)), ⟨H, Nat.lt_succ_self _⟩, ⟨trivial⟩, ⟨rfl⟩, ?_⟩
                    repeat (refine And.intro (Ob.mk (by first | exact rfl | exact Iff.rfl | exact ⟨rfl, rfl⟩ | exact decide_eq_true_iff | (constructor <;> first | rfl | simp [ei, eb, es, ec, c58, c83]) | simp [ei, eb, es, ec, c58, c83])) ?_)
                    first | exact trivial | exact rfl
                · replace H := some_st H
                  dsimp only [stp, sm] at H
                  refine ⟨s887.1, ⟨H⟩, ⟨rfl⟩, ?_⟩
                  repeat (refine And.intro (Ob.mk (by first | exact rfl | exact Iff.rfl | exact ⟨rfl, rfl⟩ | exact decide_eq_true_iff | (constructor <;> first | rfl | simp [ei, eb, es, ec, c58, c83]) | simp [ei, eb, es, ec, c58, c83])) ?_)
                  first | exact trivial | exact rfl
              · intro v885 H
                have hfin := fin_st H
                repeat (refine And.intro (Ob.mk (by first | (rw [← hfin] <;> first | exact rfl | exact Iff.rfl | exact ⟨rfl, rfl⟩ | exact decide_eq_true_iff | (constructor <;> first | rfl | simp [ei, eb, es, ec, c58, c83]) | simp [ei, eb, es, ec, c58, c83]) | first | exact rfl | exact Iff.rfl | exact ⟨rfl, rfl⟩ | exact decide_eq_true_iff | (constructor <;> first | rfl | simp [ei, eb, es, ec, c58, c83]) | simp [ei, eb, es, ec, c58, c83])) ?_)
                first | exact trivial | exact rfl

/-- placard/placardlaw16.told -/
noncomputable def g54 (a0 : Int) (a1 : Int) (a2 : Int) (a3 : List (Int × Int × Int × Int)) (a4 : List (Int × Int × Int × Int)) (a5 : Int) : Option (List (Int × Int × Int × Int) × Bool) :=
  jn (α := _) (β := List (Int × Int × Int × Int) × Bool) (fun k1969 =>
      jn (α := _) (β := List Int × List Int × Bool) (fun k2042 =>
          (g40 a1 0 0 a3).bind fun v2043 =>
          if ¬ v2043.2 = 0 then
            k2042 ([], [], false)
          else
            (
              (g79 a1 0 a3).bind fun v2046 =>
              (g78 a1 0 v2046 a3).bind fun v2048 =>
              jn (α := _) (β := List Int × List Int) (fun k2082 =>
                  (loopO (σ := List Int × List Int × Int) (ρ := List Int × List Int) (fun s2083 =>
                      if s2083.2.2 < ((v2046.length : Nat) : Int) then
                        (
                          ck (0 ≤ s2083.2.2 ∧ s2083.2.2 < ((v2046.length : Nat) : Int)) <|
                          if (v2046.getD s2083.2.2.toNat false) = true then
                            (
                              ck (0 ≤ s2083.2.2 ∧ s2083.2.2 < ((v2043.1.length : Nat) : Int)) <|
                              ck ((s2083.1.length + 1) * 8 ≤ 140737488355328) <|
                              ck (0 ≤ s2083.2.2 ∧ s2083.2.2 < ((v2048.1.length : Nat) : Int)) <|
                              ck ((s2083.2.1.length + 1) * 8 ≤ 140737488355328) <|
                              ck (inR .i64 (s2083.2.2 + 1)) <|
                              some (.go ((s2083.1 ++ [v2043.1.getD s2083.2.2.toNat 0]), (s2083.2.1 ++ [v2048.1.getD s2083.2.2.toNat 0]), s2083.2.2 + 1))
                            )
                          else
                            (
                              ck (inR .i64 (s2083.2.2 + 1)) <|
                              some (.go (s2083.1, s2083.2.1, s2083.2.2 + 1))
                            )
                        )
                      else
                        some (.out (s2083.1, s2083.2.1))
                    ) ([], [], 0)).bind fun o2103 =>
                    k2082 (o2103.1, o2103.2)
              ) (fun v2081 =>
                k2042 (v2081.1, v2081.2, true)
              )
            )
      ) (fun v2041 =>
        jn (α := _) (β := List Int × List Int × Bool) (fun k2186 =>
            (g40 a0 a2 0 a4).bind fun v2187 =>
            if ¬ v2187.2 = 0 then
              k2186 ([], [], false)
            else
              (
                (g79 a0 a2 a4).bind fun v2190 =>
                (g78 a0 a2 v2190 a4).bind fun v2192 =>
                jn (α := _) (β := List Int × List Int) (fun k2226 =>
                    (loopO (σ := List Int × List Int × Int) (ρ := List Int × List Int) (fun s2227 =>
                        if s2227.2.2 < ((v2190.length : Nat) : Int) then
                          (
                            ck (0 ≤ s2227.2.2 ∧ s2227.2.2 < ((v2190.length : Nat) : Int)) <|
                            if (v2190.getD s2227.2.2.toNat false) = true then
                              (
                                ck (0 ≤ s2227.2.2 ∧ s2227.2.2 < ((v2187.1.length : Nat) : Int)) <|
                                ck ((s2227.1.length + 1) * 8 ≤ 140737488355328) <|
                                ck (0 ≤ s2227.2.2 ∧ s2227.2.2 < ((v2192.1.length : Nat) : Int)) <|
                                ck ((s2227.2.1.length + 1) * 8 ≤ 140737488355328) <|
                                ck (inR .i64 (s2227.2.2 + 1)) <|
                                some (.go ((s2227.1 ++ [v2187.1.getD s2227.2.2.toNat 0]), (s2227.2.1 ++ [v2192.1.getD s2227.2.2.toNat 0]), s2227.2.2 + 1))
                              )
                            else
                              (
                                ck (inR .i64 (s2227.2.2 + 1)) <|
                                some (.go (s2227.1, s2227.2.1, s2227.2.2 + 1))
                              )
                          )
                        else
                          some (.out (s2227.1, s2227.2.1))
                      ) ([], [], 0)).bind fun o2247 =>
                      k2226 (o2247.1, o2247.2)
                ) (fun v2225 =>
                  k2186 (v2225.1, v2225.2, true)
                )
              )
        ) (fun v2185 =>
          if ¬ (v2041.2.2 = true) then
            k1969 ([], true)
          else
            (
              if ¬ (v2185.2.2 = true) then
                k1969 ([], true)
              else
                (
                  (loopO (σ := List (Int × Int × Int × Int) × Bool × Int) (ρ := (List (Int × Int × Int × Int) × Bool) ⊕ (List (Int × Int × Int × Int) × Bool)) (fun s2260 =>
                      if s2260.2.2 < ((v2041.1.length : Nat) : Int) then
                        (
                          jn (α := _) (β := List (Int × Int × Int × Int) × Bool) (fun k2492 =>
                              (loopO (σ := List (Int × Int × Int × Int) × Bool × Int) (ρ := (List (Int × Int × Int × Int) × Bool) ⊕ (List (Int × Int × Int × Int) × Bool)) (fun s2493 =>
                                  if s2493.2.2 < ((v2185.1.length : Nat) : Int) then
                                    (
                                      ck (0 ≤ s2260.2.2 ∧ s2260.2.2 < ((v2041.1.length : Nat) : Int)) <|
                                      ck (0 ≤ s2493.2.2 ∧ s2493.2.2 < ((v2185.1.length : Nat) : Int)) <|
                                      ck (0 ≤ s2260.2.2 ∧ s2260.2.2 < ((v2041.2.1.length : Nat) : Int)) <|
                                      ck (0 ≤ s2493.2.2 ∧ s2493.2.2 < ((v2185.2.1.length : Nat) : Int)) <|
                                      ck (inR .i64 (s2260.2.2 * ((v2185.1.length : Nat) : Int))) <|
                                      ck (inR .i64 ((s2260.2.2 * ((v2185.1.length : Nat) : Int)) + s2493.2.2)) <|
                                      if a5 ≤ ((s2493.1.length : Nat) : Int) then
                                        some (.out (.inl ((s2493.1, s2493.2.1))))
                                      else
                                        (
                                          if s2493.2.1 = true then
                                            (
                                              ck ((s2493.1.length + 1) * 32 ≤ 140737488355328) <|
                                              ck (inR .i64 (s2493.2.2 + 1)) <|
                                              some (.go ((s2493.1 ++ [(v2041.1.getD s2260.2.2.toNat 0, v2185.1.getD s2493.2.2.toNat 0, v2041.2.1.getD s2260.2.2.toNat 0, v2185.2.1.getD s2493.2.2.toNat 0)]), (decide (((s2260.2.2 * ((v2185.1.length : Nat) : Int)) + s2493.2.2) = ((s2493.1.length : Nat) : Int))), s2493.2.2 + 1))
                                            )
                                          else
                                            (
                                              ck ((s2493.1.length + 1) * 32 ≤ 140737488355328) <|
                                              ck (inR .i64 (s2493.2.2 + 1)) <|
                                              some (.go ((s2493.1 ++ [(v2041.1.getD s2260.2.2.toNat 0, v2185.1.getD s2493.2.2.toNat 0, v2041.2.1.getD s2260.2.2.toNat 0, v2185.2.1.getD s2493.2.2.toNat 0)]), false, s2493.2.2 + 1))
                                            )
                                        )
                                    )
                                  else
                                    some (.out (.inr ((s2493.1, s2493.2.1))))
                                ) (s2260.1, s2260.2.1, 0)).bind fun o2521 =>
                              sm o2521 (fun o2535 =>
                                  some (.out (.inl ((o2535.1, o2535.2))))
                                ) (fun o2536 =>
                                  k2492 (o2536.1, o2536.2)
                                )
                          ) (fun v2491 =>
                            ck (inR .i64 (s2260.2.2 + 1)) <|
                            some (.go (v2491.1, v2491.2, s2260.2.2 + 1))
                          )
                        )
                      else
                        some (.out (.inr ((s2260.1, s2260.2.1))))
                    ) ([], true, 0)).bind fun o2444 =>
                  sm o2444 (fun o2539 =>
                      k1969 (o2539.1, o2539.2)
                    ) (fun o2540 =>
                      k1969 (o2540.1, o2540.2)
                    )
                )
            )
        )
      )
  ) (fun v1968 =>
    some (v1968.1, v1968.2)
  )
noncomputable def k54 : Eng.CS := { f := 54, calm := false, more := 1, ι := Int × Int × Int × (List (Int × Int × Int × Int)) × (List (Int × Int × Int × Int)) × Int × (List (Int × Int × Int × Int) × Bool), ok := fun i => g54 i.1 i.2.1 i.2.2.1 i.2.2.2.1 i.2.2.2.2.1 i.2.2.2.2.2.1 = some i.2.2.2.2.2.2, rds := fun _ => [], args := fun i => [.w (.v (.int .i64 (i.1))), .w (.v (.int .i64 (i.2.1))), .w (.v (.int .i64 (i.2.2.1))), .sl 4 i.2.2.2.1.length (ec c58 i.2.2.2.1), .sl 4 i.2.2.2.2.1.length (ec c58 i.2.2.2.2.1), .w (.v (.int .i64 (i.2.2.2.2.2.1)))], res := fun i => .tup [.own 0, bS i.2.2.2.2.2.2.2], L' := fun i => [(0, .arr 83 4 i.2.2.2.2.2.2.1.length (ec c83 i.2.2.2.2.2.2.1))], rn := [(0, 0, 83, 4)] }
set_option maxRecDepth 8000 in
set_option maxHeartbeats 4000000 in
theorem k54_ok : CSOk Try.prog k54 := by
  refine R.cspec Try.func54 nm54 rfl ?_
  rintro ⟨a0, a1, a2, a3, a4, a5, r⟩ hok q _ args hargs
  match args, hargs with
  | [_, _, _, _, _, _], hargs =>
  obtain ⟨rfl, rfl, rfl, ⟨A3, cp3, rfl, hc3, _, hR3⟩, ⟨A4, cp4, rfl, hc4, _, hR4⟩, rfl, _⟩ := hargs
  refine ⟨envC [k40, k78, k79] false [(54, 12), (95, 1), (95, 2), (95, 12), (96, 14)], 6, envC_ok (css_cons ⟨fun h => (by cases h), fun _ => k40_ok⟩ (css_cons ⟨fun h => (by cases h), fun _ => k78_ok⟩ (css_cons ⟨fun h => (by cases h), fun _ => k79_ok⟩ (css_nil)))), ?_⟩
  have H : Gives (g54 a0 a1 a2 a3 a4 a5) (fun a => a = r) := ⟨r, hok, rfl⟩
  unfold g54 at H
  clear hok
  refine R.cut_fam H 204 [15, 16] [(100020, 0, 83, 4)] (fun v1968 => []) (fun v1968 => [(20, .cells 78 [.own 204]), (21, .cells 4 [bS v1968.2]), (204, .arr 83 4 (v1968.1.length) (ec c83 (v1968.1)))]) [(0, .cells 3 [.v (.int .i64 (a5))]), (10, .cells 3 [.v (.int .i64 (a0))]), (11, .cells 3 [.v (.int .i64 (a1))]), (12, .cells 3 [.v (.int .i64 (a2))]), (13, .cells 47 [.v (.slice (A3) (a3.length) (cp3))]), (14, .cells 47 [.v (.slice (A4) (a4.length) (cp4))])] 1 (fun H => ?_)
  refine And.intro ?_ ?_
  · refine R.cut_fam H 90 [0, 3, 4, 5] [(7, 0, 3, 1), (8, 0, 3, 1)] (fun v2041 => [(7, .own 90), (8, .own 91), (9, bS v2041.2.2)]) (fun v2041 => [(90, .arr 3 1 (v2041.1.length) (ei .i64 (v2041.1))), (91, .arr 3 1 (v2041.2.1.length) (ei .i64 (v2041.2.1)))]) [(0, .cells 3 [.v (.int .i64 (a5))]), (10, .cells 3 [.v (.int .i64 (a0))]), (11, .cells 3 [.v (.int .i64 (a1))]), (12, .cells 3 [.v (.int .i64 (a2))]), (13, .cells 47 [.v (.slice (A3) (a3.length) (cp3))]), (14, .cells 47 [.v (.slice (A4) (a4.length) (cp4))]), (20, .cells 78 [.v (.slice none 0 0)]), (21, .cells 4 [.bb true]), (24, .loop .ready none), (25, .dfr)] 2 (fun H => ?_)
    refine And.intro ?_ ?_
    · obtain ⟨v2043, hv2044, H⟩ := call_st H
      refine ⟨(a1, 0, 0, a3, v2043), ⟨hv2044⟩, ⟨trivial⟩, ?_⟩
      refine And.intro ⟨rfl⟩ ?_
      refine And.intro ⟨rfl⟩ ?_
      refine And.intro ⟨rfl⟩ ?_
      refine And.intro ⟨rfl, hc3, (ec_len c58_len).trans (congrArg (· * 4) (show _ = _ from rfl)), hR3⟩ ?_
      refine if_st H (fun h2045 H => ?_) (fun h2045 H => ?_)
      · refine ⟨([], [], false), ⟨H⟩, ⟨rfl⟩, ?_⟩
        repeat (refine And.intro (Ob.mk (by first | exact rfl | exact Iff.rfl | exact ⟨rfl, rfl⟩ | exact decide_eq_true_iff | (constructor <;> first | rfl | simp [ei, eb, es, ec, c58, c83]) | simp [ei, eb, es, ec, c58, c83])) ?_)
        first | exact trivial | exact rfl
      · obtain ⟨v2046, hv2047, H⟩ := call_st H
        refine ⟨(a1, 0, a3, v2046), ⟨hv2047⟩, ⟨trivial⟩, ?_⟩
        refine And.intro ⟨rfl⟩ ?_
        refine And.intro ⟨rfl⟩ ?_
        refine And.intro ⟨rfl, hc3, (ec_len c58_len).trans (congrArg (· * 4) (show _ = _ from rfl)), hR3⟩ ?_
        obtain ⟨v2048, hv2049, H⟩ := call_st H
        refine ⟨(a1, 0, v2046, a3, v2048), ⟨hv2049⟩, ⟨trivial⟩, ?_⟩
        refine And.intro ⟨rfl⟩ ?_
        refine And.intro ⟨rfl⟩ ?_
        refine And.intro ⟨by first | rfl | (simp; done), by first | rfl | (simp [ei, eb, es, ec, c58, c83]; done) | (simp only [ei, eb, es, ec, c58, c83, List.map_append, List.nil_append, List.append_assoc]; rfl)⟩ ?_
        refine And.intro ⟨rfl, hc3, (ec_len c58_len).trans (congrArg (· * 4) (show _ = _ from rfl)), hR3⟩ ?_
        refine R.cut_fam H 82 [] [] (fun v2081 => [(14, .own 82), (15, .own 83)]) (fun v2081 => [(82, .arr 3 1 (v2081.1.length) (ei .i64 (v2081.1))), (83, .arr 3 1 (v2081.2.length) (ei .i64 (v2081.2)))]) [(0, .cells 3 [.v (.int .i64 (a5))]), (10, .cells 3 [.v (.int .i64 (a0))]), (11, .cells 3 [.v (.int .i64 (a1))]), (12, .cells 3 [.v (.int .i64 (a2))]), (13, .cells 47 [.v (.slice (A3) (a3.length) (cp3))]), (14, .cells 47 [.v (.slice (A4) (a4.length) (cp4))]), (20, .cells 78 [.v (.slice none 0 0)]), (21, .cells 4 [.bb true]), (24, .loop .ready none), (25, .dfr), (48, .arr 3 1 (v2043.1.length) (ei .i64 (v2043.1))), (56, .arr 4 1 (v2046.length) (eb (v2046))), (67, .arr 3 1 (v2048.1.length) (ei .i64 (v2048.1)))] 2 (fun H => ?_)
        refine And.intro ?_ ?_
        · refine R.loop_fam (bind_st H) [9, 12, 39, 40] [(14, 0, 3, 1), (15, 0, 3, 1)] (fun _ s2083 => [(14, .own 75), (15, .own 76), (41, .v (.int .i64 (s2083.2.2)))]) (fun _ s2083 => [(75, .arr 3 1 (s2083.1.length) (ei .i64 (s2083.1))), (76, .arr 3 1 (s2083.2.1.length) (ei .i64 (s2083.2.1)))]) 2 (fun n2113 H => ?_)
          refine ⟨(n2113, _), ⟨H⟩, ⟨trivial⟩, ?_⟩
          repeat (refine And.intro (Ob.mk (by first | exact rfl | exact Iff.rfl | exact ⟨rfl, rfl⟩ | exact decide_eq_true_iff | (constructor <;> first | rfl | simp [ei, eb, es, ec, c58, c83]) | simp [ei, eb, es, ec, c58, c83])) ?_)
          rintro ⟨m0, s2083⟩ H _
          obtain ⟨m2084, hm0, H⟩ := IG_succ H
          dsimp only at hm0
          subst hm0
          try dsimp only at H
          refine if_st H (fun h2104 H => ?_) (fun h2104 H => ?_)
          · refine ob_ck H fun h2105 H => ?_
            refine ld_bool (e := v2046.getD s2083.2.2.toNat false) (own_get (ys := eb v2046) (by first | rfl | simp [ei, eb, es, ec, c58, c83]) (eb_get (l := v2046) (by first | exact tn h2105 | (have := tn h2105; simp at this ⊢; omega) | (have := tn h2105; simp; omega)))) ?_
            refine if_st H (fun h2106 H => ?_) (fun h2106 H => ?_)
            · refine ob_ck H fun h2107 H => ?_
              refine ld_int (e := v2043.1.getD s2083.2.2.toNat 0) (own_get (ys := ei .i64 v2043.1) (by first | rfl | simp [ei, eb, es, ec, c58, c83]) (ei_get (l := v2043.1) (by first | exact tn h2107 | (have := tn h2107; simp at this ⊢; omega) | (have := tn h2107; simp; omega)))) ?_
              refine ob_app (by decide) (by first | exact ei_one | ((repeat (refine List.forall_mem_cons.2 ⟨rfl, ?_⟩)); intro y hy; cases hy; done) | (intro y hy; simp [ei, eb, es, ec, c58, c83] at hy; (first | (rcases hy with rfl | hy) | subst hy | skip); all_goals first | rfl | simp_all [Value.oneCell'])) H fun h2108 H => ?_
              refine ob_ck H fun h2109 H => ?_
              refine ld_int (e := v2048.1.getD s2083.2.2.toNat 0) (own_get (ys := ei .i64 v2048.1) (by first | rfl | simp [ei, eb, es, ec, c58, c83]) (ei_get (l := v2048.1) (by first | exact tn h2109 | (have := tn h2109; simp at this ⊢; omega) | (have := tn h2109; simp; omega)))) ?_
              refine ob_app (by decide) (by first | exact ei_one | ((repeat (refine List.forall_mem_cons.2 ⟨rfl, ?_⟩)); intro y hy; cases hy; done) | (intro y hy; simp [ei, eb, es, ec, c58, c83] at hy; (first | (rcases hy with rfl | hy) | subst hy | skip); all_goals first | rfl | simp_all [Value.oneCell'])) H fun h2110 H => ?_
              refine ob_ck H fun h2111 H => ?_
              replace H := some_st H
              refine ⟨(m2084, ((s2083.1 ++ [v2043.1.getD s2083.2.2.toNat 0]), (s2083.2.1 ++ [v2048.1.getD s2083.2.2.toNat 0]), s2083.2.2 + 1)), ⟨H, Nat.lt_succ_self _⟩, ⟨trivial⟩, ⟨rfl⟩, ?_⟩
              repeat (refine And.intro (Ob.mk (by first | exact rfl | exact Iff.rfl | exact ⟨rfl, rfl⟩ | exact decide_eq_true_iff | (constructor <;> first | rfl | simp [ei, eb, es, ec, c58, c83]) | simp [ei, eb, es, ec, c58, c83])) ?_)
              first | exact trivial | exact rfl
            · refine ob_ck H fun h2112 H => ?_
              replace H := some_st H
              refine ⟨(m2084, (s2083.1, s2083.2.1, s2083.2.2 + 1)), ⟨H, Nat.lt_succ_self _⟩, ⟨trivial⟩, ⟨rfl⟩, ?_⟩
              repeat (refine And.intro (Ob.mk (by first | exact rfl | exact Iff.rfl | exact ⟨rfl, rfl⟩ | exact decide_eq_true_iff | (constructor <;> first | rfl | simp [ei, eb, es, ec, c58, c83]) | simp [ei, eb, es, ec, c58, c83])) ?_)
              first | exact trivial | exact rfl
          · replace H := some_st H
            dsimp only [stp, sm] at H
            refine ⟨(s2083.1, s2083.2.1), ⟨H⟩, ⟨rfl⟩, ?_⟩
            repeat (refine And.intro (Ob.mk (by first | exact rfl | exact Iff.rfl | exact ⟨rfl, rfl⟩ | exact decide_eq_true_iff | (constructor <;> first | rfl | simp [ei, eb, es, ec, c58, c83]) | simp [ei, eb, es, ec, c58, c83])) ?_)
            first | exact trivial | exact rfl
        · intro v2081 H
          refine ⟨(v2081.1, v2081.2, true), ⟨H⟩, ⟨rfl⟩, ?_⟩
          repeat (refine And.intro (Ob.mk (by first | exact rfl | exact Iff.rfl | exact ⟨rfl, rfl⟩ | exact decide_eq_true_iff | (constructor <;> first | rfl | simp [ei, eb, es, ec, c58, c83]) | simp [ei, eb, es, ec, c58, c83])) ?_)
          first | exact trivial | exact rfl
    · intro v2041 H
      refine R.cut_fam H 157 [0, 7, 8, 9] [(10, 0, 3, 1), (11, 0, 3, 1)] (fun v2185 => [(10, .own 157), (11, .own 158), (12, bS v2185.2.2)]) (fun v2185 => [(157, .arr 3 1 (v2185.1.length) (ei .i64 (v2185.1))), (158, .arr 3 1 (v2185.2.1.length) (ei .i64 (v2185.2.1)))]) [(90, .arr 3 1 (v2041.1.length) (ei .i64 (v2041.1))), (91, .arr 3 1 (v2041.2.1.length) (ei .i64 (v2041.2.1))), (0, .cells 3 [.v (.int .i64 (a5))]), (10, .cells 3 [.v (.int .i64 (a0))]), (11, .cells 3 [.v (.int .i64 (a1))]), (12, .cells 3 [.v (.int .i64 (a2))]), (13, .cells 47 [.v (.slice (A3) (a3.length) (cp3))]), (14, .cells 47 [.v (.slice (A4) (a4.length) (cp4))]), (20, .cells 78 [.v (.slice none 0 0)]), (21, .cells 4 [.bb true]), (24, .loop .ready none), (25, .dfr)] 2 (fun H => ?_)
      refine And.intro ?_ ?_
      · obtain ⟨v2187, hv2188, H⟩ := call_st H
        refine ⟨(a0, a2, 0, a4, v2187), ⟨hv2188⟩, ⟨trivial⟩, ?_⟩
        refine And.intro ⟨rfl⟩ ?_
        refine And.intro ⟨rfl⟩ ?_
        refine And.intro ⟨rfl⟩ ?_
        refine And.intro ⟨rfl, hc4, (ec_len c58_len).trans (congrArg (· * 4) (show _ = _ from rfl)), hR4⟩ ?_
        refine if_st H (fun h2189 H => ?_) (fun h2189 H => ?_)
        · refine ⟨([], [], false), ⟨H⟩, ⟨rfl⟩, ?_⟩
          repeat (refine And.intro (Ob.mk (by first | exact rfl | exact Iff.rfl | exact ⟨rfl, rfl⟩ | exact decide_eq_true_iff | (constructor <;> first | rfl | simp [ei, eb, es, ec, c58, c83]) | simp [ei, eb, es, ec, c58, c83])) ?_)
          first | exact trivial | exact rfl
        · obtain ⟨v2190, hv2191, H⟩ := call_st H
          refine ⟨(a0, a2, a4, v2190), ⟨hv2191⟩, ⟨trivial⟩, ?_⟩
          refine And.intro ⟨rfl⟩ ?_
          refine And.intro ⟨rfl⟩ ?_
          refine And.intro ⟨rfl, hc4, (ec_len c58_len).trans (congrArg (· * 4) (show _ = _ from rfl)), hR4⟩ ?_
          obtain ⟨v2192, hv2193, H⟩ := call_st H
          refine ⟨(a0, a2, v2190, a4, v2192), ⟨hv2193⟩, ⟨trivial⟩, ?_⟩
          refine And.intro ⟨rfl⟩ ?_
          refine And.intro ⟨rfl⟩ ?_
          refine And.intro ⟨by first | rfl | (simp; done), by first | rfl | (simp [ei, eb, es, ec, c58, c83]; done) | (simp only [ei, eb, es, ec, c58, c83, List.map_append, List.nil_append, List.append_assoc]; rfl)⟩ ?_
          refine And.intro ⟨rfl, hc4, (ec_len c58_len).trans (congrArg (· * 4) (show _ = _ from rfl)), hR4⟩ ?_
          refine R.cut_fam H 149 [] [] (fun v2225 => [(14, .own 149), (15, .own 150)]) (fun v2225 => [(149, .arr 3 1 (v2225.1.length) (ei .i64 (v2225.1))), (150, .arr 3 1 (v2225.2.length) (ei .i64 (v2225.2)))]) [(90, .arr 3 1 (v2041.1.length) (ei .i64 (v2041.1))), (91, .arr 3 1 (v2041.2.1.length) (ei .i64 (v2041.2.1))), (0, .cells 3 [.v (.int .i64 (a5))]), (10, .cells 3 [.v (.int .i64 (a0))]), (11, .cells 3 [.v (.int .i64 (a1))]), (12, .cells 3 [.v (.int .i64 (a2))]), (13, .cells 47 [.v (.slice (A3) (a3.length) (cp3))]), (14, .cells 47 [.v (.slice (A4) (a4.length) (cp4))]), (20, .cells 78 [.v (.slice none 0 0)]), (21, .cells 4 [.bb true]), (24, .loop .ready none), (25, .dfr), (115, .arr 3 1 (v2187.1.length) (ei .i64 (v2187.1))), (123, .arr 4 1 (v2190.length) (eb (v2190))), (134, .arr 3 1 (v2192.1.length) (ei .i64 (v2192.1)))] 2 (fun H => ?_)
          refine And.intro ?_ ?_
          · refine R.loop_fam (bind_st H) [9, 12, 39, 40] [(14, 0, 3, 1), (15, 0, 3, 1)] (fun _ s2227 => [(14, .own 142), (15, .own 143), (41, .v (.int .i64 (s2227.2.2)))]) (fun _ s2227 => [(142, .arr 3 1 (s2227.1.length) (ei .i64 (s2227.1))), (143, .arr 3 1 (s2227.2.1.length) (ei .i64 (s2227.2.1)))]) 2 (fun n2257 H => ?_)
            refine ⟨(n2257, _), ⟨H⟩, ⟨trivial⟩, ?_⟩
            repeat (refine And.intro (Ob.mk (by first | exact rfl | exact Iff.rfl | exact ⟨rfl, rfl⟩ | exact decide_eq_true_iff | (constructor <;> first | rfl | simp [ei, eb, es, ec, c58, c83]) | simp [ei, eb, es, ec, c58, c83])) ?_)
            rintro ⟨m0, s2227⟩ H _
            obtain ⟨m2228, hm0, H⟩ := IG_succ H
            dsimp only at hm0
            subst hm0
            try dsimp only at H
            refine if_st H (fun h2248 H => ?_) (fun h2248 H => ?_)
            · refine ob_ck H fun h2249 H => ?_
              refine ld_bool (e := v2190.getD s2227.2.2.toNat false) (own_get (ys := eb v2190) (by first | rfl | simp [ei, eb, es, ec, c58, c83]) (eb_get (l := v2190) (by first | exact tn h2249 | (have := tn h2249; simp at this ⊢; omega) | (have := tn h2249; simp; omega)))) ?_
              refine if_st H (fun h2250 H => ?_) (fun h2250 H => ?_)
              · refine ob_ck H fun h2251 H => ?_
                refine ld_int (e := v2187.1.getD s2227.2.2.toNat 0) (own_get (ys := ei .i64 v2187.1) (by first | rfl | simp [ei, eb, es, ec, c58, c83]) (ei_get (l := v2187.1) (by first | exact tn h2251 | (have := tn h2251; simp at this ⊢; omega) | (have := tn h2251; simp; omega)))) ?_
                refine ob_app (by decide) (by first | exact ei_one | ((repeat (refine List.forall_mem_cons.2 ⟨rfl, ?_⟩)); intro y hy; cases hy; done) | (intro y hy; simp [ei, eb, es, ec, c58, c83] at hy; (first | (rcases hy with rfl | hy) | subst hy | skip); all_goals first | rfl | simp_all [Value.oneCell'])) H fun h2252 H => ?_
                refine ob_ck H fun h2253 H => ?_
                refine ld_int (e := v2192.1.getD s2227.2.2.toNat 0) (own_get (ys := ei .i64 v2192.1) (by first | rfl | simp [ei, eb, es, ec, c58, c83]) (ei_get (l := v2192.1) (by first | exact tn h2253 | (have := tn h2253; simp at this ⊢; omega) | (have := tn h2253; simp; omega)))) ?_
                refine ob_app (by decide) (by first | exact ei_one | ((repeat (refine List.forall_mem_cons.2 ⟨rfl, ?_⟩)); intro y hy; cases hy; done) | (intro y hy; simp [ei, eb, es, ec, c58, c83] at hy; (first | (rcases hy with rfl | hy) | subst hy | skip); all_goals first | rfl | simp_all [Value.oneCell'])) H fun h2254 H => ?_
                refine ob_ck H fun h2255 H => ?_
                replace H := some_st H
                refine ⟨(m2228, ((s2227.1 ++ [v2187.1.getD s2227.2.2.toNat 0]), (s2227.2.1 ++ [v2192.1.getD s2227.2.2.toNat 0]), s2227.2.2 + 1)), ⟨H, Nat.lt_succ_self _⟩, ⟨trivial⟩, ⟨rfl⟩, ?_⟩
                repeat (refine And.intro (Ob.mk (by first | exact rfl | exact Iff.rfl | exact ⟨rfl, rfl⟩ | exact decide_eq_true_iff | (constructor <;> first | rfl | simp [ei, eb, es, ec, c58, c83]) | simp [ei, eb, es, ec, c58, c83])) ?_)
                first | exact trivial | exact rfl
              · refine ob_ck H fun h2256 H => ?_
                replace H := some_st H
                refine ⟨(m2228, (s2227.1, s2227.2.1, s2227.2.2 + 1)), ⟨H, Nat.lt_succ_self _⟩, ⟨trivial⟩, ⟨rfl⟩, ?_⟩
                repeat (refine And.intro (Ob.mk (by first | exact rfl | exact Iff.rfl | exact ⟨rfl, rfl⟩ | exact decide_eq_true_iff | (constructor <;> first | rfl | simp [ei, eb, es, ec, c58, c83]) | simp [ei, eb, es, ec, c58, c83])) ?_)
                first | exact trivial | exact rfl
            · replace H := some_st H
              dsimp only [stp, sm] at H
              refine ⟨(s2227.1, s2227.2.1), ⟨H⟩, ⟨rfl⟩, ?_⟩
              repeat (refine And.intro (Ob.mk (by first | exact rfl | exact Iff.rfl | exact ⟨rfl, rfl⟩ | exact decide_eq_true_iff | (constructor <;> first | rfl | simp [ei, eb, es, ec, c58, c83]) | simp [ei, eb, es, ec, c58, c83])) ?_)
              first | exact trivial | exact rfl
          · intro v2225 H
            refine ⟨(v2225.1, v2225.2, true), ⟨H⟩, ⟨rfl⟩, ?_⟩
            repeat (refine And.intro (Ob.mk (by first | exact rfl | exact Iff.rfl | exact ⟨rfl, rfl⟩ | exact decide_eq_true_iff | (constructor <;> first | rfl | simp [ei, eb, es, ec, c58, c83]) | simp [ei, eb, es, ec, c58, c83])) ?_)
            first | exact trivial | exact rfl
      · intro v2185 H
        refine if_st H (fun h2258 H => ?_) (fun h2258 H => ?_)
        · refine ⟨([], true), ⟨H⟩, ⟨rfl⟩, ?_⟩
          repeat (refine And.intro (Ob.mk (by first | exact rfl | exact Iff.rfl | exact ⟨rfl, rfl⟩ | exact decide_eq_true_iff | (constructor <;> first | rfl | simp [ei, eb, es, ec, c58, c83]) | simp [ei, eb, es, ec, c58, c83])) ?_)
          first | exact trivial | exact rfl
        · refine if_st H (fun h2259 H => ?_) (fun h2259 H => ?_)
          · refine ⟨([], true), ⟨H⟩, ⟨rfl⟩, ?_⟩
            repeat (refine And.intro (Ob.mk (by first | exact rfl | exact Iff.rfl | exact ⟨rfl, rfl⟩ | exact decide_eq_true_iff | (constructor <;> first | rfl | simp [ei, eb, es, ec, c58, c83]) | simp [ei, eb, es, ec, c58, c83])) ?_)
            first | exact trivial | exact rfl
          · refine R.loop_fam (bind_st H) [0, 7, 8, 10, 11, 38] [(100020, 0, 83, 4)] (fun _ s2260 => [(39, .v (.int .i64 (s2260.2.2)))]) (fun _ s2260 => [(20, .cells 78 [.own 169]), (21, .cells 4 [bS s2260.2.1]), (169, .arr 83 4 (s2260.1.length) (ec c83 (s2260.1)))]) 1 (fun n2541 H => ?_)
            refine ⟨(n2541, _), ⟨H⟩, ⟨trivial⟩, ?_⟩
            repeat (refine And.intro (Ob.mk (by first | exact rfl | exact Iff.rfl | exact ⟨rfl, rfl⟩ | exact decide_eq_true_iff | (constructor <;> first | rfl | simp [ei, eb, es, ec, c58, c83]) | simp [ei, eb, es, ec, c58, c83])) ?_)
            rintro ⟨m0, s2260⟩ H _
            obtain ⟨m2261, hm0, H⟩ := IG_succ H
            dsimp only at hm0
            subst hm0
            try dsimp only at H
            refine if_st H (fun h2445 H => ?_) (fun h2445 H => ?_)
            · refine R.cut_fam H 181 [0, 7, 8, 10, 11, 38, 39] [] (fun v2491 => []) (fun v2491 => [(20, .cells 78 [.own 181]), (21, .cells 4 [bS v2491.2]), (181, .arr 83 4 (v2491.1.length) (ec c83 (v2491.1)))]) [(157, .arr 3 1 (v2185.1.length) (ei .i64 (v2185.1))), (158, .arr 3 1 (v2185.2.1.length) (ei .i64 (v2185.2.1))), (90, .arr 3 1 (v2041.1.length) (ei .i64 (v2041.1))), (91, .arr 3 1 (v2041.2.1.length) (ei .i64 (v2041.2.1))), (0, .cells 3 [.v (.int .i64 (a5))]), (10, .cells 3 [.v (.int .i64 (a0))]), (11, .cells 3 [.v (.int .i64 (a1))]), (12, .cells 3 [.v (.int .i64 (a2))]), (13, .cells 47 [.v (.slice (A3) (a3.length) (cp3))]), (14, .cells 47 [.v (.slice (A4) (a4.length) (cp4))]), (24, .loop .ready none), (25, .dfr)] 1 (fun H => ?_)
              refine And.intro ?_ ?_
              · refine R.loop_fam (bind_st H) [0, 7, 8, 10, 11, 13, 38, 39, 43] [] (fun _ s2493 => [(44, .v (.int .i64 (s2493.2.2)))]) (fun _ s2493 => [(20, .cells 78 [.own 176]), (21, .cells 4 [bS s2493.2.1]), (176, .arr 83 4 (s2493.1.length) (ec c83 (s2493.1)))]) 1 (fun n2537 H => ?_)
                refine ⟨(n2537, _), ⟨H⟩, ⟨trivial⟩, ?_⟩
                repeat (refine And.intro (Ob.mk (by first | exact rfl | exact Iff.rfl | exact ⟨rfl, rfl⟩ | exact decide_eq_true_iff | (constructor <;> first | rfl | simp [ei, eb, es, ec, c58, c83]) | simp [ei, eb, es, ec, c58, c83])) ?_)
                rintro ⟨m0, s2493⟩ H _
                obtain ⟨m2494, hm0, H⟩ := IG_succ H
                dsimp only at hm0
                subst hm0
                try dsimp only at H
                refine if_st H (fun h2522 H => ?_) (fun h2522 H => ?_)
                · refine And.intro ⟨by kernel_rfl⟩ ?_
                  refine ⟨(Pn.calm 0 (Pn.calm 1 (Pn.calm 2 (Pn.calm 3 (Pn.calm 4 (Pn.calm 5 (Pn.calm 6 (Pn.calm 7 (Pn.calm 8 (Pn.calm 9 (Pn.calm 10 (Pn.calm 11 (Pn.calm 12 (Pn.calm 13 (Pn.calm 14 (Pn.calm 15 (Pn.calm 16 (Pn.eff 17 [] (Pn.eff 18 [17, 16, 0, 1, 2, 3, 4, 5, 6, 7, 8, 9, 10, 11, 12, 13, 14, 15] Pn.done Pn.no) Pn.no)))))))))))))))))), ⟨by kernel_rfl⟩, ?_⟩
                  refine ob_ck H fun h2523 H => ?_
                  refine ld_int (e := v2041.1.getD s2260.2.2.toNat 0) (own_get (ys := ei .i64 v2041.1) (by first | rfl | simp [ei, eb, es, ec, c58, c83]) (ei_get (l := v2041.1) (by first | exact tn h2523 | (have := tn h2523; simp at this ⊢; omega) | (have := tn h2523; simp; omega)))) ?_
                  refine ob_ck H fun h2524 H => ?_
                  refine ld_int (e := v2185.1.getD s2493.2.2.toNat 0) (own_get (ys := ei .i64 v2185.1) (by first | rfl | simp [ei, eb, es, ec, c58, c83]) (ei_get (l := v2185.1) (by first | exact tn h2524 | (have := tn h2524; simp at this ⊢; omega) | (have := tn h2524; simp; omega)))) ?_
                  refine ob_ck H fun h2525 H => ?_
                  refine ld_int (e := v2041.2.1.getD s2260.2.2.toNat 0) (own_get (ys := ei .i64 v2041.2.1) (by first | rfl | simp [ei, eb, es, ec, c58, c83]) (ei_get (l := v2041.2.1) (by first | exact tn h2525 | (have := tn h2525; simp at this ⊢; omega) | (have := tn h2525; simp; omega)))) ?_
                  refine ob_ck H fun h2526 H => ?_
                  refine ld_int (e := v2185.2.1.getD s2493.2.2.toNat 0) (own_get (ys := ei .i64 v2185.2.1) (by first | rfl | simp [ei, eb, es, ec, c58, c83]) (ei_get (l := v2185.2.1) (by first | exact tn h2526 | (have := tn h2526; simp at this ⊢; omega) | (have := tn h2526; simp; omega)))) ?_
                  refine And.intro ?_ trivial
                  refine And.intro ⟨rfl⟩ ?_
                  refine And.intro ?_ trivial
                  refine And.intro ⟨rfl⟩ ?_
                  refine ob_ck H fun h2527 H => ?_
                  refine ob_ck H fun h2528 H => ?_
                  refine if_st H (fun h2529 H => ?_) (fun h2529 H => ?_)
                  · replace H := some_st H
                    dsimp only [stp, sm] at H
                    replace H := some_st H
                    dsimp only [stp, sm] at H
                    refine ⟨(s2493.1, s2493.2.1), ⟨H⟩, ⟨rfl⟩, ?_⟩
                    repeat (refine And.intro (Ob.mk (by first | exact rfl | exact Iff.rfl | exact ⟨rfl, rfl⟩ | exact decide_eq_true_iff | (constructor <;> first | rfl | simp [ei, eb, es, ec, c58, c83]) | simp [ei, eb, es, ec, c58, c83])) ?_)
                    first | exact trivial | exact rfl
                  · refine if_st H (fun h2530 H => ?_) (fun h2530 H => ?_)
                    · refine ob_app (by decide) (by first | exact (ec_one c83_one) | ((repeat (refine List.forall_mem_cons.2 ⟨rfl, ?_⟩)); intro y hy; cases hy; done) | (intro y hy; simp [ei, eb, es, ec, c58, c83] at hy; (first | (rcases hy with rfl | hy) | subst hy | skip); all_goals first | rfl | simp_all [Value.oneCell'])) H fun h2531 H => ?_
                      refine ob_ck H fun h2532 H => ?_
                      replace H := some_st H
                      refine ⟨(m2494, ((s2493.1 ++ [(v2041.1.getD s2260.2.2.toNat 0, v2185.1.getD s2493.2.2.toNat 0, v2041.2.1.getD s2260.2.2.toNat 0, v2185.2.1.getD s2493.2.2.toNat 0)]), (decide (((s2260.2.2 * ((v2185.1.length : Nat) : Int)) + s2493.2.2) = ((s2493.1.length : Nat) : Int))), s2493.2.2 + 1)), ⟨H, Nat.lt_succ_self _⟩, ⟨trivial⟩, ⟨rfl⟩, ?_⟩
                      repeat (refine And.intro (Ob.mk (by first | exact rfl | exact Iff.rfl | exact ⟨rfl, rfl⟩ | exact decide_eq_true_iff | (constructor <;> first | rfl | simp [ei, eb, es, ec, c58, c83]) | simp [ei, eb, es, ec, c58, c83])) ?_)
                      first | exact trivial | exact rfl
                    · refine ob_app (by decide) (by first | exact (ec_one c83_one) | ((repeat (refine List.forall_mem_cons.2 ⟨rfl, ?_⟩)); intro y hy; cases hy; done) | (intro y hy; simp [ei, eb, es, ec, c58, c83] at hy; (first | (rcases hy with rfl | hy) | subst hy | skip); all_goals first | rfl | simp_all [Value.oneCell'])) H fun h2533 H => ?_
                      refine ob_ck H fun h2534 H => ?_
                      replace H := some_st H
                      refine ⟨(m2494, ((s2493.1 ++ [(v2041.1.getD s2260.2.2.toNat 0, v2185.1.getD s2493.2.2.toNat 0, v2041.2.1.getD s2260.2.2.toNat 0, v2185.2.1.getD s2493.2.2.toNat 0)]), false, s2493.2.2 + 1)), ⟨H, Nat.lt_succ_self _⟩, ⟨trivial⟩, ⟨rfl⟩, ?_⟩
                      repeat (refine And.intro (Ob.mk (by first | exact rfl | exact Iff.rfl | exact ⟨rfl, rfl⟩ | exact decide_eq_true_iff | (constructor <;> first | rfl | simp [ei, eb, es, ec, c58, c83]) | simp [ei, eb, es, ec, c58, c83])) ?_)
                      first | exact trivial | exact rfl
                · replace H := some_st H
                  dsimp only [stp, sm] at H
                  refine ⟨(s2493.1, s2493.2.1), ⟨H⟩, ⟨rfl⟩, ?_⟩
                  repeat (refine And.intro (Ob.mk (by first | exact rfl | exact Iff.rfl | exact ⟨rfl, rfl⟩ | exact decide_eq_true_iff | (constructor <;> first | rfl | simp [ei, eb, es, ec, c58, c83]) | simp [ei, eb, es, ec, c58, c83])) ?_)
                  first | exact trivial | exact rfl
              · intro v2491 H
                refine ob_ck H fun h2538 H => ?_
                replace H := some_st H
                refine ⟨(m2261, (v2491.1, v2491.2, s2260.2.2 + 1)), ⟨H, Nat.lt_succ_self _⟩, ⟨trivial⟩, ⟨rfl⟩, ?_⟩
                repeat (refine And.intro (Ob.mk (by first | exact rfl | exact Iff.rfl | exact ⟨rfl, rfl⟩ | exact decide_eq_true_iff | (constructor <;> first | rfl | simp [ei, eb, es, ec, c58, c83]) | simp [ei, eb, es, ec, c58, c83])) ?_)
                first | exact trivial | exact rfl
            · replace H := some_st H
              dsimp only [stp, sm] at H
              refine ⟨(s2260.1, s2260.2.1), ⟨H⟩, ⟨rfl⟩, ?_⟩
              repeat (refine And.intro (Ob.mk (by first | exact rfl | exact Iff.rfl | exact ⟨rfl, rfl⟩ | exact decide_eq_true_iff | (constructor <;> first | rfl | simp [ei, eb, es, ec, c58, c83]) | simp [ei, eb, es, ec, c58, c83])) ?_)
              first | exact trivial | exact rfl
  · intro v1968 H
    refine And.intro ⟨by kernel_rfl⟩ ?_
    have hfin := fin_st H
    repeat (refine And.intro (Ob.mk (by first | (rw [← hfin] <;> first | exact rfl | exact Iff.rfl | exact ⟨rfl, rfl⟩ | exact decide_eq_true_iff | (constructor <;> first | rfl | simp [ei, eb, es, ec, c58, c83]) | simp [ei, eb, es, ec, c58, c83]) | first | exact rfl | exact Iff.rfl | exact ⟨rfl, rfl⟩ | exact decide_eq_true_iff | (constructor <;> first | rfl | simp [ei, eb, es, ec, c58, c83]) | simp [ei, eb, es, ec, c58, c83])) ?_)
    first | exact trivial | exact rfl

/-- placard/placardlaw16.LayoutBoxes -/
noncomputable def g13 (a0 : Int) (a1 : Int) (a2 : Int) (a3 : List (Int × Int × Int × Int)) (a4 : List (Int × Int × Int × Int)) (a5 : Int) : Option (Bool) :=
  jn (α := _) (β := List (Int × Int × Int × Int)) (fun k2549 =>
      if 12 < ((a3.length : Nat) : Int) then
        (
          ck (0 ≤ (0 : Int) ∧ (0 : Int) ≤ (12 : Int) ∧ (12 : Int) ≤ ((a3.length : Nat) : Int)) <|
          k2549 ((a3.drop (0 : Int).toNat).take ((12 : Int).toNat - (0 : Int).toNat))
        )
      else
        k2549 a3
  ) (fun v2548 =>
    jn (α := _) (β := List (Int × Int × Int × Int)) (fun k2564 =>
        if 12 < ((a4.length : Nat) : Int) then
          (
            ck (0 ≤ (0 : Int) ∧ (0 : Int) ≤ (12 : Int) ∧ (12 : Int) ≤ ((a4.length : Nat) : Int)) <|
            k2564 ((a4.drop (0 : Int).toNat).take ((12 : Int).toNat - (0 : Int).toNat))
          )
        else
          k2564 a4
    ) (fun v2563 =>
      (g54 a0 a1 a2 v2548 v2563 1000).bind fun v2572 =>
      ck (inR .i64 a5) <|
      (g54 a0 a1 a2 v2548 v2563 a5).bind fun v2575 =>
      (g55 a0 a1 a2 v2548 v2563).bind fun v2577 =>
      if ¬ (v2572.2 = true) then
        some false
      else
        (
          if ¬ (v2575.2 = true) then
            some false
          else
            (
              if ¬ ((v2572.1.length : Nat) : Int) = ((v2577.length : Nat) : Int) then
                some false
              else
                (
                  ck (inR .i64 a5) <|
                  if ¬ ((v2575.1.length : Nat) : Int) = (gmin ((v2577.length : Nat) : Int) a5) then
                    some false
                  else
                    (
                      (g36).bind fun v2599 =>
                      if ¬ (v2599 = true) then
                        some false
                      else
                        (
                          jn (α := _) (β := Unit) (fun k3023 =>
                              (loopO (σ := Int) (ρ := (Unit) ⊕ (Unit)) (fun s3024 =>
                                  if s3024 < ((v2572.1.length : Nat) : Int) then
                                    (
                                      jn (α := _) (β := Unit) (fun k3327 =>
                                          ck (0 ≤ s3024 ∧ s3024 < ((v2572.1.length : Nat) : Int)) <|
                                          jn (α := _) (β := Bool) (fun k3345 =>
                                              ck (0 ≤ s3024 ∧ s3024 < ((v2577.length : Nat) : Int)) <|
                                              if ¬ (((v2572.1.getD s3024.toNat default).1) = ((v2577.getD s3024.toNat default).1) ∧ (((v2572.1.getD s3024.toNat default).2.1) = ((v2577.getD s3024.toNat default).2.1) ∧ (((v2572.1.getD s3024.toNat default).2.2.1) = ((v2577.getD s3024.toNat default).2.2.1) ∧ (((v2572.1.getD s3024.toNat default).2.2.2) = ((v2577.getD s3024.toNat default).2.2.2) ∧ True)))) then
                                                k3345 true
                                              else
                                                (
                                                  if s3024 < ((v2575.1.length : Nat) : Int) then
                                                    (
                                                      ck (0 ≤ s3024 ∧ s3024 < ((v2575.1.length : Nat) : Int)) <|
                                                      if ¬ (((v2575.1.getD s3024.toNat default).1) = ((v2572.1.getD s3024.toNat default).1) ∧ (((v2575.1.getD s3024.toNat default).2.1) = ((v2572.1.getD s3024.toNat default).2.1) ∧ (((v2575.1.getD s3024.toNat default).2.2.1) = ((v2572.1.getD s3024.toNat default).2.2.1) ∧ (((v2575.1.getD s3024.toNat default).2.2.2) = ((v2572.1.getD s3024.toNat default).2.2.2) ∧ True)))) then
                                                        k3345 true
                                                      else
                                                        (
                                                          if ((v2572.1.getD s3024.toNat default).1) < 0 then
                                                            k3345 true
                                                          else
                                                            (
                                                              if ((v2572.1.getD s3024.toNat default).2.1) < 0 then
                                                                k3345 true
                                                              else
                                                                (
                                                                  ck (inR .i64 (((v2572.1.getD s3024.toNat default).1) + ((v2572.1.getD s3024.toNat default).2.2.1))) <|
                                                                  if a1 < (((v2572.1.getD s3024.toNat default).1) + ((v2572.1.getD s3024.toNat default).2.2.1)) then
                                                                    k3345 true
                                                                  else
                                                                    (
                                                                      ck (inR .i64 (((v2572.1.getD s3024.toNat default).2.1) + ((v2572.1.getD s3024.toNat default).2.2.2))) <|
                                                                      k3345 (decide (a0 < (((v2572.1.getD s3024.toNat default).2.1) + ((v2572.1.getD s3024.toNat default).2.2.2))))
                                                                    )
                                                                )
                                                            )
                                                        )
                                                    )
                                                  else
                                                    (
                                                      if ((v2572.1.getD s3024.toNat default).1) < 0 then
                                                        k3345 true
                                                      else
                                                        (
                                                          if ((v2572.1.getD s3024.toNat default).2.1) < 0 then
                                                            k3345 true
                                                          else
                                                            (
                                                              ck (inR .i64 (((v2572.1.getD s3024.toNat default).1) + ((v2572.1.getD s3024.toNat default).2.2.1))) <|
                                                              if a1 < (((v2572.1.getD s3024.toNat default).1) + ((v2572.1.getD s3024.toNat default).2.2.1)) then
                                                                k3345 true
                                                              else
                                                                (
                                                                  ck (inR .i64 (((v2572.1.getD s3024.toNat default).2.1) + ((v2572.1.getD s3024.toNat default).2.2.2))) <|
                                                                  k3345 (decide (a0 < (((v2572.1.getD s3024.toNat default).2.1) + ((v2572.1.getD s3024.toNat default).2.2.2))))
                                                                )
                                                            )
                                                        )
                                                    )
                                                )
                                          ) (fun v3344 =>
                                            if v3344 = true then
                                              some (.out (.inl (())))
                                            else
                                              (
                                                (loopO (σ := Int) (ρ := (Unit) ⊕ (Unit)) (fun s3362 =>
                                                    if s3362 < s3024 then
                                                      (
                                                        ck (0 ≤ s3362 ∧ s3362 < ((v2572.1.length : Nat) : Int)) <|
                                                        (g56 ((v2572.1.getD s3024.toNat default).1, (v2572.1.getD s3024.toNat default).2.1, (v2572.1.getD s3024.toNat default).2.2.1, (v2572.1.getD s3024.toNat default).2.2.2) ((v2572.1.getD s3362.toNat default).1, (v2572.1.getD s3362.toNat default).2.1, (v2572.1.getD s3362.toNat default).2.2.1, (v2572.1.getD s3362.toNat default).2.2.2)).bind fun v3379 =>
                                                        if v3379 = true then
                                                          some (.out (.inl (())))
                                                        else
                                                          (
                                                            ck (inR .i64 (s3362 + 1)) <|
                                                            some (.go (s3362 + 1))
                                                          )
                                                      )
                                                    else
                                                      some (.out (.inr (())))
                                                  ) 0).bind fun o3376 =>
                                                sm o3376 (fun o3383 =>
                                                    some (.out (.inl (())))
                                                  ) (fun o3384 =>
                                                    k3327 ()
                                                  )
                                              )
                                          )
                                      ) (fun v3326 =>
                                        ck (inR .i64 (s3024 + 1)) <|
                                        some (.go (s3024 + 1))
                                      )
                                    )
                                  else
                                    some (.out (.inr (())))
                                ) 0).bind fun o3266 =>
                              sm o3266 (fun o3387 =>
                                  some false
                                ) (fun o3388 =>
                                  k3023 ()
                                )
                          ) (fun v3022 =>
                            some true
                          )
                        )
                    )
                )
            )
        )
    )
  )
noncomputable def k13 : Eng.CS := { f := 13, calm := true, more := 0, ι := Int × Int × Int × (List (Int × Int × Int × Int)) × (List (Int × Int × Int × Int)) × Int × Bool, ok := fun i => g13 i.1 i.2.1 i.2.2.1 i.2.2.2.1 i.2.2.2.2.1 i.2.2.2.2.2.1 = some i.2.2.2.2.2.2, rds := fun _ => [], args := fun i => [.w (.v (.int .i64 (i.1))), .w (.v (.int .i64 (i.2.1))), .w (.v (.int .i64 (i.2.2.1))), .sl 4 i.2.2.2.1.length (ec c58 i.2.2.2.1), .sl 4 i.2.2.2.2.1.length (ec c58 i.2.2.2.2.1), .w (.v (.int .u8 (i.2.2.2.2.2.1)))], res := fun i => bS i.2.2.2.2.2.2 }
set_option maxRecDepth 8000 in
set_option maxHeartbeats 4000000 in
theorem k13_ok : CalmOk Try.prog k13 := by
  refine R.calmspec Try.func13 nm13 rfl ?_
  rintro ⟨a0, a1, a2, a3, a4, a5, r⟩ hok q _ args hargs
  match args, hargs with
  | [_, _, _, _, _, _], hargs =>
  obtain ⟨rfl, rfl, rfl, ⟨A3, cp3, rfl, hc3, _, hR3⟩, ⟨A4, cp4, rfl, hc4, _, hR4⟩, rfl, _⟩ := hargs
  refine ⟨envC [k36, k54, k55, k56] false [(13, 3), (13, 5), (13, 12), (13, 15), (13, 21)], 6, envC_ok (css_cons ⟨fun _ => k36_ok, fun h => (by cases h)⟩ (css_cons ⟨fun h => (by cases h), fun _ => k54_ok⟩ (css_cons ⟨fun h => (by cases h), fun _ => k55_ok⟩ (css_cons ⟨fun _ => k56_ok, fun h => (by cases h)⟩ (css_nil))))), rfl, (by intro x hx; simp only [List.mem_cons, List.not_mem_nil, or_false] at hx; rcases hx with rfl | rfl | rfl | rfl | rfl | rfl <;> rfl), ?_⟩
  have H : Gives (g13 a0 a1 a2 a3 a4 a5) (fun a => a = r) := ⟨r, hok, rfl⟩
  unfold g13 at H
  clear hok
  refine R.cut_famX H 8 [0, 1, 2, 4, 5] [] (fun (v2548 : List (Int × Int × Int × Int)) (g : (Option Addr × Nat)) => [(3, .v (.slice ((g.1)) (v2548.length) ((g.2))))]) (fun (v2548 : List (Int × Int × Int × Int)) (g : (Option Addr × Nat)) => []) [] 0 (fun q (v2548 : List (Int × Int × Int × Int)) (g : (Option Addr × Nat)) => Reads q g.1 (ec c58 v2548) ∧ v2548.length ≤ g.2) (fun H => ?_)
  refine And.intro ?_ ?_
  · refine if_st H (fun h2550 H => ?_) (fun h2550 H => ?_)
    · refine ob_sl hc3 H fun h2551 H => ?_
      have hs2552 := sl_ec c58_len hR3 rfl hc3 h2551
      refine ⟨(((a3.drop (0 : Int).toNat).take ((12 : Int).toNat - (0 : Int).toNat)), (if cp3 = (0 : Int).toNat then A3 else A3.map (·.add ((0 : Int).toNat * 4)), cp3 - (0 : Int).toNat)), ⟨H, hs2552.1, (Nat.le_trans (Nat.le_of_eq (show _ = _ from hs2552.2.1)) hs2552.2.2)⟩, ⟨rfl⟩, ?_⟩
      repeat (refine And.intro (Ob.mk (by first | exact congrArg (fun m => Value.slice _ m _) (show _ = _ from hs2552.2.1) | first | exact rfl | exact Iff.rfl | exact ⟨rfl, rfl⟩ | exact decide_eq_true_iff | (constructor <;> first | rfl | simp [ei, eb, es, ec, c58, c83]) | simp [ei, eb, es, ec, c58, c83])) ?_)
      first | exact trivial | exact rfl
    · refine ⟨(a3, (A3, cp3)), ⟨H, hR3, hc3⟩, ⟨rfl⟩, ?_⟩
      repeat (refine And.intro (Ob.mk (by first | exact rfl | exact Iff.rfl | exact ⟨rfl, rfl⟩ | exact decide_eq_true_iff | (constructor <;> first | rfl | simp [ei, eb, es, ec, c58, c83]) | simp [ei, eb, es, ec, c58, c83])) ?_)
      first | exact trivial | exact rfl
  · rintro ⟨v2548, ⟨A2553, c2554⟩⟩ ⟨H, hR2555, hc2556⟩
    dsimp only at H hR2555 hc2556
    refine R.cut_famX H 15 [0, 1, 2, 3, 5] [] (fun (v2563 : List (Int × Int × Int × Int)) (g : (Option Addr × Nat)) => [(4, .v (.slice ((g.1)) (v2563.length) ((g.2))))]) (fun (v2563 : List (Int × Int × Int × Int)) (g : (Option Addr × Nat)) => []) [] 0 (fun q (v2563 : List (Int × Int × Int × Int)) (g : (Option Addr × Nat)) => Reads q g.1 (ec c58 v2563) ∧ v2563.length ≤ g.2) (fun H => ?_)
    refine And.intro ?_ ?_
    · refine if_st H (fun h2565 H => ?_) (fun h2565 H => ?_)
      · refine ob_sl hc4 H fun h2566 H => ?_
        have hs2567 := sl_ec c58_len hR4 rfl hc4 h2566
        refine ⟨(((a4.drop (0 : Int).toNat).take ((12 : Int).toNat - (0 : Int).toNat)), (if cp4 = (0 : Int).toNat then A4 else A4.map (·.add ((0 : Int).toNat * 4)), cp4 - (0 : Int).toNat)), ⟨H, hs2567.1, (Nat.le_trans (Nat.le_of_eq (show _ = _ from hs2567.2.1)) hs2567.2.2)⟩, ⟨rfl⟩, ?_⟩
        repeat (refine And.intro (Ob.mk (by first | exact congrArg (fun m => Value.slice _ m _) (show _ = _ from hs2567.2.1) | first | exact rfl | exact Iff.rfl | exact ⟨rfl, rfl⟩ | exact decide_eq_true_iff | (constructor <;> first | rfl | simp [ei, eb, es, ec, c58, c83]) | simp [ei, eb, es, ec, c58, c83])) ?_)
        first | exact trivial | exact rfl
      · refine ⟨(a4, (A4, cp4)), ⟨H, hR4, hc4⟩, ⟨rfl⟩, ?_⟩
        repeat (refine And.intro (Ob.mk (by first | exact rfl | exact Iff.rfl | exact ⟨rfl, rfl⟩ | exact decide_eq_true_iff | (constructor <;> first | rfl | simp [ei, eb, es, ec, c58, c83]) | simp [ei, eb, es, ec, c58, c83])) ?_)
        first | exact trivial | exact rfl
    · rintro ⟨v2563, ⟨A2568, c2569⟩⟩ ⟨H, hR2570, hc2571⟩
      dsimp only at H hR2570 hc2571
      obtain ⟨v2572, hv2573, H⟩ := call_st H
      refine ⟨(a0, a1, a2, v2548, v2563, 1000, v2572), ⟨hv2573⟩, ⟨trivial⟩, ?_⟩
      refine And.intro ⟨rfl⟩ ?_
      refine And.intro ⟨rfl⟩ ?_
      refine And.intro ⟨rfl⟩ ?_
      refine And.intro ⟨rfl, hc2556, (ec_len c58_len).trans (congrArg (· * 4) (show _ = _ from rfl)), hR2555⟩ ?_
      refine And.intro ⟨rfl, hc2571, (ec_len c58_len).trans (congrArg (· * 4) (show _ = _ from rfl)), hR2570⟩ ?_
      refine And.intro ⟨rfl⟩ ?_
      refine ob_ck H fun h2574 H => ?_
      obtain ⟨v2575, hv2576, H⟩ := call_st H
      refine ⟨(a0, a1, a2, v2548, v2563, a5, v2575), ⟨hv2576⟩, ⟨trivial⟩, ?_⟩
      refine And.intro ⟨rfl⟩ ?_
      refine And.intro ⟨rfl⟩ ?_
      refine And.intro ⟨rfl⟩ ?_
      refine And.intro ⟨rfl, hc2556, (ec_len c58_len).trans (congrArg (· * 4) (show _ = _ from rfl)), hR2555⟩ ?_
      refine And.intro ⟨rfl, hc2571, (ec_len c58_len).trans (congrArg (· * 4) (show _ = _ from rfl)), hR2570⟩ ?_
      refine And.intro ⟨rfl⟩ ?_
      obtain ⟨v2577, hv2578, H⟩ := call_st H
      refine ⟨(a0, a1, a2, v2548, v2563, v2577), ⟨hv2578⟩, ⟨trivial⟩, ?_⟩
      refine And.intro ⟨rfl⟩ ?_
      refine And.intro ⟨rfl⟩ ?_
      refine And.intro ⟨rfl⟩ ?_
      refine And.intro ⟨rfl, hc2556, (ec_len c58_len).trans (congrArg (· * 4) (show _ = _ from rfl)), hR2555⟩ ?_
      refine And.intro ⟨rfl, hc2571, (ec_len c58_len).trans (congrArg (· * 4) (show _ = _ from rfl)), hR2570⟩ ?_
      refine if_st H (fun h2594 H => ?_) (fun h2594 H => ?_)
      · have hfin := fin_st H
        repeat (refine And.intro (Ob.mk (by first | (rw [← hfin] <;> first | exact rfl | exact Iff.rfl | exact ⟨rfl, rfl⟩ | exact decide_eq_true_iff | (constructor <;> first | rfl | simp [ei, eb, es, ec, c58, c83]) | simp [ei, eb, es, ec, c58, c83]) | first | exact rfl | exact Iff.rfl | exact ⟨rfl, rfl⟩ | exact decide_eq_true_iff | (constructor <;> first | rfl | simp [ei, eb, es, ec, c58, c83]) | simp [ei, eb, es, ec, c58, c83])) ?_)
        first | exact trivial | exact rfl
      · refine if_st H (fun h2595 H => ?_) (fun h2595 H => ?_)
        · have hfin := fin_st H
          repeat (refine And.intro (Ob.mk (by first | (rw [← hfin] <;> first | exact rfl | exact Iff.rfl | exact ⟨rfl, rfl⟩ | exact decide_eq_true_iff | (constructor <;> first | rfl | simp [ei, eb, es, ec, c58, c83]) | simp [ei, eb, es, ec, c58, c83]) | first | exact rfl | exact Iff.rfl | exact ⟨rfl, rfl⟩ | exact decide_eq_true_iff | (constructor <;> first | rfl | simp [ei, eb, es, ec, c58, c83]) | simp [ei, eb, es, ec, c58, c83])) ?_)
          first | exact trivial | exact rfl
        · refine if_st H (fun h2596 H => ?_) (fun h2596 H => ?_)
          · have hfin := fin_st H
            repeat (refine And.intro (Ob.mk (by first | (rw [← hfin] <;> first | exact rfl | exact Iff.rfl | exact ⟨rfl, rfl⟩ | exact decide_eq_true_iff | (constructor <;> first | rfl | simp [ei, eb, es, ec, c58, c83]) | simp [ei, eb, es, ec, c58, c83]) | first | exact rfl | exact Iff.rfl | exact ⟨rfl, rfl⟩ | exact decide_eq_true_iff | (constructor <;> first | rfl | simp [ei, eb, es, ec, c58, c83]) | simp [ei, eb, es, ec, c58, c83])) ?_)
            first | exact trivial | exact rfl
          · refine ob_ck H fun h2597 H => ?_
            refine if_st H (fun h2598 H => ?_) (fun h2598 H => ?_)
            · have hfin := fin_st H
              repeat (refine And.intro (Ob.mk (by first | (rw [← hfin] <;> first | exact rfl | exact Iff.rfl | exact ⟨rfl, rfl⟩ | exact decide_eq_true_iff | (constructor <;> first | rfl | simp [ei, eb, es, ec, c58, c83]) | simp [ei, eb, es, ec, c58, c83]) | first | exact rfl | exact Iff.rfl | exact ⟨rfl, rfl⟩ | exact decide_eq_true_iff | (constructor <;> first | rfl | simp [ei, eb, es, ec, c58, c83]) | simp [ei, eb, es, ec, c58, c83])) ?_)
              first | exact trivial | exact rfl
            · obtain ⟨v2599, hv2600, H⟩ := call_st H
              refine ⟨v2599, ⟨hv2600⟩, ⟨trivial⟩, ?_⟩
              refine if_st H (fun h2601 H => ?_) (fun h2601 H => ?_)
              · have hfin := fin_st H
                repeat (refine And.intro (Ob.mk (by first | (rw [← hfin] <;> first | exact rfl | exact Iff.rfl | exact ⟨rfl, rfl⟩ | exact decide_eq_true_iff | (constructor <;> first | rfl | simp [ei, eb, es, ec, c58, c83]) | simp [ei, eb, es, ec, c58, c83]) | first | exact rfl | exact Iff.rfl | exact ⟨rfl, rfl⟩ | exact decide_eq_true_iff | (constructor <;> first | rfl | simp [ei, eb, es, ec, c58, c83]) | simp [ei, eb, es, ec, c58, c83])) ?_)
                first | exact trivial | exact rfl
              · refine R.cut_fam H 83 [] [] (fun v3022 => []) (fun v3022 => []) [(26, .arr 83 4 (v2572.1.length) (ec c83 (v2572.1))), (40, .arr 83 4 (v2575.1.length) (ec c83 (v2575.1))), (48, .arr 83 4 (v2577.length) (ec c83 (v2577)))] 0 (fun H => ?_)
                refine And.intro ?_ ?_
                · refine R.loop_fam (bind_st H) [0, 1, 13, 15, 17] [] (fun _ s3024 => [(18, .v (.int .i64 (s3024)))]) (fun _ s3024 => []) 0 (fun n3389 H => ?_)
                  refine ⟨(n3389, _), ⟨H⟩, ⟨trivial⟩, ?_⟩
                  repeat (refine And.intro (Ob.mk (by first | exact rfl | exact Iff.rfl | exact ⟨rfl, rfl⟩ | exact decide_eq_true_iff | (constructor <;> first | rfl | simp [ei, eb, es, ec, c58, c83]) | simp [ei, eb, es, ec, c58, c83])) ?_)
                  rintro ⟨m0, s3024⟩ H _
                  obtain ⟨m3025, hm0, H⟩ := IG_succ H
                  dsimp only at hm0
                  subst hm0
                  try dsimp only at H
                  refine if_st H (fun h3267 H => ?_) (fun h3267 H => ?_)
                  · refine R.cut_fam H 142 [0, 1, 13, 15, 17, 18] [] (fun v3326 => []) (fun v3326 => []) [(26, .arr 83 4 (v2572.1.length) (ec c83 (v2572.1))), (40, .arr 83 4 (v2575.1.length) (ec c83 (v2575.1))), (48, .arr 83 4 (v2577.length) (ec c83 (v2577)))] 0 (fun H => ?_)
                    refine And.intro ?_ ?_
                    · refine ob_ck H fun h3328 H => ?_
                      refine ld_int (e := (v2572.1.getD s3024.toNat default).1) (own_get (ys := ec c83 v2572.1) (by first | rfl | simp [ei, eb, es, ec, c58, c83]) ((ec_get (i := s3024.toNat) (o := 0) c83_len (by first | exact tn h3328 | (have := tn h3328; simp at this ⊢; omega) | (have := tn h3328; simp; omega)) (by decide)).trans rfl)) ?_
                      refine ld_int (e := (v2572.1.getD s3024.toNat default).2.1) (own_get (ys := ec c83 v2572.1) (by first | rfl | simp [ei, eb, es, ec, c58, c83]) ((ec_get (i := s3024.toNat) (o := 1) c83_len (by first | exact tn h3328 | (have := tn h3328; simp at this ⊢; omega) | (have := tn h3328; simp; omega)) (by decide)).trans rfl)) ?_
                      refine ld_int (e := (v2572.1.getD s3024.toNat default).2.2.1) (own_get (ys := ec c83 v2572.1) (by first | rfl | simp [ei, eb, es, ec, c58, c83]) ((ec_get (i := s3024.toNat) (o := 2) c83_len (by first | exact tn h3328 | (have := tn h3328; simp at this ⊢; omega) | (have := tn h3328; simp; omega)) (by decide)).trans rfl)) ?_
                      refine ld_int (e := (v2572.1.getD s3024.toNat default).2.2.2) (own_get (ys := ec c83 v2572.1) (by first | rfl | simp [ei, eb, es, ec, c58, c83]) ((ec_get (i := s3024.toNat) (o := 3) c83_len (by first | exact tn h3328 | (have := tn h3328; simp at this ⊢; omega) | (have := tn h3328; simp; omega)) (by decide)).trans rfl)) ?_
                      refine R.cut_fam H 136 [0, 1, 13, 15, 17, 18, 19] [] (fun v3344 => [(141, bS v3344)]) (fun v3344 => []) [(26, .arr 83 4 (v2572.1.length) (ec c83 (v2572.1))), (40, .arr 83 4 (v2575.1.length) (ec c83 (v2575.1))), (48, .arr 83 4 (v2577.length) (ec c83 (v2577))), (85, .cells 83 [.v (.int .i64 ((v2572.1.getD s3024.toNat default).1)), .v (.int .i64 ((v2572.1.getD s3024.toNat default).2.1)), .v (.int .i64 ((v2572.1.getD s3024.toNat default).2.2.1)), .v (.int .i64 ((v2572.1.getD s3024.toNat default).2.2.2))])] 0 (fun H => ?_)
                      refine And.intro ?_ ?_
                      · refine And.intro ⟨by kernel_rfl⟩ ?_
                        refine ob_ck H fun h3346 H => ?_
                        refine ld_int (e := (v2577.getD s3024.toNat default).1) (own_get (ys := ec c83 v2577) (by first | rfl | simp [ei, eb, es, ec, c58, c83]) ((ec_get (i := s3024.toNat) (o := 0) c83_len (by first | exact tn h3346 | (have := tn h3346; simp at this ⊢; omega) | (have := tn h3346; simp; omega)) (by decide)).trans rfl)) ?_
                        refine ld_int (e := (v2577.getD s3024.toNat default).2.1) (own_get (ys := ec c83 v2577) (by first | rfl | simp [ei, eb, es, ec, c58, c83]) ((ec_get (i := s3024.toNat) (o := 1) c83_len (by first | exact tn h3346 | (have := tn h3346; simp at this ⊢; omega) | (have := tn h3346; simp; omega)) (by decide)).trans rfl)) ?_
                        refine ld_int (e := (v2577.getD s3024.toNat default).2.2.1) (own_get (ys := ec c83 v2577) (by first | rfl | simp [ei, eb, es, ec, c58, c83]) ((ec_get (i := s3024.toNat) (o := 2) c83_len (by first | exact tn h3346 | (have := tn h3346; simp at this ⊢; omega) | (have := tn h3346; simp; omega)) (by decide)).trans rfl)) ?_
                        refine ld_int (e := (v2577.getD s3024.toNat default).2.2.2) (own_get (ys := ec c83 v2577) (by first | rfl | simp [ei, eb, es, ec, c58, c83]) ((ec_get (i := s3024.toNat) (o := 3) c83_len (by first | exact tn h3346 | (have := tn h3346; simp at this ⊢; omega) | (have := tn h3346; simp; omega)) (by decide)).trans rfl)) ?_
                        refine if_st H (fun h3347 H => ?_) (fun h3347 H => ?_)
                        · refine ⟨true, ⟨H⟩, ⟨rfl⟩, ?_⟩
                          repeat (refine And.intro (Ob.mk (by first | exact rfl | exact Iff.rfl | exact ⟨rfl, rfl⟩ | exact decide_eq_true_iff | (constructor <;> first | rfl | simp [ei, eb, es, ec, c58, c83]) | simp [ei, eb, es, ec, c58, c83])) ?_)
                          first | exact trivial | exact rfl
                        · refine if_st H (fun h3348 H => ?_) (fun h3348 H => ?_)
                          · refine ob_ck H fun h3349 H => ?_
                            refine ld_int (e := (v2575.1.getD s3024.toNat default).1) (own_get (ys := ec c83 v2575.1) (by first | rfl | simp [ei, eb, es, ec, c58, c83]) ((ec_get (i := s3024.toNat) (o := 0) c83_len (by first | exact tn h3349 | (have := tn h3349; simp at this ⊢; omega) | (have := tn h3349; simp; omega)) (by decide)).trans rfl)) ?_
                            refine ld_int (e := (v2575.1.getD s3024.toNat default).2.1) (own_get (ys := ec c83 v2575.1) (by first | rfl | simp [ei, eb, es, ec, c58, c83]) ((ec_get (i := s3024.toNat) (o := 1) c83_len (by first | exact tn h3349 | (have := tn h3349; simp at this ⊢; omega) | (have := tn h3349; simp; omega)) (by decide)).trans rfl)) ?_
                            refine ld_int (e := (v2575.1.getD s3024.toNat default).2.2.1) (own_get (ys := ec c83 v2575.1) (by first | rfl | simp [ei, eb, es, ec, c58, c83]) ((ec_get (i := s3024.toNat) (o := 2) c83_len (by first | exact tn h3349 | (have := tn h3349; simp at this ⊢; omega) | (have := tn h3349; simp; omega)) (by decide)).trans rfl)) ?_
                            refine ld_int (e := (v2575.1.getD s3024.toNat default).2.2.2) (own_get (ys := ec c83 v2575.1) (by first | rfl | simp [ei, eb, es, ec, c58, c83]) ((ec_get (i := s3024.toNat) (o := 3) c83_len (by first | exact tn h3349 | (have := tn h3349; simp at this ⊢; omega) | (have := tn h3349; simp; omega)) (by decide)).trans rfl)) ?_
                            refine if_st H (fun h3350 H => ?_) (fun h3350 H => ?_)
                            · refine ⟨true, ⟨H⟩, ⟨rfl⟩, ?_⟩
                              repeat (refine And.intro (Ob.mk (by first | exact rfl | exact Iff.rfl | exact ⟨rfl, rfl⟩ | exact decide_eq_true_iff | (constructor <;> first | rfl | simp [ei, eb, es, ec, c58, c83]) | simp [ei, eb, es, ec, c58, c83])) ?_)
                              first | exact trivial | exact rfl
                            · refine if_st H (fun h3351 H => ?_) (fun h3351 H => ?_)
                              · refine ⟨true, ⟨H⟩, ⟨rfl⟩, ?_⟩
                                repeat (refine And.intro (Ob.mk (by first | exact rfl | exact Iff.rfl | exact ⟨rfl, rfl⟩ | exact decide_eq_true_iff | (constructor <;> first | rfl | simp [ei, eb, es, ec, c58, c83]) | simp [ei, eb, es, ec, c58, c83])) ?_)
                                first | exact trivial | exact rfl
                              · refine if_st H (fun h3352 H => ?_) (fun h3352 H => ?_)
                                · refine ⟨true, ⟨H⟩, ⟨rfl⟩, ?_⟩
                                  repeat (refine And.intro (Ob.mk (by first | exact rfl | exact Iff.rfl | exact ⟨rfl, rfl⟩ | exact decide_eq_true_iff | (constructor <;> first | rfl | simp [ei, eb, es, ec, c58, c83]) | simp [ei, eb, es, ec, c58, c83])) ?_)
                                  first | exact trivial | exact rfl
                                · refine ob_ck H fun h3353 H => ?_
                                  refine if_st H (fun h3354 H => ?_) (fun h3354 H => ?_)
                                  · refine ⟨true, ⟨H⟩, ⟨rfl⟩, ?_⟩
                                    repeat (refine And.intro (Ob.mk (by first | exact rfl | exact Iff.rfl | exact ⟨rfl, rfl⟩ | exact decide_eq_true_iff | (constructor <;> first | rfl | simp [ei, eb, es, ec, c58, c83]) | simp [ei, eb, es, ec, c58, c83])) ?_)
                                    first | exact trivial | exact rfl
                                  · refine ob_ck H fun h3355 H => ?_
                                    refine ⟨(decide (a0 < (((v2572.1.getD s3024.toNat default).2.1) + ((v2572.1.getD s3024.toNat default).2.2.2)))), ⟨H⟩, ⟨rfl⟩, ?_⟩
                                    repeat (refine And.intro (Ob.mk (by first | exact rfl | exact Iff.rfl | exact ⟨rfl, rfl⟩ | exact decide_eq_true_iff | (constructor <;> first | rfl | simp [ei, eb, es, ec, c58, c83]) | simp [ei, eb, es, ec, c58, c83])) ?_)
                                    first | exact trivial | exact rfl
                          · refine if_st H (fun h3356 H => ?_) (fun h3356 H => ?_)
                            · refine ⟨true, ⟨H⟩, ⟨rfl⟩, ?_⟩
                              repeat (refine And.intro (Ob.mk (by first | exact rfl | exact Iff.rfl | exact ⟨rfl, rfl⟩ | exact decide_eq_true_iff | (constructor <;> first | rfl | simp [ei, eb, es, ec, c58, c83]) | simp [ei, eb, es, ec, c58, c83])) ?_)
                              first | exact trivial | exact rfl
                            · refine if_st H (fun h3357 H => ?_) (fun h3357 H => ?_)
                              · refine ⟨true, ⟨H⟩, ⟨rfl⟩, ?_⟩
                                repeat (refine And.intro (Ob.mk (by first | exact rfl | exact Iff.rfl | exact ⟨rfl, rfl⟩ | exact decide_eq_true_iff | (constructor <;> first | rfl | simp [ei, eb, es, ec, c58, c83]) | simp [ei, eb, es, ec, c58, c83])) ?_)
                                first | exact trivial | exact rfl
                              · refine ob_ck H fun h3358 H => ?_
                                refine if_st H (fun h3359 H => ?_) (fun h3359 H => ?_)
                                · refine ⟨true, ⟨H⟩, ⟨rfl⟩, ?_⟩
                                  repeat (refine And.intro (Ob.mk (by first | exact rfl | exact Iff.rfl | exact ⟨rfl, rfl⟩ | exact decide_eq_true_iff | (constructor <;> first | rfl | simp [ei, eb, es, ec, c58, c83]) | simp [ei, eb, es, ec, c58, c83])) ?_)
                                  first | exact trivial | exact rfl
                                · refine ob_ck H fun h3360 H => ?_
                                  refine ⟨(decide (a0 < (((v2572.1.getD s3024.toNat default).2.1) + ((v2572.1.getD s3024.toNat default).2.2.2)))), ⟨H⟩, ⟨rfl⟩, ?_⟩
                                  repeat (refine And.intro (Ob.mk (by first | exact rfl | exact Iff.rfl | exact ⟨rfl, rfl⟩ | exact decide_eq_true_iff | (constructor <;> first | rfl | simp [ei, eb, es, ec, c58, c83]) | simp [ei, eb, es, ec, c58, c83])) ?_)
                                  first | exact trivial | exact rfl
                      · intro v3344 H
                        refine if_st H (fun h3361 H => ?_) (fun h3361 H => ?_)
                        · replace H := some_st H
                          dsimp only [stp, sm] at H
                          have hfin := fin_st H
                          repeat (refine And.intro (Ob.mk (by first | (rw [← hfin] <;> first | exact rfl | exact Iff.rfl | exact ⟨rfl, rfl⟩ | exact decide_eq_true_iff | (constructor <;> first | rfl | simp [ei, eb, es, ec, c58, c83]) | simp [ei, eb, es, ec, c58, c83]) | first | exact rfl | exact Iff.rfl | exact ⟨rfl, rfl⟩ | exact decide_eq_true_iff | (constructor <;> first | rfl | simp [ei, eb, es, ec, c58, c83]) | simp [ei, eb, es, ec, c58, c83])) ?_)
                          first | exact trivial | exact rfl
                        · refine R.loop_fam (bind_st H) [0, 1, 13, 15, 17, 18, 19] [] (fun _ s3362 => [(20, .v (.int .i64 (s3362)))]) (fun _ s3362 => []) 0 (fun n3385 H => ?_)
                          refine ⟨(n3385, _), ⟨H⟩, ⟨trivial⟩, ?_⟩
                          repeat (refine And.intro (Ob.mk (by first | exact rfl | exact Iff.rfl | exact ⟨rfl, rfl⟩ | exact decide_eq_true_iff | (constructor <;> first | rfl | simp [ei, eb, es, ec, c58, c83]) | simp [ei, eb, es, ec, c58, c83])) ?_)
                          rintro ⟨m0, s3362⟩ H _
                          obtain ⟨m3363, hm0, H⟩ := IG_succ H
                          dsimp only at hm0
                          subst hm0
                          try dsimp only at H
                          refine if_st H (fun h3377 H => ?_) (fun h3377 H => ?_)
                          · refine And.intro ⟨by kernel_rfl⟩ ?_
                            refine ob_ck H fun h3378 H => ?_
                            refine ld_int (e := (v2572.1.getD s3362.toNat default).1) (own_get (ys := ec c83 v2572.1) (by first | rfl | simp [ei, eb, es, ec, c58, c83]) ((ec_get (i := s3362.toNat) (o := 0) c83_len (by first | exact tn h3378 | (have := tn h3378; simp at this ⊢; omega) | (have := tn h3378; simp; omega)) (by decide)).trans rfl)) ?_
                            refine ld_int (e := (v2572.1.getD s3362.toNat default).2.1) (own_get (ys := ec c83 v2572.1) (by first | rfl | simp [ei, eb, es, ec, c58, c83]) ((ec_get (i := s3362.toNat) (o := 1) c83_len (by first | exact tn h3378 | (have := tn h3378; simp at this ⊢; omega) | (have := tn h3378; simp; omega)) (by decide)).trans rfl)) ?_
                            refine ld_int (e := (v2572.1.getD s3362.toNat default).2.2.1) (own_get (ys := ec c83 v2572.1) (by first | rfl | simp [ei, eb, es, ec, c58, c83]) ((ec_get (i := s3362.toNat) (o := 2) c83_len (by first | exact tn h3378 | (have := tn h3378; simp at this ⊢; omega) | (have := tn h3378; simp; omega)) (by decide)).trans rfl)) ?_
                            refine ld_int (e := (v2572.1.getD s3362.toNat default).2.2.2) (own_get (ys := ec c83 v2572.1) (by first | rfl | simp [ei, eb, es, ec, c58, c83]) ((ec_get (i := s3362.toNat) (o := 3) c83_len (by first | exact tn h3378 | (have := tn h3378; simp at this ⊢; omega) | (have := tn h3378; simp; omega)) (by decide)).trans rfl)) ?_
                            obtain ⟨v3379, hv3380, H⟩ := call_st H
                            refine ⟨(((v2572.1.getD s3024.toNat default).1, (v2572.1.getD s3024.toNat default).2.1, (v2572.1.getD s3024.toNat default).2.2.1, (v2572.1.getD s3024.toNat default).2.2.2), ((v2572.1.getD s3362.toNat default).1, (v2572.1.getD s3362.toNat default).2.1, (v2572.1.getD s3362.toNat default).2.2.1, (v2572.1.getD s3362.toNat default).2.2.2), v3379), ⟨hv3380⟩, ⟨trivial⟩, ?_⟩
                            refine And.intro ⟨by first | exact rfl | exact Iff.rfl | exact ⟨rfl, rfl⟩ | exact decide_eq_true_iff | (constructor <;> first | rfl | simp [ei, eb, es, ec, c58, c83]) | simp [ei, eb, es, ec, c58, c83]⟩ ?_
                            refine And.intro ⟨by first | exact rfl | exact Iff.rfl | exact ⟨rfl, rfl⟩ | exact decide_eq_true_iff | (constructor <;> first | rfl | simp [ei, eb, es, ec, c58, c83]) | simp [ei, eb, es, ec, c58, c83]⟩ ?_
                            refine And.intro ⟨by first | exact rfl | exact Iff.rfl | exact ⟨rfl, rfl⟩ | exact decide_eq_true_iff | (constructor <;> first | rfl | simp [ei, eb, es, ec, c58, c83]) | simp [ei, eb, es, ec, c58, c83]⟩ ?_
                            refine And.intro ⟨by first | exact rfl | exact Iff.rfl | exact ⟨rfl, rfl⟩ | exact decide_eq_true_iff | (constructor <;> first | rfl | simp [ei, eb, es, ec, c58, c83]) | simp [ei, eb, es, ec, c58, c83]⟩ ?_
                            refine And.intro ⟨by first | exact rfl | exact Iff.rfl | exact ⟨rfl, rfl⟩ | exact decide_eq_true_iff | (constructor <;> first | rfl | simp [ei, eb, es, ec, c58, c83]) | simp [ei, eb, es, ec, c58, c83]⟩ ?_
                            refine And.intro ⟨by first | exact rfl | exact Iff.rfl | exact ⟨rfl, rfl⟩ | exact decide_eq_true_iff | (constructor <;> first | rfl | simp [ei, eb, es, ec, c58, c83]) | simp [ei, eb, es, ec, c58, c83]⟩ ?_
                            refine And.intro ⟨by first | exact rfl | exact Iff.rfl | exact ⟨rfl, rfl⟩ | exact decide_eq_true_iff | (constructor <;> first | rfl | simp [ei, eb, es, ec, c58, c83]) | simp [ei, eb, es, ec, c58, c83]⟩ ?_
                            refine And.intro ⟨by first | exact rfl | exact Iff.rfl | exact ⟨rfl, rfl⟩ | exact decide_eq_true_iff | (constructor <;> first | rfl | simp [ei, eb, es, ec, c58, c83]) | simp [ei, eb, es, ec, c58, c83]⟩ ?_
                            refine if_st H (fun h3381 H => ?_) (fun h3381 H => ?_)
                            · replace H := some_st H
                              dsimp only [stp, sm] at H
                              replace H := some_st H
                              dsimp only [stp, sm] at H
                              have hfin := fin_st H
                              repeat (refine And.intro (Ob.mk (by first | (rw [← hfin] <;> first | exact rfl | exact Iff.rfl | exact ⟨rfl, rfl⟩ | exact decide_eq_true_iff | (constructor <;> first | rfl | simp [ei, eb, es, ec, c58, c83]) | simp [ei, eb, es, ec, c58, c83]) | first | exact rfl | exact Iff.rfl | exact ⟨rfl, rfl⟩ | exact decide_eq_true_iff | (constructor <;> first | rfl | simp [ei, eb, es, ec, c58, c83]) | simp [ei, eb, es, ec, c58, c83])) ?_)
                              first | exact trivial | exact rfl
                            · refine ob_ck H fun h3382 H => ?_
                              replace H := some_st H
                              refine ⟨(m3363, s3362 + 1), ⟨H, Nat.lt_succ_self _⟩, ⟨trivial⟩, ⟨rfl⟩, ?_⟩
                              repeat (refine And.intro (Ob.mk (by first | exact rfl | exact Iff.rfl | exact ⟨rfl, rfl⟩ | exact decide_eq_true_iff | (constructor <;> first | rfl | simp [ei, eb, es, ec, c58, c83]) | simp [ei, eb, es, ec, c58, c83])) ?_)
                              first | exact trivial | exact rfl
                          · replace H := some_st H
                            dsimp only [stp, sm] at H
                            refine ⟨(), ⟨H⟩, ⟨rfl⟩, ?_⟩
                            repeat (refine And.intro (Ob.mk (by first | exact rfl | exact Iff.rfl | exact ⟨rfl, rfl⟩ | exact decide_eq_true_iff | (constructor <;> first | rfl | simp [ei, eb, es, ec, c58, c83]) | simp [ei, eb, es, ec, c58, c83])) ?_)
                            first | exact trivial | exact rfl
                    · intro v3326 H
                      refine ob_ck H fun h3386 H => ?_
                      replace H := some_st H
                      refine ⟨(m3025, s3024 + 1), ⟨H, Nat.lt_succ_self _⟩, ⟨trivial⟩, ⟨rfl⟩, ?_⟩
                      repeat (refine And.intro (Ob.mk (by first | exact rfl | exact Iff.rfl | exact ⟨rfl, rfl⟩ | exact decide_eq_true_iff | (constructor <;> first | rfl | simp [ei, eb, es, ec, c58, c83]) | simp [ei, eb, es, ec, c58, c83])) ?_)
                      first | exact trivial | exact rfl
                  · replace H := some_st H
                    dsimp only [stp, sm] at H
                    refine ⟨(), ⟨H⟩, ⟨rfl⟩, ?_⟩
                    repeat (refine And.intro (Ob.mk (by first | exact rfl | exact Iff.rfl | exact ⟨rfl, rfl⟩ | exact decide_eq_true_iff | (constructor <;> first | rfl | simp [ei, eb, es, ec, c58, c83]) | simp [ei, eb, es, ec, c58, c83])) ?_)
                    first | exact trivial | exact rfl
                · intro v3022 H
                  have hfin := fin_st H
                  repeat (refine And.intro (Ob.mk (by first | (rw [← hfin] <;> first | exact rfl | exact Iff.rfl | exact ⟨rfl, rfl⟩ | exact decide_eq_true_iff | (constructor <;> first | rfl | simp [ei, eb, es, ec, c58, c83]) | simp [ei, eb, es, ec, c58, c83]) | first | exact rfl | exact Iff.rfl | exact ⟨rfl, rfl⟩ | exact decide_eq_true_iff | (constructor <;> first | rfl | simp [ei, eb, es, ec, c58, c83]) | simp [ei, eb, es, ec, c58, c83])) ?_)
                  first | exact trivial | exact rfl

end Go.Proofs.Ytcnofjjiepcpjaa
