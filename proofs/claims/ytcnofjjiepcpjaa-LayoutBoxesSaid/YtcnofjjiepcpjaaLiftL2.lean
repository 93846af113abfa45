/-
  Functions of the program, lifted: each with its walk. Printed by lift.py.
  Nothing here is trusted.
-/
import Derived.Test.YtcnofjjiepcpjaaLiftL1
set_option linter.unusedVariables false
set_option linter.unusedSimpArgs false
namespace Go.Proofs.Ytcnofjjiepcpjaa
open Go Go.Eng

/-- placard/placardref16.Sizes -/
noncomputable def g53 (a0 : Int) (a1 : Int) (a2 : List (Int × Int × Int × Int)) : Option (List Int × Int) :=
  (g52 a0 a1 a2).bind fun v1 =>
  if ¬ v1.2 = 0 then
    some (([] : List Int), v1.2)
  else
    (
      jn (α := _) (β := List Int) (fun k43 =>
          (loopO (σ := List Int × Int) (ρ := List Int) (fun s44 =>
              if s44.2 < ((a2.length : Nat) : Int) then
                (
                  ck (0 ≤ s44.2 ∧ s44.2 < ((v1.1.length : Nat) : Int)) <|
                  if (v1.1.getD s44.2.toNat false) = true then
                    (
                      ck (0 ≤ s44.2 ∧ s44.2 < ((a2.length : Nat) : Int)) <|
                      ck ((s44.1.length + 1) * 8 ≤ 140737488355328) <|
                      ck (inR .i64 (s44.2 + 1)) <|
                      some (.go ((s44.1 ++ [(a2.getD s44.2.toNat default).1]), s44.2 + 1))
                    )
                  else
                    (
                      ck ((s44.1.length + 1) * 8 ≤ 140737488355328) <|
                      ck (inR .i64 (s44.2 + 1)) <|
                      some (.go ((s44.1 ++ [0]), s44.2 + 1))
                    )
                )
              else
                some (.out s44.1)
            ) ([], 0)).bind fun o62 =>
            k43 o62
      ) (fun v42 =>
        (g82 a1 a2 v1.1).bind fun v72 =>
        ck (inR .i64 (a0 - v72)) <|
        jn (α := _) (β := Int × List Int) (fun k106 =>
            (loopO (σ := Int × List Int) (ρ := Int × List Int) (fun s107 =>
                if 0 < s107.1 then
                  (
                    (g94 a2 v1.1 s107.2).bind fun v127 =>
                    if v127 < 0 then
                      some (.out (s107.1, s107.2))
                    else
                      (
                        ck (0 ≤ v127 ∧ v127 < ((s107.2.length : Nat) : Int)) <|
                        ck (inR .i64 ((s107.2.getD v127.toNat 0) + 1)) <|
                        ck (0 ≤ v127 ∧ v127 < ((s107.2.length : Nat) : Int)) <|
                        ck (inR .i64 (s107.1 - 1)) <|
                        some (.go (s107.1 - 1, (s107.2.set v127.toNat ((s107.2.getD v127.toNat 0) + 1))))
                      )
                  )
                else
                  some (.out (s107.1, s107.2))
              ) (a0 - v72, v42)).bind fun o125 =>
              k106 (o125.1, o125.2)
        ) (fun v105 =>
          some (v105.2, 0)
        )
      )
    )
noncomputable def k53 : Eng.CS := { f := 53, calm := false, more := 1, ι := Int × Int × (List (Int × Int × Int × Int)) × (List Int × Int), ok := fun i => g53 i.1 i.2.1 i.2.2.1 = some i.2.2.2, rds := fun _ => [], args := fun i => [.w (.v (.int .i64 (i.1))), .w (.v (.int .i64 (i.2.1))), .sl 4 i.2.2.1.length (ec c58 i.2.2.1)], res := fun i => .tup [.own 0, .v (.int .i64 (i.2.2.2.2))], L' := fun i => [(0, .arr 3 1 i.2.2.2.1.length (ei .i64 i.2.2.2.1))], rn := [(0, 0, 3, 1)] }
set_option maxRecDepth 8000 in
set_option maxHeartbeats 4000000 in
theorem k53_ok : CSOk Try.prog k53 := by
  refine R.cspec Try.func53 nm53 rfl ?_
  rintro ⟨a0, a1, a2, r⟩ hok q _ args hargs
  match args, hargs with
  | [_, _, _], hargs =>
  obtain ⟨rfl, rfl, ⟨A2, cp2, rfl, hc2, _, hR2⟩, _⟩ := hargs
  refine ⟨envC [k52, k82, k94] false [(80, 9), (80, 15)], 6, envC_ok (css_cons ⟨fun h => (by cases h), fun _ => k52_ok⟩ (css_cons ⟨fun _ => k82_ok, fun h => (by cases h)⟩ (css_cons ⟨fun _ => k94_ok, fun h => (by cases h)⟩ (css_nil)))), ?_⟩
  have H : Gives (g53 a0 a1 a2) (fun a => a = r) := ⟨r, hok, rfl⟩
  unfold g53 at H
  clear hok
  obtain ⟨v1, hv2, H⟩ := call_st H
  refine ⟨(a0, a1, a2, v1), ⟨hv2⟩, ⟨trivial⟩, ?_⟩
  refine And.intro ⟨rfl⟩ ?_
  refine And.intro ⟨rfl⟩ ?_
  refine And.intro ⟨rfl, hc2, (ec_len c58_len).trans (congrArg (· * 4) (show _ = _ from rfl)), hR2⟩ ?_
  refine if_st H (fun h4 H => ?_) (fun h4 H => ?_)
  · have hfin := fin_st H
    repeat (refine And.intro (Ob.mk (by first | (rw [← hfin] <;> first | exact rfl | exact Iff.rfl | exact ⟨rfl, rfl⟩ | exact decide_eq_true_iff | (constructor <;> first | rfl | simp [ei, eb, es, ec, c58]) | simp [ei, eb, es, ec, c58]) | first | exact rfl | exact Iff.rfl | exact ⟨rfl, rfl⟩ | exact decide_eq_true_iff | (constructor <;> first | rfl | simp [ei, eb, es, ec, c58]) | simp [ei, eb, es, ec, c58])) ?_)
    first | exact trivial | exact rfl
  · refine R.cut_fam H 34 [0, 1, 2, 3, 8, 9] [] (fun v42 => []) (fun v42 => [(23, .cells 116 [.own 34, .v (.int .i64 (0))]), (34, .arr 3 1 (v42.length) (ei .i64 (v42)))]) [(11, .arr 4 1 (v1.1.length) (eb (v1.1))), (22, .cells 116 [.v (.slice none 0 0), .v (.int .i64 (0))])] 1 (fun H => ?_)
    refine And.intro ?_ ?_
    · refine R.loop_fam (bind_st H) [0, 1, 2, 3, 8, 9] [(100023, 0, 3, 1)] (fun _ s44 => [(10, .v (.int .i64 (s44.2)))]) (fun _ s44 => [(23, .cells 116 [.own 26, .v (.int .i64 (0))]), (26, .arr 3 1 (s44.1.length) (ei .i64 (s44.1)))]) 1 (fun n71 H => ?_)
      refine ⟨(n71, _), ⟨H⟩, ⟨trivial⟩, ?_⟩
      repeat (refine And.intro (Ob.mk (by first | exact rfl | exact Iff.rfl | exact ⟨rfl, rfl⟩ | exact decide_eq_true_iff | (constructor <;> first | rfl | simp [ei, eb, es, ec, c58]) | simp [ei, eb, es, ec, c58])) ?_)
      rintro ⟨m0, s44⟩ H _
      obtain ⟨m45, hm0, H⟩ := IG_succ H
      dsimp only at hm0
      subst hm0
      try dsimp only at H
      refine if_st H (fun h63 H => ?_) (fun h63 H => ?_)
      · refine ob_ck H fun h64 H => ?_
        refine ld_bool (e := v1.1.getD s44.2.toNat false) (own_get (ys := eb v1.1) (by first | rfl | simp [ei, eb, es, ec, c58]) (eb_get (l := v1.1) (by first | exact tn h64 | (have := tn h64; simp at this ⊢; omega) | (have := tn h64; simp; omega)))) ?_
        refine if_st H (fun h65 H => ?_) (fun h65 H => ?_)
        · refine ob_ix hR2 (fun h => ec0 c58_len (by decide) h) H fun h66 H => ?_
          refine ld_int (e := (a2.getD s44.2.toNat default).1) (rd_get hR2 ((ec_get (i := s44.2.toNat) (o := 0) c58_len (tn h66) (by decide)).trans rfl)) ?_
          refine ob_app (by decide) (by first | exact ei_one | (intro y hy; simp [ei, eb, es, ec, c58] at hy; (first | (rcases hy with rfl | hy) | subst hy | skip); all_goals first | rfl | simp_all [Value.oneCell'])) H fun h67 H => ?_
          refine ob_ck H fun h68 H => ?_
          replace H := some_st H
          refine ⟨(m45, ((s44.1 ++ [(a2.getD s44.2.toNat default).1]), s44.2 + 1)), ⟨H, Nat.lt_succ_self _⟩, ⟨trivial⟩, ⟨rfl⟩, ?_⟩
          repeat (refine And.intro (Ob.mk (by first | exact rfl | exact Iff.rfl | exact ⟨rfl, rfl⟩ | exact decide_eq_true_iff | (constructor <;> first | rfl | simp [ei, eb, es, ec, c58]) | simp [ei, eb, es, ec, c58])) ?_)
          first | exact trivial | exact rfl
        · refine ob_app (by decide) (by first | exact ei_one | (intro y hy; simp [ei, eb, es, ec, c58] at hy; (first | (rcases hy with rfl | hy) | subst hy | skip); all_goals first | rfl | simp_all [Value.oneCell'])) H fun h69 H => ?_
          refine ob_ck H fun h70 H => ?_
          replace H := some_st H
          refine ⟨(m45, ((s44.1 ++ [0]), s44.2 + 1)), ⟨H, Nat.lt_succ_self _⟩, ⟨trivial⟩, ⟨rfl⟩, ?_⟩
          repeat (refine And.intro (Ob.mk (by first | exact rfl | exact Iff.rfl | exact ⟨rfl, rfl⟩ | exact decide_eq_true_iff | (constructor <;> first | rfl | simp [ei, eb, es, ec, c58]) | simp [ei, eb, es, ec, c58])) ?_)
          first | exact trivial | exact rfl
      · replace H := some_st H
        dsimp only [stp, sm] at H
        refine ⟨s44.1, ⟨H⟩, ⟨rfl⟩, ?_⟩
        repeat (refine And.intro (Ob.mk (by first | exact rfl | exact Iff.rfl | exact ⟨rfl, rfl⟩ | exact decide_eq_true_iff | (constructor <;> first | rfl | simp [ei, eb, es, ec, c58]) | simp [ei, eb, es, ec, c58])) ?_)
        first | exact trivial | exact rfl
    · intro v42 H
      obtain ⟨v72, hv73, H⟩ := call_st H
      refine ⟨(a1, a2, v1.1, v72), ⟨hv73⟩, ⟨trivial⟩, ?_⟩
      refine And.intro ⟨rfl⟩ ?_
      refine And.intro ⟨rfl, hc2, (ec_len c58_len).trans (congrArg (· * 4) (show _ = _ from rfl)), hR2⟩ ?_
      refine And.intro ⟨by first | rfl | (simp; done), by first | rfl | (simp [ei, eb, es, ec, c58]; done) | (simp only [ei, eb, es, ec, c58, List.map_append, List.nil_append, List.append_assoc]; rfl)⟩ ?_
      refine ob_ck H fun h74 H => ?_
      refine R.cut_fam H 56 [8, 9] [] (fun v105 => []) (fun v105 => [(23, .cells 116 [.own 34, .v (.int .i64 (v105.1))]), (34, .arr 3 1 (v105.2.length) (ei .i64 (v105.2)))]) [(11, .arr 4 1 (v1.1.length) (eb (v1.1))), (22, .cells 116 [.v (.slice none 0 0), .v (.int .i64 (0))])] 0 (fun H => ?_)
      refine And.intro ?_ ?_
      · refine R.loop_fam (bind_st H) [2, 3, 8, 9] [] (fun _ s107 => []) (fun _ s107 => [(23, .cells 116 [.own 34, .v (.int .i64 (s107.1))]), (34, .arr 3 1 (s107.2.length) (ei .i64 (s107.2)))]) 0 (fun n134 H => ?_)
        refine ⟨(n134, _), ⟨H⟩, ⟨trivial⟩, ?_⟩
        repeat (refine And.intro (Ob.mk (by first | exact rfl | exact Iff.rfl | exact ⟨rfl, rfl⟩ | exact decide_eq_true_iff | (constructor <;> first | rfl | simp [ei, eb, es, ec, c58]) | simp [ei, eb, es, ec, c58])) ?_)
        rintro ⟨m0, s107⟩ H _
        obtain ⟨m108, hm0, H⟩ := IG_succ H
        dsimp only at hm0
        subst hm0
        try dsimp only at H
        refine if_st H (fun h126 H => ?_) (fun h126 H => ?_)
        · obtain ⟨v127, hv128, H⟩ := call_st H
          refine ⟨(a2, v1.1, s107.2, v127), ⟨hv128⟩, ⟨trivial⟩, ?_⟩
          refine And.intro ⟨rfl, hc2, (ec_len c58_len).trans (congrArg (· * 4) (show _ = _ from rfl)), hR2⟩ ?_
          refine And.intro ⟨by first | rfl | (simp; done), by first | rfl | (simp [ei, eb, es, ec, c58]; done) | (simp only [ei, eb, es, ec, c58, List.map_append, List.nil_append, List.append_assoc]; rfl)⟩ ?_
          refine And.intro ⟨by first | rfl | (simp; done), by first | rfl | (simp [ei, eb, es, ec, c58]; done) | (simp only [ei, eb, es, ec, c58, List.map_append, List.nil_append, List.append_assoc]; rfl)⟩ ?_
          refine if_st H (fun h129 H => ?_) (fun h129 H => ?_)
          · replace H := some_st H
            dsimp only [stp, sm] at H
            refine ⟨(s107.1, s107.2), ⟨H⟩, ⟨rfl⟩, ?_⟩
            repeat (refine And.intro (Ob.mk (by first | exact rfl | exact Iff.rfl | exact ⟨rfl, rfl⟩ | exact decide_eq_true_iff | (constructor <;> first | rfl | simp [ei, eb, es, ec, c58]) | simp [ei, eb, es, ec, c58])) ?_)
            first | exact trivial | exact rfl
          · refine ob_ck H fun h130 H => ?_
            refine ld_int (e := s107.2.getD v127.toNat 0) (own_get (ys := ei .i64 s107.2) (by first | rfl | simp [ei, eb, es, ec, c58]) (ei_get (l := s107.2) (by first | exact tn h130 | (have := tn h130; simp at this ⊢; omega) | (have := tn h130; simp; omega)))) ?_
            refine ob_ck H fun h131 H => ?_
            refine ob_ck H fun h132 H => ?_
            refine And.intro ⟨by first | (have := tn h132; simp [ei, eb, es, ec, c58] at this ⊢; omega) | (have := tn h132; simp [ei, eb, es, ec, c58]; omega)⟩ ?_
            refine ob_ck H fun h133 H => ?_
            replace H := some_st H
            refine ⟨(m108, (s107.1 - 1, (s107.2.set v127.toNat ((s107.2.getD v127.toNat 0) + 1)))), ⟨H, Nat.lt_succ_self _⟩, ⟨trivial⟩, ⟨rfl⟩, ?_⟩
            repeat (refine And.intro (Ob.mk (by first | exact rfl | exact Iff.rfl | exact ⟨rfl, rfl⟩ | exact decide_eq_true_iff | (constructor <;> first | rfl | simp [ei, eb, es, ec, c58]) | simp [ei, eb, es, ec, c58])) ?_)
            first | exact trivial | exact rfl
        · replace H := some_st H
          dsimp only [stp, sm] at H
          refine ⟨(s107.1, s107.2), ⟨H⟩, ⟨rfl⟩, ?_⟩
          repeat (refine And.intro (Ob.mk (by first | exact rfl | exact Iff.rfl | exact ⟨rfl, rfl⟩ | exact decide_eq_true_iff | (constructor <;> first | rfl | simp [ei, eb, es, ec, c58]) | simp [ei, eb, es, ec, c58])) ?_)
          first | exact trivial | exact rfl
      · intro v105 H
        have hfin := fin_st H
        repeat (refine And.intro (Ob.mk (by first | (rw [← hfin] <;> first | exact rfl | exact Iff.rfl | exact ⟨rfl, rfl⟩ | exact decide_eq_true_iff | (constructor <;> first | rfl | simp [ei, eb, es, ec, c58]) | simp [ei, eb, es, ec, c58]) | first | exact rfl | exact Iff.rfl | exact ⟨rfl, rfl⟩ | exact decide_eq_true_iff | (constructor <;> first | rfl | simp [ei, eb, es, ec, c58]) | simp [ei, eb, es, ec, c58])) ?_)
        first | exact trivial | exact rfl
noncomputable def e53 (n : Nat) (a0 : Int) (a1 : Int) (a2 : List (Int × Int × Int × Int)) : Option (List Int × Int) :=
  (e52 n a0 a1 a2).bind fun v1 =>
  if ¬ v1.2 = 0 then
    some (([] : List Int), v1.2)
  else
    (
      jn (α := _) (β := List Int) (fun k43 =>
          (itN n (σ := List Int × Int) (ρ := List Int) (fun s44 =>
              if s44.2 < ((a2.length : Nat) : Int) then
                (
                  ck (0 ≤ s44.2 ∧ s44.2 < ((v1.1.length : Nat) : Int)) <|
                  if (v1.1.getD s44.2.toNat false) = true then
                    (
                      ck (0 ≤ s44.2 ∧ s44.2 < ((a2.length : Nat) : Int)) <|
                      ck ((s44.1.length + 1) * 8 ≤ 140737488355328) <|
                      ck (inR .i64 (s44.2 + 1)) <|
                      some (.go ((s44.1 ++ [(a2.getD s44.2.toNat default).1]), s44.2 + 1))
                    )
                  else
                    (
                      ck ((s44.1.length + 1) * 8 ≤ 140737488355328) <|
                      ck (inR .i64 (s44.2 + 1)) <|
                      some (.go ((s44.1 ++ [0]), s44.2 + 1))
                    )
                )
              else
                some (.out s44.1)
            ) ([], 0)).bind fun o62 =>
            k43 o62
      ) (fun v42 =>
        (e82 n a1 a2 v1.1).bind fun v72 =>
        ck (inR .i64 (a0 - v72)) <|
        jn (α := _) (β := Int × List Int) (fun k106 =>
            (itN n (σ := Int × List Int) (ρ := Int × List Int) (fun s107 =>
                if 0 < s107.1 then
                  (
                    (e94 n a2 v1.1 s107.2).bind fun v127 =>
                    if v127 < 0 then
                      some (.out (s107.1, s107.2))
                    else
                      (
                        ck (0 ≤ v127 ∧ v127 < ((s107.2.length : Nat) : Int)) <|
                        ck (inR .i64 ((s107.2.getD v127.toNat 0) + 1)) <|
                        ck (0 ≤ v127 ∧ v127 < ((s107.2.length : Nat) : Int)) <|
                        ck (inR .i64 (s107.1 - 1)) <|
                        some (.go (s107.1 - 1, (s107.2.set v127.toNat ((s107.2.getD v127.toNat 0) + 1))))
                      )
                  )
                else
                  some (.out (s107.1, s107.2))
              ) (a0 - v72, v42)).bind fun o125 =>
              k106 (o125.1, o125.2)
        ) (fun v105 =>
          some (v105.2, 0)
        )
      )
    )
theorem e53_le (n : Nat) (a0 : Int) (a1 : Int) (a2 : List (Int × Int × Int × Int)) : Le (e53 n a0 a1 a2) (g53 a0 a1 a2) := by
  unfold e53 g53
  repeat' first | exact e52_le _ _ _ _ | exact e82_le _ _ _ _ | exact e94_le _ _ _ _ | refine le_bind ?_ (fun _ => ?_) | refine le_ck ?_ | refine le_if ?_ ?_ | refine le_sm (fun _ => ?_) (fun _ => ?_) | refine le_jn (fun _ _ _ => ?_) (fun _ => ?_) | refine le_loop (fun _ => ?_) | with_reducible exact le_refl | apply_assumption

/-- placard/placardref16.Places -/
noncomputable def g41 (a0 : Int) (a1 : Int) (a2 : Int) (a3 : List (Int × Int × Int × Int)) : Option (List Int × Int) :=
  (g52 a0 a1 a3).bind fun v135 =>
  if ¬ v135.2 = 0 then
    some (([] : List Int), v135.2)
  else
    (
      (g75 a2 0 2).bind fun v142 =>
      if ¬ (v142 = true) then
        some (([] : List Int), 5)
      else
        (
          jn (α := _) (β := List Int) (fun k304 =>
              (loopO (σ := List Int × Int) (ρ := List Int) (fun s305 =>
                  if s305.2 < ((a3.length : Nat) : Int) then
                    (
                      ck (0 ≤ s305.2 ∧ s305.2 < ((v135.1.length : Nat) : Int)) <|
                      if (v135.1.getD s305.2.toNat false) = true then
                        (
                          ck (0 ≤ s305.2 ∧ s305.2 < ((a3.length : Nat) : Int)) <|
                          ck ((s305.1.length + 1) * 8 ≤ 140737488355328) <|
                          ck (inR .i64 (s305.2 + 1)) <|
                          some (.go ((s305.1 ++ [(a3.getD s305.2.toNat default).1]), s305.2 + 1))
                        )
                      else
                        (
                          ck ((s305.1.length + 1) * 8 ≤ 140737488355328) <|
                          ck (inR .i64 (s305.2 + 1)) <|
                          some (.go ((s305.1 ++ [0]), s305.2 + 1))
                        )
                    )
                  else
                    some (.out s305.1)
                ) ([], 0)).bind fun o323 =>
                k304 o323
          ) (fun v303 =>
            (g82 a1 a3 v135.1).bind fun v333 =>
            ck (inR .i64 (a0 - v333)) <|
            jn (α := _) (β := Int × List Int) (fun k365 =>
                (loopO (σ := Int × List Int) (ρ := Int × List Int) (fun s366 =>
                    if 0 < s366.1 then
                      (
                        (g94 a3 v135.1 s366.2).bind fun v386 =>
                        if v386 < 0 then
                          some (.out (s366.1, s366.2))
                        else
                          (
                            ck (0 ≤ v386 ∧ v386 < ((s366.2.length : Nat) : Int)) <|
                            ck (inR .i64 ((s366.2.getD v386.toNat 0) + 1)) <|
                            ck (0 ≤ v386 ∧ v386 < ((s366.2.length : Nat) : Int)) <|
                            ck (inR .i64 (s366.1 - 1)) <|
                            some (.go (s366.1 - 1, (s366.2.set v386.toNat ((s366.2.getD v386.toNat 0) + 1))))
                          )
                      )
                    else
                      some (.out (s366.1, s366.2))
                  ) (a0 - v333, v303)).bind fun o384 =>
                  k365 (o384.1, o384.2)
            ) (fun v364 =>
              jn (α := _) (β := Int) (fun k397 =>
                  if a2 = 1 then
                    k397 v364.1
                  else
                    k397 0
              ) (fun v396 =>
                jn (α := _) (β := Int) (fun k404 =>
                    if a2 = 2 then
                      (
                        ck (inR .i64 (Int.tdiv v364.1 2)) <|
                        k404 (Int.tdiv v364.1 2)
                      )
                    else
                      k404 v396
                ) (fun v403 =>
                  jn (α := _) (β := List Int) (fun k453 =>
                      (loopO (σ := Int × List Int × Int) (ρ := List Int) (fun s454 =>
                          if s454.2.2 < ((a3.length : Nat) : Int) then
                            (
                              ck (0 ≤ s454.2.2 ∧ s454.2.2 < ((v135.1.length : Nat) : Int)) <|
                              if ¬ ((v135.1.getD s454.2.2.toNat false) = true) then
                                (
                                  ck ((s454.2.1.length + 1) * 8 ≤ 140737488355328) <|
                                  ck (inR .i64 (s454.2.2 + 1)) <|
                                  some (.go (s454.1, (s454.2.1 ++ [0]), s454.2.2 + 1))
                                )
                              else
                                (
                                  ck ((s454.2.1.length + 1) * 8 ≤ 140737488355328) <|
                                  ck (0 ≤ s454.2.2 ∧ s454.2.2 < ((v364.2.length : Nat) : Int)) <|
                                  ck (inR .i64 (s454.1 + (v364.2.getD s454.2.2.toNat 0))) <|
                                  ck (inR .i64 ((s454.1 + (v364.2.getD s454.2.2.toNat 0)) + a1)) <|
                                  ck (inR .i64 (s454.2.2 + 1)) <|
                                  some (.go ((s454.1 + (v364.2.getD s454.2.2.toNat 0)) + a1, (s454.2.1 ++ [s454.1]), s454.2.2 + 1))
                                )
                            )
                          else
                            some (.out s454.2.1)
                        ) (v403, [], 0)).bind fun o476 =>
                        k453 o476
                  ) (fun v452 =>
                    some (v452, 0)
                  )
                )
              )
            )
          )
        )
    )
noncomputable def k41 : Eng.CS := { f := 41, calm := false, more := 1, ι := Int × Int × Int × (List (Int × Int × Int × Int)) × (List Int × Int), ok := fun i => g41 i.1 i.2.1 i.2.2.1 i.2.2.2.1 = some i.2.2.2.2, rds := fun _ => [], args := fun i => [.w (.v (.int .i64 (i.1))), .w (.v (.int .i64 (i.2.1))), .w (.v (.int .i64 (i.2.2.1))), .sl 4 i.2.2.2.1.length (ec c58 i.2.2.2.1)], res := fun i => .tup [.own 0, .v (.int .i64 (i.2.2.2.2.2))], L' := fun i => [(0, .arr 3 1 i.2.2.2.2.1.length (ei .i64 i.2.2.2.2.1))], rn := [(0, 0, 3, 1)] }
set_option maxRecDepth 8000 in
set_option maxHeartbeats 4000000 in
theorem k41_ok : CSOk Try.prog k41 := by
  refine R.cspec Try.func41 nm41 rfl ?_
  rintro ⟨a0, a1, a2, a3, r⟩ hok q _ args hargs
  match args, hargs with
  | [_, _, _, _], hargs =>
  obtain ⟨rfl, rfl, rfl, ⟨A3, cp3, rfl, hc3, _, hR3⟩, _⟩ := hargs
  refine ⟨envC [k52, k75, k82, k94] false [(41, 10), (41, 12), (41, 20), (80, 9), (80, 15)], 6, envC_ok (css_cons ⟨fun h => (by cases h), fun _ => k52_ok⟩ (css_cons ⟨fun _ => k75_ok, fun h => (by cases h)⟩ (css_cons ⟨fun _ => k82_ok, fun h => (by cases h)⟩ (css_cons ⟨fun _ => k94_ok, fun h => (by cases h)⟩ (css_nil))))), ?_⟩
  have H : Gives (g41 a0 a1 a2 a3) (fun a => a = r) := ⟨r, hok, rfl⟩
  unfold g41 at H
  clear hok
  obtain ⟨v135, hv136, H⟩ := call_st H
  refine ⟨(a0, a1, a3, v135), ⟨hv136⟩, ⟨trivial⟩, ?_⟩
  refine And.intro ⟨rfl⟩ ?_
  refine And.intro ⟨rfl⟩ ?_
  refine And.intro ⟨rfl, hc3, (ec_len c58_len).trans (congrArg (· * 4) (show _ = _ from rfl)), hR3⟩ ?_
  refine if_st H (fun h138 H => ?_) (fun h138 H => ?_)
  · have hfin := fin_st H
    repeat (refine And.intro (Ob.mk (by first | (rw [← hfin] <;> first | exact rfl | exact Iff.rfl | exact ⟨rfl, rfl⟩ | exact decide_eq_true_iff | (constructor <;> first | rfl | simp [ei, eb, es, ec, c58]) | simp [ei, eb, es, ec, c58]) | first | exact rfl | exact Iff.rfl | exact ⟨rfl, rfl⟩ | exact decide_eq_true_iff | (constructor <;> first | rfl | simp [ei, eb, es, ec, c58]) | simp [ei, eb, es, ec, c58])) ?_)
    first | exact trivial | exact rfl
  · obtain ⟨v142, hv143, H⟩ := call_st H
    refine ⟨(a2, 0, 2, v142), ⟨hv143⟩, ⟨trivial⟩, ?_⟩
    refine And.intro ⟨rfl⟩ ?_
    refine And.intro ⟨rfl⟩ ?_
    refine And.intro ⟨rfl⟩ ?_
    refine if_st H (fun h144 H => ?_) (fun h144 H => ?_)
    · have hfin := fin_st H
      repeat (refine And.intro (Ob.mk (by first | (rw [← hfin] <;> first | exact rfl | exact Iff.rfl | exact ⟨rfl, rfl⟩ | exact decide_eq_true_iff | (constructor <;> first | rfl | simp [ei, eb, es, ec, c58]) | simp [ei, eb, es, ec, c58]) | first | exact rfl | exact Iff.rfl | exact ⟨rfl, rfl⟩ | exact decide_eq_true_iff | (constructor <;> first | rfl | simp [ei, eb, es, ec, c58]) | simp [ei, eb, es, ec, c58])) ?_)
      first | exact trivial | exact rfl
    · refine R.cut_fam H 36 [0, 1, 2, 3, 8, 9] [] (fun v303 => []) (fun v303 => [(25, .cells 116 [.own 36, .v (.int .i64 (0))]), (36, .arr 3 1 (v303.length) (ei .i64 (v303)))]) [(11, .arr 4 1 (v135.1.length) (eb (v135.1))), (24, .cells 116 [.v (.slice none 0 0), .v (.int .i64 (0))])] 1 (fun H => ?_)
      refine And.intro ?_ ?_
      · refine R.loop_fam (bind_st H) [0, 1, 2, 3, 8, 9] [(100025, 0, 3, 1)] (fun _ s305 => [(10, .v (.int .i64 (s305.2)))]) (fun _ s305 => [(25, .cells 116 [.own 28, .v (.int .i64 (0))]), (28, .arr 3 1 (s305.1.length) (ei .i64 (s305.1)))]) 1 (fun n332 H => ?_)
        refine ⟨(n332, _), ⟨H⟩, ⟨trivial⟩, ?_⟩
        repeat (refine And.intro (Ob.mk (by first | exact rfl | exact Iff.rfl | exact ⟨rfl, rfl⟩ | exact decide_eq_true_iff | (constructor <;> first | rfl | simp [ei, eb, es, ec, c58]) | simp [ei, eb, es, ec, c58])) ?_)
        rintro ⟨m0, s305⟩ H _
        obtain ⟨m306, hm0, H⟩ := IG_succ H
        dsimp only at hm0
        subst hm0
        try dsimp only at H
        refine if_st H (fun h324 H => ?_) (fun h324 H => ?_)
        · refine ob_ck H fun h325 H => ?_
          refine ld_bool (e := v135.1.getD s305.2.toNat false) (own_get (ys := eb v135.1) (by first | rfl | simp [ei, eb, es, ec, c58]) (eb_get (l := v135.1) (by first | exact tn h325 | (have := tn h325; simp at this ⊢; omega) | (have := tn h325; simp; omega)))) ?_
          refine if_st H (fun h326 H => ?_) (fun h326 H => ?_)
          · refine ob_ix hR3 (fun h => ec0 c58_len (by decide) h) H fun h327 H => ?_
            refine ld_int (e := (a3.getD s305.2.toNat default).1) (rd_get hR3 ((ec_get (i := s305.2.toNat) (o := 0) c58_len (tn h327) (by decide)).trans rfl)) ?_
            refine ob_app (by decide) (by first | exact ei_one | (intro y hy; simp [ei, eb, es, ec, c58] at hy; (first | (rcases hy with rfl | hy) | subst hy | skip); all_goals first | rfl | simp_all [Value.oneCell'])) H fun h328 H => ?_
            refine ob_ck H fun h329 H => ?_
            replace H := some_st H
            refine ⟨(m306, ((s305.1 ++ [(a3.getD s305.2.toNat default).1]), s305.2 + 1)), ⟨H, Nat.lt_succ_self _⟩, ⟨trivial⟩, ⟨rfl⟩, ?_⟩
            repeat (refine And.intro (Ob.mk (by first | exact rfl | exact Iff.rfl | exact ⟨rfl, rfl⟩ | exact decide_eq_true_iff | (constructor <;> first | rfl | simp [ei, eb, es, ec, c58]) | simp [ei, eb, es, ec, c58])) ?_)
            first | exact trivial | exact rfl
          · refine ob_app (by decide) (by first | exact ei_one | (intro y hy; simp [ei, eb, es, ec, c58] at hy; (first | (rcases hy with rfl | hy) | subst hy | skip); all_goals first | rfl | simp_all [Value.oneCell'])) H fun h330 H => ?_
            refine ob_ck H fun h331 H => ?_
            replace H := some_st H
            refine ⟨(m306, ((s305.1 ++ [0]), s305.2 + 1)), ⟨H, Nat.lt_succ_self _⟩, ⟨trivial⟩, ⟨rfl⟩, ?_⟩
            repeat (refine And.intro (Ob.mk (by first | exact rfl | exact Iff.rfl | exact ⟨rfl, rfl⟩ | exact decide_eq_true_iff | (constructor <;> first | rfl | simp [ei, eb, es, ec, c58]) | simp [ei, eb, es, ec, c58])) ?_)
            first | exact trivial | exact rfl
        · replace H := some_st H
          dsimp only [stp, sm] at H
          refine ⟨s305.1, ⟨H⟩, ⟨rfl⟩, ?_⟩
          repeat (refine And.intro (Ob.mk (by first | exact rfl | exact Iff.rfl | exact ⟨rfl, rfl⟩ | exact decide_eq_true_iff | (constructor <;> first | rfl | simp [ei, eb, es, ec, c58]) | simp [ei, eb, es, ec, c58])) ?_)
          first | exact trivial | exact rfl
      · intro v303 H
        obtain ⟨v333, hv334, H⟩ := call_st H
        refine ⟨(a1, a3, v135.1, v333), ⟨hv334⟩, ⟨trivial⟩, ?_⟩
        refine And.intro ⟨rfl⟩ ?_
        refine And.intro ⟨rfl, hc3, (ec_len c58_len).trans (congrArg (· * 4) (show _ = _ from rfl)), hR3⟩ ?_
        refine And.intro ⟨by first | rfl | (simp; done), by first | rfl | (simp [ei, eb, es, ec, c58]; done) | (simp only [ei, eb, es, ec, c58, List.map_append, List.nil_append, List.append_assoc]; rfl)⟩ ?_
        refine ob_ck H fun h335 H => ?_
        refine R.cut_fam H 58 [8, 9] [] (fun v364 => []) (fun v364 => [(25, .cells 116 [.own 36, .v (.int .i64 (v364.1))]), (36, .arr 3 1 (v364.2.length) (ei .i64 (v364.2)))]) [(11, .arr 4 1 (v135.1.length) (eb (v135.1))), (24, .cells 116 [.v (.slice none 0 0), .v (.int .i64 (0))])] 0 (fun H => ?_)
        refine And.intro ?_ ?_
        · refine R.loop_fam (bind_st H) [2, 3, 8, 9] [] (fun _ s366 => []) (fun _ s366 => [(25, .cells 116 [.own 36, .v (.int .i64 (s366.1))]), (36, .arr 3 1 (s366.2.length) (ei .i64 (s366.2)))]) 0 (fun n393 H => ?_)
          refine ⟨(n393, _), ⟨H⟩, ⟨trivial⟩, ?_⟩
          repeat (refine And.intro (Ob.mk (by first | exact rfl | exact Iff.rfl | exact ⟨rfl, rfl⟩ | exact decide_eq_true_iff | (constructor <;> first | rfl | simp [ei, eb, es, ec, c58]) | simp [ei, eb, es, ec, c58])) ?_)
          rintro ⟨m0, s366⟩ H _
          obtain ⟨m367, hm0, H⟩ := IG_succ H
          dsimp only at hm0
          subst hm0
          try dsimp only at H
          refine if_st H (fun h385 H => ?_) (fun h385 H => ?_)
          · obtain ⟨v386, hv387, H⟩ := call_st H
            refine ⟨(a3, v135.1, s366.2, v386), ⟨hv387⟩, ⟨trivial⟩, ?_⟩
            refine And.intro ⟨rfl, hc3, (ec_len c58_len).trans (congrArg (· * 4) (show _ = _ from rfl)), hR3⟩ ?_
            refine And.intro ⟨by first | rfl | (simp; done), by first | rfl | (simp [ei, eb, es, ec, c58]; done) | (simp only [ei, eb, es, ec, c58, List.map_append, List.nil_append, List.append_assoc]; rfl)⟩ ?_
            refine And.intro ⟨by first | rfl | (simp; done), by first | rfl | (simp [ei, eb, es, ec, c58]; done) | (simp only [ei, eb, es, ec, c58, List.map_append, List.nil_append, List.append_assoc]; rfl)⟩ ?_
            refine if_st H (fun h388 H => ?_) (fun h388 H => ?_)
            · replace H := some_st H
              dsimp only [stp, sm] at H
              refine ⟨(s366.1, s366.2), ⟨H⟩, ⟨rfl⟩, ?_⟩
              repeat (refine And.intro (Ob.mk (by first | exact rfl | exact Iff.rfl | exact ⟨rfl, rfl⟩ | exact decide_eq_true_iff | (constructor <;> first | rfl | simp [ei, eb, es, ec, c58]) | simp [ei, eb, es, ec, c58])) ?_)
              first | exact trivial | exact rfl
            · refine ob_ck H fun h389 H => ?_
              refine ld_int (e := s366.2.getD v386.toNat 0) (own_get (ys := ei .i64 s366.2) (by first | rfl | simp [ei, eb, es, ec, c58]) (ei_get (l := s366.2) (by first | exact tn h389 | (have := tn h389; simp at this ⊢; omega) | (have := tn h389; simp; omega)))) ?_
              refine ob_ck H fun h390 H => ?_
              refine ob_ck H fun h391 H => ?_
              refine And.intro ⟨by first | (have := tn h391; simp [ei, eb, es, ec, c58] at this ⊢; omega) | (have := tn h391; simp [ei, eb, es, ec, c58]; omega)⟩ ?_
              refine ob_ck H fun h392 H => ?_
              replace H := some_st H
              refine ⟨(m367, (s366.1 - 1, (s366.2.set v386.toNat ((s366.2.getD v386.toNat 0) + 1)))), ⟨H, Nat.lt_succ_self _⟩, ⟨trivial⟩, ⟨rfl⟩, ?_⟩
              repeat (refine And.intro (Ob.mk (by first | exact rfl | exact Iff.rfl | exact ⟨rfl, rfl⟩ | exact decide_eq_true_iff | (constructor <;> first | rfl | simp [ei, eb, es, ec, c58]) | simp [ei, eb, es, ec, c58])) ?_)
              first | exact trivial | exact rfl
          · replace H := some_st H
            dsimp only [stp, sm] at H
            refine ⟨(s366.1, s366.2), ⟨H⟩, ⟨rfl⟩, ?_⟩
            repeat (refine And.intro (Ob.mk (by first | exact rfl | exact Iff.rfl | exact ⟨rfl, rfl⟩ | exact decide_eq_true_iff | (constructor <;> first | rfl | simp [ei, eb, es, ec, c58]) | simp [ei, eb, es, ec, c58])) ?_)
            first | exact trivial | exact rfl
        · intro v364 H
          refine R.cut_fam H 67 [1, 2, 3, 10, 12] [] (fun v396 => [(13, .v (.int .i64 (v396)))]) (fun v396 => []) [(25, .cells 116 [.own 36, .v (.int .i64 (v364.1))]), (36, .arr 3 1 (v364.2.length) (ei .i64 (v364.2))), (11, .arr 4 1 (v135.1.length) (eb (v135.1))), (24, .cells 116 [.own 36, .v (.int .i64 (v364.1))]), (22, .cells 116 [.own 36, .v (.int .i64 (v364.1))])] 0 (fun H => ?_)
          refine And.intro ?_ ?_
          · refine if_st H (fun h398 H => ?_) (fun h398 H => ?_)
            · refine ⟨v364.1, ⟨H⟩, ⟨rfl⟩, ?_⟩
              repeat (refine And.intro (Ob.mk (by first | exact rfl | exact Iff.rfl | exact ⟨rfl, rfl⟩ | exact decide_eq_true_iff | (constructor <;> first | rfl | simp [ei, eb, es, ec, c58]) | simp [ei, eb, es, ec, c58])) ?_)
              first | exact trivial | exact rfl
            · refine ⟨0, ⟨H⟩, ⟨rfl⟩, ?_⟩
              repeat (refine And.intro (Ob.mk (by first | exact rfl | exact Iff.rfl | exact ⟨rfl, rfl⟩ | exact decide_eq_true_iff | (constructor <;> first | rfl | simp [ei, eb, es, ec, c58]) | simp [ei, eb, es, ec, c58])) ?_)
              first | exact trivial | exact rfl
          · intro v396 H
            refine R.cut_fam H 74 [1, 3, 10, 12] [] (fun v403 => [(13, .v (.int .i64 (v403)))]) (fun v403 => []) [(25, .cells 116 [.own 36, .v (.int .i64 (v364.1))]), (36, .arr 3 1 (v364.2.length) (ei .i64 (v364.2))), (11, .arr 4 1 (v135.1.length) (eb (v135.1))), (24, .cells 116 [.own 36, .v (.int .i64 (v364.1))]), (22, .cells 116 [.own 36, .v (.int .i64 (v364.1))])] 0 (fun H => ?_)
            refine And.intro ?_ ?_
            · refine if_st H (fun h405 H => ?_) (fun h405 H => ?_)
              · refine And.intro ⟨by decide⟩ ?_
                refine ob_ck H fun h406 H => ?_
                refine ⟨Int.tdiv v364.1 2, ⟨H⟩, ⟨rfl⟩, ?_⟩
                repeat (refine And.intro (Ob.mk (by first | exact rfl | exact Iff.rfl | exact ⟨rfl, rfl⟩ | exact decide_eq_true_iff | (constructor <;> first | rfl | simp [ei, eb, es, ec, c58]) | simp [ei, eb, es, ec, c58])) ?_)
                first | exact trivial | exact rfl
              · refine ⟨v396, ⟨H⟩, ⟨rfl⟩, ?_⟩
                repeat (refine And.intro (Ob.mk (by first | exact rfl | exact Iff.rfl | exact ⟨rfl, rfl⟩ | exact decide_eq_true_iff | (constructor <;> first | rfl | simp [ei, eb, es, ec, c58]) | simp [ei, eb, es, ec, c58])) ?_)
                first | exact trivial | exact rfl
            · intro v403 H
              refine R.cut_fam H 85 [] [] (fun v452 => [(14, .own 85)]) (fun v452 => [(85, .arr 3 1 (v452.length) (ei .i64 (v452)))]) [(25, .cells 116 [.own 36, .v (.int .i64 (v364.1))]), (36, .arr 3 1 (v364.2.length) (ei .i64 (v364.2))), (11, .arr 4 1 (v135.1.length) (eb (v135.1))), (24, .cells 116 [.own 36, .v (.int .i64 (v364.1))]), (22, .cells 116 [.own 36, .v (.int .i64 (v364.1))])] 1 (fun H => ?_)
              refine And.intro ?_ ?_
              · refine R.loop_fam (bind_st H) [1, 3, 10, 12] [(14, 0, 3, 1)] (fun _ s454 => [(13, .v (.int .i64 (s454.1))), (14, .own 77), (15, .v (.int .i64 (s454.2.2)))]) (fun _ s454 => [(77, .arr 3 1 (s454.2.1.length) (ei .i64 (s454.2.1)))]) 1 (fun n487 H => ?_)
                refine ⟨(n487, _), ⟨H⟩, ⟨trivial⟩, ?_⟩
                repeat (refine And.intro (Ob.mk (by first | exact rfl | exact Iff.rfl | exact ⟨rfl, rfl⟩ | exact decide_eq_true_iff | (constructor <;> first | rfl | simp [ei, eb, es, ec, c58]) | simp [ei, eb, es, ec, c58])) ?_)
                rintro ⟨m0, s454⟩ H _
                obtain ⟨m455, hm0, H⟩ := IG_succ H
                dsimp only at hm0
                subst hm0
                try dsimp only at H
                refine if_st H (fun h477 H => ?_) (fun h477 H => ?_)
                · refine ob_ck H fun h478 H => ?_
                  refine ld_bool (e := v135.1.getD s454.2.2.toNat false) (own_get (ys := eb v135.1) (by first | rfl | simp [ei, eb, es, ec, c58]) (eb_get (l := v135.1) (by first | exact tn h478 | (have := tn h478; simp at this ⊢; omega) | (have := tn h478; simp; omega)))) ?_
                  refine if_st H (fun h479 H => ?_) (fun h479 H => ?_)
                  · refine ob_app (by decide) (by first | exact ei_one | (intro y hy; simp [ei, eb, es, ec, c58] at hy; (first | (rcases hy with rfl | hy) | subst hy | skip); all_goals first | rfl | simp_all [Value.oneCell'])) H fun h480 H => ?_
                    refine ob_ck H fun h481 H => ?_
                    replace H := some_st H
                    refine ⟨(m455, (s454.1, (s454.2.1 ++ [0]), s454.2.2 + 1)), ⟨H, Nat.lt_succ_self _⟩, ⟨trivial⟩, ⟨rfl⟩, ?_⟩
                    repeat (refine And.intro (Ob.mk (by first | exact rfl | exact Iff.rfl | exact ⟨rfl, rfl⟩ | exact decide_eq_true_iff | (constructor <;> first | rfl | simp [ei, eb, es, ec, c58]) | simp [ei, eb, es, ec, c58])) ?_)
                    first | exact trivial | exact rfl
                  · refine ob_app (by decide) (by first | exact ei_one | (intro y hy; simp [ei, eb, es, ec, c58] at hy; (first | (rcases hy with rfl | hy) | subst hy | skip); all_goals first | rfl | simp_all [Value.oneCell'])) H fun h482 H => ?_
                    refine ob_ck H fun h483 H => ?_
                    refine ld_int (e := v364.2.getD s454.2.2.toNat 0) (own_get (ys := ei .i64 v364.2) (by first | rfl | simp [ei, eb, es, ec, c58]) (ei_get (l := v364.2) (by first | exact tn h483 | (have := tn h483; simp at this ⊢; omega) | (have := tn h483; simp; omega)))) ?_
                    refine ob_ck H fun h484 H => ?_
                    refine ob_ck H fun h485 H => ?_
                    refine ob_ck H fun h486 H => ?_
                    replace H := some_st H
                    refine ⟨(m455, ((s454.1 + (v364.2.getD s454.2.2.toNat 0)) + a1, (s454.2.1 ++ [s454.1]), s454.2.2 + 1)), ⟨H, Nat.lt_succ_self _⟩, ⟨trivial⟩, ⟨rfl⟩, ?_⟩
                    repeat (refine And.intro (Ob.mk (by first | exact rfl | exact Iff.rfl | exact ⟨rfl, rfl⟩ | exact decide_eq_true_iff | (constructor <;> first | rfl | simp [ei, eb, es, ec, c58]) | simp [ei, eb, es, ec, c58])) ?_)
                    first | exact trivial | exact rfl
                · replace H := some_st H
                  dsimp only [stp, sm] at H
                  refine ⟨s454.2.1, ⟨H⟩, ⟨rfl⟩, ?_⟩
                  repeat (refine And.intro (Ob.mk (by first | exact rfl | exact Iff.rfl | exact ⟨rfl, rfl⟩ | exact decide_eq_true_iff | (constructor <;> first | rfl | simp [ei, eb, es, ec, c58]) | simp [ei, eb, es, ec, c58])) ?_)
                  first | exact trivial | exact rfl
              · intro v452 H
                have hfin := fin_st H
                repeat (refine And.intro (Ob.mk (by first | (rw [← hfin] <;> first | exact rfl | exact Iff.rfl | exact ⟨rfl, rfl⟩ | exact decide_eq_true_iff | (constructor <;> first | rfl | simp [ei, eb, es, ec, c58]) | simp [ei, eb, es, ec, c58]) | first | exact rfl | exact Iff.rfl | exact ⟨rfl, rfl⟩ | exact decide_eq_true_iff | (constructor <;> first | rfl | simp [ei, eb, es, ec, c58]) | simp [ei, eb, es, ec, c58])) ?_)
                first | exact trivial | exact rfl
noncomputable def e41 (n : Nat) (a0 : Int) (a1 : Int) (a2 : Int) (a3 : List (Int × Int × Int × Int)) : Option (List Int × Int) :=
  (e52 n a0 a1 a3).bind fun v135 =>
  if ¬ v135.2 = 0 then
    some (([] : List Int), v135.2)
  else
    (
      (e75 n a2 0 2).bind fun v142 =>
      if ¬ (v142 = true) then
        some (([] : List Int), 5)
      else
        (
          jn (α := _) (β := List Int) (fun k304 =>
              (itN n (σ := List Int × Int) (ρ := List Int) (fun s305 =>
                  if s305.2 < ((a3.length : Nat) : Int) then
                    (
                      ck (0 ≤ s305.2 ∧ s305.2 < ((v135.1.length : Nat) : Int)) <|
                      if (v135.1.getD s305.2.toNat false) = true then
                        (
                          ck (0 ≤ s305.2 ∧ s305.2 < ((a3.length : Nat) : Int)) <|
                          ck ((s305.1.length + 1) * 8 ≤ 140737488355328) <|
                          ck (inR .i64 (s305.2 + 1)) <|
                          some (.go ((s305.1 ++ [(a3.getD s305.2.toNat default).1]), s305.2 + 1))
                        )
                      else
                        (
                          ck ((s305.1.length + 1) * 8 ≤ 140737488355328) <|
                          ck (inR .i64 (s305.2 + 1)) <|
                          some (.go ((s305.1 ++ [0]), s305.2 + 1))
                        )
                    )
                  else
                    some (.out s305.1)
                ) ([], 0)).bind fun o323 =>
                k304 o323
          ) (fun v303 =>
            (e82 n a1 a3 v135.1).bind fun v333 =>
            ck (inR .i64 (a0 - v333)) <|
            jn (α := _) (β := Int × List Int) (fun k365 =>
                (itN n (σ := Int × List Int) (ρ := Int × List Int) (fun s366 =>
                    if 0 < s366.1 then
                      (
                        (e94 n a3 v135.1 s366.2).bind fun v386 =>
                        if v386 < 0 then
                          some (.out (s366.1, s366.2))
                        else
                          (
                            ck (0 ≤ v386 ∧ v386 < ((s366.2.length : Nat) : Int)) <|
                            ck (inR .i64 ((s366.2.getD v386.toNat 0) + 1)) <|
                            ck (0 ≤ v386 ∧ v386 < ((s366.2.length : Nat) : Int)) <|
                            ck (inR .i64 (s366.1 - 1)) <|
                            some (.go (s366.1 - 1, (s366.2.set v386.toNat ((s366.2.getD v386.toNat 0) + 1))))
                          )
                      )
                    else
                      some (.out (s366.1, s366.2))
                  ) (a0 - v333, v303)).bind fun o384 =>
                  k365 (o384.1, o384.2)
            ) (fun v364 =>
              jn (α := _) (β := Int) (fun k397 =>
                  if a2 = 1 then
                    k397 v364.1
                  else
                    k397 0
              ) (fun v396 =>
                jn (α := _) (β := Int) (fun k404 =>
                    if a2 = 2 then
                      (
                        ck (inR .i64 (Int.tdiv v364.1 2)) <|
                        k404 (Int.tdiv v364.1 2)
                      )
                    else
                      k404 v396
                ) (fun v403 =>
                  jn (α := _) (β := List Int) (fun k453 =>
                      (itN n (σ := Int × List Int × Int) (ρ := List Int) (fun s454 =>
                          if s454.2.2 < ((a3.length : Nat) : Int) then
                            (
                              ck (0 ≤ s454.2.2 ∧ s454.2.2 < ((v135.1.length : Nat) : Int)) <|
                              if ¬ ((v135.1.getD s454.2.2.toNat false) = true) then
                                (
                                  ck ((s454.2.1.length + 1) * 8 ≤ 140737488355328) <|
                                  ck (inR .i64 (s454.2.2 + 1)) <|
                                  some (.go (s454.1, (s454.2.1 ++ [0]), s454.2.2 + 1))
                                )
                              else
                                (
                                  ck ((s454.2.1.length + 1) * 8 ≤ 140737488355328) <|
                                  ck (0 ≤ s454.2.2 ∧ s454.2.2 < ((v364.2.length : Nat) : Int)) <|
                                  ck (inR .i64 (s454.1 + (v364.2.getD s454.2.2.toNat 0))) <|
                                  ck (inR .i64 ((s454.1 + (v364.2.getD s454.2.2.toNat 0)) + a1)) <|
                                  ck (inR .i64 (s454.2.2 + 1)) <|
                                  some (.go ((s454.1 + (v364.2.getD s454.2.2.toNat 0)) + a1, (s454.2.1 ++ [s454.1]), s454.2.2 + 1))
                                )
                            )
                          else
                            some (.out s454.2.1)
                        ) (v403, [], 0)).bind fun o476 =>
                        k453 o476
                  ) (fun v452 =>
                    some (v452, 0)
                  )
                )
              )
            )
          )
        )
    )
theorem e41_le (n : Nat) (a0 : Int) (a1 : Int) (a2 : Int) (a3 : List (Int × Int × Int × Int)) : Le (e41 n a0 a1 a2 a3) (g41 a0 a1 a2 a3) := by
  unfold e41 g41
  repeat' first | exact e52_le _ _ _ _ | exact e75_le _ _ _ _ | exact e82_le _ _ _ _ | exact e94_le _ _ _ _ | refine le_bind ?_ (fun _ => ?_) | refine le_ck ?_ | refine le_if ?_ ?_ | refine le_sm (fun _ => ?_) (fun _ => ?_) | refine le_jn (fun _ _ _ => ?_) (fun _ => ?_) | refine le_loop (fun _ => ?_) | with_reducible exact le_refl | apply_assumption

/-- placard/layout.needs -/
noncomputable def g92 (a0 : Int) (a1 : List Bool) (a2 : List (Int × Int × Int × Int)) : Option (Int × Int) :=
  jn (α := _) (β := Int × Int) (fun k523 =>
      (loopO (σ := Int × Int × Int) (ρ := Int × Int) (fun s524 =>
          if s524.2.2 < ((a2.length : Nat) : Int) then
            (
              ck (0 ≤ s524.2.2 ∧ s524.2.2 < ((a2.length : Nat) : Int)) <|
              ck (0 ≤ s524.2.2 ∧ s524.2.2 < ((a1.length : Nat) : Int)) <|
              if (a1.getD s524.2.2.toNat false) = true then
                (
                  ck (inR .i64 (s524.1 + ((a2.getD s524.2.2.toNat default).1))) <|
                  ck (inR .i64 (s524.2.1 + 1)) <|
                  ck (inR .i64 (s524.2.2 + 1)) <|
                  some (.go (s524.1 + ((a2.getD s524.2.2.toNat default).1), s524.2.1 + 1, s524.2.2 + 1))
                )
              else
                (
                  ck (inR .i64 (s524.2.2 + 1)) <|
                  some (.go (s524.1, s524.2.1, s524.2.2 + 1))
                )
            )
          else
            some (.out (s524.1, s524.2.1))
        ) (0, 0, 0)).bind fun o542 =>
        k523 (o542.1, o542.2)
  ) (fun v522 =>
    ck (inR .i64 (v522.2 - 1)) <|
    ck (inR .i64 (a0 * (gmax 0 (v522.2 - 1)))) <|
    ck (inR .i64 (v522.1 + (a0 * (gmax 0 (v522.2 - 1))))) <|
    some (v522.1 + (a0 * (gmax 0 (v522.2 - 1))), v522.2)
  )
noncomputable def k92 : Eng.CS := { f := 92, calm := true, more := 0, ι := Int × (List Bool) × (List (Int × Int × Int × Int)) × (Int × Int), ok := fun i => g92 i.1 i.2.1 i.2.2.1 = some i.2.2.2, rds := fun _ => [], args := fun i => [.w (.v (.int .i64 (i.1))), .sl 1 i.2.1.length (eb i.2.1), .sl 4 i.2.2.1.length (ec c58 i.2.2.1)], res := fun i => .tup [.v (.int .i64 (i.2.2.2.1)), .v (.int .i64 (i.2.2.2.2))] }
set_option maxRecDepth 8000 in
set_option maxHeartbeats 4000000 in
theorem k92_ok : CalmOk Try.prog k92 := by
  refine R.calmspec Try.func92 nm92 rfl ?_
  rintro ⟨a0, a1, a2, r⟩ hok q _ args hargs
  match args, hargs with
  | [_, _, _], hargs =>
  obtain ⟨rfl, ⟨A1, cp1, rfl, hc1, _, hR1⟩, ⟨A2, cp2, rfl, hc2, _, hR2⟩, _⟩ := hargs
  refine ⟨envC [] false [(92, 6)], 6, envC_ok (css_nil), rfl, (by intro x hx; simp only [List.mem_cons, List.not_mem_nil, or_false] at hx; rcases hx with rfl | rfl | rfl <;> rfl), ?_⟩
  have H : Gives (g92 a0 a1 a2) (fun a => a = r) := ⟨r, hok, rfl⟩
  unfold g92 at H
  clear hok
  refine R.cut_fam H 22 [0, 8, 9] [] (fun v522 => []) (fun v522 => [(2, .cells 3 [.v (.int .i64 (v522.1))]), (3, .cells 3 [.v (.int .i64 (v522.2))])]) [] 0 (fun H => ?_)
  refine And.intro ?_ ?_
  · refine R.loop_fam (bind_st H) [0, 2, 6, 7] [] (fun _ s524 => [(8, .v (.int .i64 (s524.2.2)))]) (fun _ s524 => [(2, .cells 3 [.v (.int .i64 (s524.1))]), (3, .cells 3 [.v (.int .i64 (s524.2.1))])]) 0 (fun n551 H => ?_)
    refine ⟨(n551, _), ⟨H⟩, ⟨trivial⟩, ?_⟩
    repeat (refine And.intro (Ob.mk (by first | exact rfl | exact Iff.rfl | exact ⟨rfl, rfl⟩ | exact decide_eq_true_iff | (constructor <;> first | rfl | simp [ei, eb, es, ec, c58]) | simp [ei, eb, es, ec, c58])) ?_)
    rintro ⟨m0, s524⟩ H _
    obtain ⟨m525, hm0, H⟩ := IG_succ H
    dsimp only at hm0
    subst hm0
    try dsimp only at H
    refine if_st H (fun h543 H => ?_) (fun h543 H => ?_)
    · refine ob_ix hR2 (fun h => ec0 c58_len (by decide) h) H fun h544 H => ?_
      refine ld_int (e := (a2.getD s524.2.2.toNat default).1) (rd_get hR2 ((ec_get (i := s524.2.2.toNat) (o := 0) c58_len (tn h544) (by decide)).trans rfl)) ?_
      refine ld_int (e := (a2.getD s524.2.2.toNat default).2.1) (rd_get hR2 ((ec_get (i := s524.2.2.toNat) (o := 1) c58_len (tn h544) (by decide)).trans rfl)) ?_
      refine ld_int (e := (a2.getD s524.2.2.toNat default).2.2.1) (rd_get hR2 ((ec_get (i := s524.2.2.toNat) (o := 2) c58_len (tn h544) (by decide)).trans rfl)) ?_
      refine ld_int (e := (a2.getD s524.2.2.toNat default).2.2.2) (rd_get hR2 ((ec_get (i := s524.2.2.toNat) (o := 3) c58_len (tn h544) (by decide)).trans rfl)) ?_
      refine ob_ix hR1 (fun h => eb0 h) H fun h545 H => ?_
      refine ld_bool (e := a1.getD s524.2.2.toNat false) (rd_get hR1 (eb_get (l := a1) (tn h545))) ?_
      refine if_st H (fun h546 H => ?_) (fun h546 H => ?_)
      · refine ob_ck H fun h547 H => ?_
        refine ob_ck H fun h548 H => ?_
        refine ob_ck H fun h549 H => ?_
        replace H := some_st H
        refine ⟨(m525, (s524.1 + ((a2.getD s524.2.2.toNat default).1), s524.2.1 + 1, s524.2.2 + 1)), ⟨H, Nat.lt_succ_self _⟩, ⟨trivial⟩, ⟨rfl⟩, ?_⟩
        repeat (refine And.intro (Ob.mk (by first | exact rfl | exact Iff.rfl | exact ⟨rfl, rfl⟩ | exact decide_eq_true_iff | (constructor <;> first | rfl | simp [ei, eb, es, ec, c58]) | simp [ei, eb, es, ec, c58])) ?_)
        first | exact trivial | exact rfl
      · refine ob_ck H fun h550 H => ?_
        replace H := some_st H
        refine ⟨(m525, (s524.1, s524.2.1, s524.2.2 + 1)), ⟨H, Nat.lt_succ_self _⟩, ⟨trivial⟩, ⟨rfl⟩, ?_⟩
        repeat (refine And.intro (Ob.mk (by first | exact rfl | exact Iff.rfl | exact ⟨rfl, rfl⟩ | exact decide_eq_true_iff | (constructor <;> first | rfl | simp [ei, eb, es, ec, c58]) | simp [ei, eb, es, ec, c58])) ?_)
        first | exact trivial | exact rfl
    · replace H := some_st H
      dsimp only [stp, sm] at H
      refine ⟨(s524.1, s524.2.1), ⟨H⟩, ⟨rfl⟩, ?_⟩
      repeat (refine And.intro (Ob.mk (by first | exact rfl | exact Iff.rfl | exact ⟨rfl, rfl⟩ | exact decide_eq_true_iff | (constructor <;> first | rfl | simp [ei, eb, es, ec, c58]) | simp [ei, eb, es, ec, c58])) ?_)
      first | exact trivial | exact rfl
  · intro v522 H
    refine And.intro ⟨by kernel_rfl⟩ ?_
    refine ob_ck H fun h552 H => ?_
    refine ob_ck H fun h553 H => ?_
    refine ob_ck H fun h554 H => ?_
    have hfin := fin_st H
    repeat (refine And.intro (Ob.mk (by first | (rw [← hfin] <;> first | exact rfl | exact Iff.rfl | exact ⟨rfl, rfl⟩ | exact decide_eq_true_iff | (constructor <;> first | rfl | simp [ei, eb, es, ec, c58]) | simp [ei, eb, es, ec, c58]) | first | exact rfl | exact Iff.rfl | exact ⟨rfl, rfl⟩ | exact decide_eq_true_iff | (constructor <;> first | rfl | simp [ei, eb, es, ec, c58]) | simp [ei, eb, es, ec, c58])) ?_)
    first | exact trivial | exact rfl
noncomputable def e92 (n : Nat) (a0 : Int) (a1 : List Bool) (a2 : List (Int × Int × Int × Int)) : Option (Int × Int) :=
  jn (α := _) (β := Int × Int) (fun k523 =>
      (itN n (σ := Int × Int × Int) (ρ := Int × Int) (fun s524 =>
          if s524.2.2 < ((a2.length : Nat) : Int) then
            (
              ck (0 ≤ s524.2.2 ∧ s524.2.2 < ((a2.length : Nat) : Int)) <|
              ck (0 ≤ s524.2.2 ∧ s524.2.2 < ((a1.length : Nat) : Int)) <|
              if (a1.getD s524.2.2.toNat false) = true then
                (
                  ck (inR .i64 (s524.1 + ((a2.getD s524.2.2.toNat default).1))) <|
                  ck (inR .i64 (s524.2.1 + 1)) <|
                  ck (inR .i64 (s524.2.2 + 1)) <|
                  some (.go (s524.1 + ((a2.getD s524.2.2.toNat default).1), s524.2.1 + 1, s524.2.2 + 1))
                )
              else
                (
                  ck (inR .i64 (s524.2.2 + 1)) <|
                  some (.go (s524.1, s524.2.1, s524.2.2 + 1))
                )
            )
          else
            some (.out (s524.1, s524.2.1))
        ) (0, 0, 0)).bind fun o542 =>
        k523 (o542.1, o542.2)
  ) (fun v522 =>
    ck (inR .i64 (v522.2 - 1)) <|
    ck (inR .i64 (a0 * (gmax 0 (v522.2 - 1)))) <|
    ck (inR .i64 (v522.1 + (a0 * (gmax 0 (v522.2 - 1))))) <|
    some (v522.1 + (a0 * (gmax 0 (v522.2 - 1))), v522.2)
  )
theorem e92_le (n : Nat) (a0 : Int) (a1 : List Bool) (a2 : List (Int × Int × Int × Int)) : Le (e92 n a0 a1 a2) (g92 a0 a1 a2) := by
  unfold e92 g92
  repeat' first | refine le_bind ?_ (fun _ => ?_) | refine le_ck ?_ | refine le_if ?_ ?_ | refine le_sm (fun _ => ?_) (fun _ => ?_) | refine le_jn (fun _ _ _ => ?_) (fun _ => ?_) | refine le_loop (fun _ => ?_) | with_reducible exact le_refl | apply_assumption

/-- placard/layout.stay -/
noncomputable def g79 (a0 : Int) (a1 : Int) (a2 : List (Int × Int × Int × Int)) : Option (List Bool) :=
  ck (0 ≤ ((a2.length : Nat) : Int) ∧ ((a2.length : Nat) : Int) ≤ ((a2.length : Nat) : Int) ∧ ((a2.length : Nat) : Int) ≤ 9223372036854775807 ∧ ((a2.length : Nat) : Int) * ((1 : Nat) : Int) ≤ 140737488355328) <|
  jn (α := _) (β := List Bool) (fun k572 =>
      (loopO (σ := List Bool × Int) (ρ := List Bool) (fun s573 =>
          if s573.2 < ((((a2.length : Nat) : Int).toNat : Nat) : Int) then
            (
              ck (0 ≤ s573.2 ∧ s573.2 < ((s573.1.length : Nat) : Int)) <|
              ck (inR .i64 (s573.2 + 1)) <|
              some (.go ((s573.1.set s573.2.toNat true), s573.2 + 1))
            )
          else
            some (.out s573.1)
        ) ((List.replicate ((a2.length : Nat) : Int).toNat false), 0)).bind fun o581 =>
        k572 o581
  ) (fun v571 =>
    (loopO (σ := List Bool) (ρ := List Bool) (fun s586 =>
        (g92 a1 s586 a2).bind fun v763 =>
        if v763.2 = 0 then
          some (.out s586)
        else
          (
            if v763.1 ≤ a0 then
              some (.out s586)
            else
              (
                jn (α := _) (β := Int) (fun k805 =>
                    (loopO (σ := Int × Int) (ρ := Int) (fun s806 =>
                        if s806.2 < ((a2.length : Nat) : Int) then
                          (
                            ck (0 ≤ s806.2 ∧ s806.2 < ((a2.length : Nat) : Int)) <|
                            ck (0 ≤ s806.2 ∧ s806.2 < ((s586.length : Nat) : Int)) <|
                            if (s586.getD s806.2.toNat false) = true then
                              (
                                if s806.1 < 0 then
                                  (
                                    ck (inR .i64 (s806.2 + 1)) <|
                                    some (.go (s806.2, s806.2 + 1))
                                  )
                                else
                                  (
                                    ck (0 ≤ s806.1 ∧ s806.1 < ((a2.length : Nat) : Int)) <|
                                    if ((a2.getD s806.2.toNat default).2.2.2) ≤ ((a2.getD s806.1.toNat default).2.2.2) then
                                      (
                                        ck (inR .i64 (s806.2 + 1)) <|
                                        some (.go (s806.2, s806.2 + 1))
                                      )
                                    else
                                      (
                                        ck (inR .i64 (s806.2 + 1)) <|
                                        some (.go (s806.1, s806.2 + 1))
                                      )
                                  )
                              )
                            else
                              (
                                ck (inR .i64 (s806.2 + 1)) <|
                                some (.go (s806.1, s806.2 + 1))
                              )
                          )
                        else
                          some (.out s806.1)
                      ) ((-1), 0)).bind fun o830 =>
                      k805 o830
                ) (fun v804 =>
                  ck (0 ≤ v804 ∧ v804 < ((s586.length : Nat) : Int)) <|
                  some (.go (s586.set v804.toNat false))
                )
              )
          )
      ) v571).bind fun o762 =>
      some o762
  )
noncomputable def k79 : Eng.CS := { f := 79, calm := false, more := 1, ι := Int × Int × (List (Int × Int × Int × Int)) × List Bool, ok := fun i => g79 i.1 i.2.1 i.2.2.1 = some i.2.2.2, rds := fun _ => [], args := fun i => [.w (.v (.int .i64 (i.1))), .w (.v (.int .i64 (i.2.1))), .sl 4 i.2.2.1.length (ec c58 i.2.2.1)], res := fun i => .own 0, L' := fun i => [(0, .arr 4 1 i.2.2.2.length (eb i.2.2.2))], rn := [(0, 0, 4, 1)] }
set_option maxRecDepth 8000 in
set_option maxHeartbeats 4000000 in
theorem k79_ok : CSOk Try.prog k79 := by
  refine R.cspec Try.func79 nm79 rfl ?_
  rintro ⟨a0, a1, a2, r⟩ hok q _ args hargs
  match args, hargs with
  | [_, _, _], hargs =>
  obtain ⟨rfl, rfl, ⟨A2, cp2, rfl, hc2, _, hR2⟩, _⟩ := hargs
  refine ⟨envC [k92] false [(79, 7), (79, 16)], 6, envC_ok (css_cons ⟨fun _ => k92_ok, fun h => (by cases h)⟩ (css_nil)), ?_⟩
  have H : Gives (g79 a0 a1 a2) (fun a => a = r) := ⟨r, hok, rfl⟩
  unfold g79 at H
  clear hok
  refine ob_ck H fun h555 H => ?_
  refine R.cut_fam H 12 [0, 1, 5, 7] [] (fun v571 => []) (fun v571 => [(4, .arr 4 1 (v571.length) (eb (v571)))]) [(0, .cells 47 [.v (.slice (A2) (a2.length) (cp2))])] 0 (fun H => ?_)
  refine And.intro ?_ ?_
  · refine R.loop_fam (bind_st H) [0, 1, 5, 7, 18] [] (fun _ s573 => [(19, .v (.int .i64 (s573.2)))]) (fun _ s573 => [(4, .arr 4 1 (s573.1.length) (eb (s573.1)))]) 0 (fun n585 H => ?_)
    refine ⟨(n585, _), ⟨H⟩, ⟨trivial⟩, ?_⟩
    repeat (refine And.intro (Ob.mk (by first | exact rfl | exact Iff.rfl | exact ⟨rfl, rfl⟩ | exact decide_eq_true_iff | (constructor <;> first | rfl | simp [ei, eb, es, ec, c58]) | simp [ei, eb, es, ec, c58])) ?_)
    rintro ⟨m0, s573⟩ H _
    obtain ⟨m574, hm0, H⟩ := IG_succ H
    dsimp only at hm0
    subst hm0
    try dsimp only at H
    refine if_st H (fun h582 H => ?_) (fun h582 H => ?_)
    · refine ob_ck H fun h583 H => ?_
      refine And.intro ⟨by first | (have := tn h583; simp [ei, eb, es, ec, c58] at this ⊢; omega) | (have := tn h583; simp [ei, eb, es, ec, c58]; omega)⟩ ?_
      refine ob_ck H fun h584 H => ?_
      replace H := some_st H
      refine ⟨(m574, ((s573.1.set s573.2.toNat true), s573.2 + 1)), ⟨H, Nat.lt_succ_self _⟩, ⟨trivial⟩, ⟨rfl⟩, ?_⟩
      repeat (refine And.intro (Ob.mk (by first | exact rfl | exact Iff.rfl | exact ⟨rfl, rfl⟩ | exact decide_eq_true_iff | (constructor <;> first | rfl | simp [ei, eb, es, ec, c58]) | simp [ei, eb, es, ec, c58])) ?_)
      first | exact trivial | exact rfl
    · replace H := some_st H
      dsimp only [stp, sm] at H
      refine ⟨s573.1, ⟨H⟩, ⟨rfl⟩, ?_⟩
      repeat (refine And.intro (Ob.mk (by first | exact rfl | exact Iff.rfl | exact ⟨rfl, rfl⟩ | exact decide_eq_true_iff | (constructor <;> first | rfl | simp [ei, eb, es, ec, c58]) | simp [ei, eb, es, ec, c58])) ?_)
      first | exact trivial | exact rfl
  · intro v571 H
    refine R.loop_fam (bind_st H) [0, 1, 5, 7] [] (fun _ s586 => []) (fun _ s586 => [(4, .arr 4 1 (s586.length) (eb (s586)))]) 0 (fun n844 H => ?_)
    refine ⟨(n844, _), ⟨H⟩, ⟨trivial⟩, ?_⟩
    repeat (refine And.intro (Ob.mk (by first | exact rfl | exact Iff.rfl | exact ⟨rfl, rfl⟩ | exact decide_eq_true_iff | (constructor <;> first | rfl | simp [ei, eb, es, ec, c58]) | simp [ei, eb, es, ec, c58])) ?_)
    rintro ⟨m0, s586⟩ H _
    obtain ⟨m587, hm0, H⟩ := IG_succ H
    dsimp only at hm0
    subst hm0
    try dsimp only at H
    obtain ⟨v763, hv764, H⟩ := call_st H
    refine ⟨(a1, s586, a2, v763), ⟨hv764⟩, ⟨trivial⟩, ?_⟩
    refine And.intro ⟨rfl⟩ ?_
    refine And.intro ⟨by first | rfl | (simp; done), by first | rfl | (simp [ei, eb, es, ec, c58]; done) | (simp only [ei, eb, es, ec, c58, List.map_append, List.nil_append, List.append_assoc]; rfl)⟩ ?_
    refine And.intro ⟨rfl, hc2, (ec_len c58_len).trans (congrArg (· * 4) (show _ = _ from rfl)), hR2⟩ ?_
    refine if_st H (fun h765 H => ?_) (fun h765 H => ?_)
    · replace H := some_st H
      dsimp only [stp, sm] at H
      have hfin := fin_st H
      repeat (refine And.intro (Ob.mk (by first | (rw [← hfin] <;> first | exact rfl | exact Iff.rfl | exact ⟨rfl, rfl⟩ | exact decide_eq_true_iff | (constructor <;> first | rfl | simp [ei, eb, es, ec, c58]) | simp [ei, eb, es, ec, c58]) | first | exact rfl | exact Iff.rfl | exact ⟨rfl, rfl⟩ | exact decide_eq_true_iff | (constructor <;> first | rfl | simp [ei, eb, es, ec, c58]) | simp [ei, eb, es, ec, c58])) ?_)
      first | exact trivial | exact rfl
    · refine if_st H (fun h766 H => ?_) (fun h766 H => ?_)
      · replace H := some_st H
        dsimp only [stp, sm] at H
        have hfin := fin_st H
        repeat (refine And.intro (Ob.mk (by first | (rw [← hfin] <;> first | exact rfl | exact Iff.rfl | exact ⟨rfl, rfl⟩ | exact decide_eq_true_iff | (constructor <;> first | rfl | simp [ei, eb, es, ec, c58]) | simp [ei, eb, es, ec, c58]) | first | exact rfl | exact Iff.rfl | exact ⟨rfl, rfl⟩ | exact decide_eq_true_iff | (constructor <;> first | rfl | simp [ei, eb, es, ec, c58]) | simp [ei, eb, es, ec, c58])) ?_)
        first | exact trivial | exact rfl
      · refine R.cut_fam H 46 [0, 1, 5, 7, 11, 36, 37, 38] [] (fun v804 => []) (fun v804 => [(28, .cells 3 [.v (.int .i64 (v804))])]) [(4, .arr 4 1 (s586.length) (eb (s586))), (0, .cells 47 [.v (.slice (A2) (a2.length) (cp2))])] 0 (fun H => ?_)
        refine And.intro ?_ ?_
        · refine R.loop_fam (bind_st H) [0, 2, 6, 7] [] (fun _ s806 => [(8, .v (.int .i64 (s806.2)))]) (fun _ s806 => [(28, .cells 3 [.v (.int .i64 (s806.1))])]) 0 (fun n842 H => ?_)
          refine ⟨(n842, _), ⟨H⟩, ⟨trivial⟩, ?_⟩
          repeat (refine And.intro (Ob.mk (by first | exact rfl | exact Iff.rfl | exact ⟨rfl, rfl⟩ | exact decide_eq_true_iff | (constructor <;> first | rfl | simp [ei, eb, es, ec, c58]) | simp [ei, eb, es, ec, c58])) ?_)
          rintro ⟨m0, s806⟩ H _
          obtain ⟨m807, hm0, H⟩ := IG_succ H
          dsimp only at hm0
          subst hm0
          try dsimp only at H
          refine if_st H (fun h831 H => ?_) (fun h831 H => ?_)
          · refine ob_ix hR2 (fun h => ec0 c58_len (by decide) h) H fun h832 H => ?_
            refine ld_int (e := (a2.getD s806.2.toNat default).1) (rd_get hR2 ((ec_get (i := s806.2.toNat) (o := 0) c58_len (tn h832) (by decide)).trans rfl)) ?_
            refine ld_int (e := (a2.getD s806.2.toNat default).2.1) (rd_get hR2 ((ec_get (i := s806.2.toNat) (o := 1) c58_len (tn h832) (by decide)).trans rfl)) ?_
            refine ld_int (e := (a2.getD s806.2.toNat default).2.2.1) (rd_get hR2 ((ec_get (i := s806.2.toNat) (o := 2) c58_len (tn h832) (by decide)).trans rfl)) ?_
            refine ld_int (e := (a2.getD s806.2.toNat default).2.2.2) (rd_get hR2 ((ec_get (i := s806.2.toNat) (o := 3) c58_len (tn h832) (by decide)).trans rfl)) ?_
            refine ob_ck H fun h833 H => ?_
            refine ld_bool (e := s586.getD s806.2.toNat false) (own_get (ys := eb s586) (by first | rfl | simp [ei, eb, es, ec, c58]) (eb_get (l := s586) (by first | exact tn h833 | (have := tn h833; simp at this ⊢; omega) | (have := tn h833; simp; omega)))) ?_
            refine if_st H (fun h834 H => ?_) (fun h834 H => ?_)
            · refine And.intro ⟨by kernel_rfl⟩ ?_
              refine if_st H (fun h835 H => ?_) (fun h835 H => ?_)
              · refine ob_ck H fun h836 H => ?_
                replace H := some_st H
                refine ⟨(m807, (s806.2, s806.2 + 1)), ⟨H, Nat.lt_succ_self _⟩, ⟨trivial⟩, ⟨rfl⟩, ?_⟩
                repeat (refine And.intro (Ob.mk (by first | exact rfl | exact Iff.rfl | exact ⟨rfl, rfl⟩ | exact decide_eq_true_iff | (constructor <;> first | rfl | simp [ei, eb, es, ec, c58]) | simp [ei, eb, es, ec, c58])) ?_)
                first | exact trivial | exact rfl
              · refine ob_ix hR2 (fun h => ec0 c58_len (by decide) h) H fun h837 H => ?_
                refine ld_int (e := (a2.getD s806.1.toNat default).2.2.2) (rd_get hR2 ((ec_get (i := s806.1.toNat) (o := 3) c58_len (tn h837) (by decide)).trans rfl)) ?_
                refine if_st H (fun h838 H => ?_) (fun h838 H => ?_)
                · refine ob_ck H fun h839 H => ?_
                  replace H := some_st H
                  refine ⟨(m807, (s806.2, s806.2 + 1)), ⟨H, Nat.lt_succ_self _⟩, ⟨trivial⟩, ⟨rfl⟩, ?_⟩
                  repeat (refine And.intro (Ob.mk (by first | exact rfl | exact Iff.rfl | exact ⟨rfl, rfl⟩ | exact decide_eq_true_iff | (constructor <;> first | rfl | simp [ei, eb, es, ec, c58]) | simp [ei, eb, es, ec, c58])) ?_)
                  first | exact trivial | exact rfl
                · refine ob_ck H fun h840 H => ?_
                  replace H := some_st H
                  refine ⟨(m807, (s806.1, s806.2 + 1)), ⟨H, Nat.lt_succ_self _⟩, ⟨trivial⟩, ⟨rfl⟩, ?_⟩
                  repeat (refine And.intro (Ob.mk (by first | exact rfl | exact Iff.rfl | exact ⟨rfl, rfl⟩ | exact decide_eq_true_iff | (constructor <;> first | rfl | simp [ei, eb, es, ec, c58]) | simp [ei, eb, es, ec, c58])) ?_)
                  first | exact trivial | exact rfl
            · refine ob_ck H fun h841 H => ?_
              replace H := some_st H
              refine ⟨(m807, (s806.1, s806.2 + 1)), ⟨H, Nat.lt_succ_self _⟩, ⟨trivial⟩, ⟨rfl⟩, ?_⟩
              repeat (refine And.intro (Ob.mk (by first | exact rfl | exact Iff.rfl | exact ⟨rfl, rfl⟩ | exact decide_eq_true_iff | (constructor <;> first | rfl | simp [ei, eb, es, ec, c58]) | simp [ei, eb, es, ec, c58])) ?_)
              first | exact trivial | exact rfl
          · replace H := some_st H
            dsimp only [stp, sm] at H
            refine ⟨s806.1, ⟨H⟩, ⟨rfl⟩, ?_⟩
            repeat (refine And.intro (Ob.mk (by first | exact rfl | exact Iff.rfl | exact ⟨rfl, rfl⟩ | exact decide_eq_true_iff | (constructor <;> first | rfl | simp [ei, eb, es, ec, c58]) | simp [ei, eb, es, ec, c58])) ?_)
            first | exact trivial | exact rfl
        · intro v804 H
          refine ob_ck H fun h843 H => ?_
          refine And.intro ⟨by first | (have := tn h843; simp [ei, eb, es, ec, c58] at this ⊢; omega) | (have := tn h843; simp [ei, eb, es, ec, c58]; omega)⟩ ?_
          replace H := some_st H
          refine ⟨(m587, (s586.set v804.toNat false)), ⟨H, Nat.lt_succ_self _⟩, ⟨trivial⟩, ⟨rfl⟩, ?_⟩
          repeat (refine And.intro (Ob.mk (by first | exact rfl | exact Iff.rfl | exact ⟨rfl, rfl⟩ | exact decide_eq_true_iff | (constructor <;> first | rfl | simp [ei, eb, es, ec, c58]) | simp [ei, eb, es, ec, c58])) ?_)
          first | exact trivial | exact rfl
noncomputable def e79 (n : Nat) (a0 : Int) (a1 : Int) (a2 : List (Int × Int × Int × Int)) : Option (List Bool) :=
  ck (0 ≤ ((a2.length : Nat) : Int) ∧ ((a2.length : Nat) : Int) ≤ ((a2.length : Nat) : Int) ∧ ((a2.length : Nat) : Int) ≤ 9223372036854775807 ∧ ((a2.length : Nat) : Int) * ((1 : Nat) : Int) ≤ 140737488355328) <|
  jn (α := _) (β := List Bool) (fun k572 =>
      (itN n (σ := List Bool × Int) (ρ := List Bool) (fun s573 =>
          if s573.2 < ((((a2.length : Nat) : Int).toNat : Nat) : Int) then
            (
              ck (0 ≤ s573.2 ∧ s573.2 < ((s573.1.length : Nat) : Int)) <|
              ck (inR .i64 (s573.2 + 1)) <|
              some (.go ((s573.1.set s573.2.toNat true), s573.2 + 1))
            )
          else
            some (.out s573.1)
        ) ((List.replicate ((a2.length : Nat) : Int).toNat false), 0)).bind fun o581 =>
        k572 o581
  ) (fun v571 =>
    (itN n (σ := List Bool) (ρ := List Bool) (fun s586 =>
        (e92 n a1 s586 a2).bind fun v763 =>
        if v763.2 = 0 then
          some (.out s586)
        else
          (
            if v763.1 ≤ a0 then
              some (.out s586)
            else
              (
                jn (α := _) (β := Int) (fun k805 =>
                    (itN n (σ := Int × Int) (ρ := Int) (fun s806 =>
                        if s806.2 < ((a2.length : Nat) : Int) then
                          (
                            ck (0 ≤ s806.2 ∧ s806.2 < ((a2.length : Nat) : Int)) <|
                            ck (0 ≤ s806.2 ∧ s806.2 < ((s586.length : Nat) : Int)) <|
                            if (s586.getD s806.2.toNat false) = true then
                              (
                                if s806.1 < 0 then
                                  (
                                    ck (inR .i64 (s806.2 + 1)) <|
                                    some (.go (s806.2, s806.2 + 1))
                                  )
                                else
                                  (
                                    ck (0 ≤ s806.1 ∧ s806.1 < ((a2.length : Nat) : Int)) <|
                                    if ((a2.getD s806.2.toNat default).2.2.2) ≤ ((a2.getD s806.1.toNat default).2.2.2) then
                                      (
                                        ck (inR .i64 (s806.2 + 1)) <|
                                        some (.go (s806.2, s806.2 + 1))
                                      )
                                    else
                                      (
                                        ck (inR .i64 (s806.2 + 1)) <|
                                        some (.go (s806.1, s806.2 + 1))
                                      )
                                  )
                              )
                            else
                              (
                                ck (inR .i64 (s806.2 + 1)) <|
                                some (.go (s806.1, s806.2 + 1))
                              )
                          )
                        else
                          some (.out s806.1)
                      ) ((-1), 0)).bind fun o830 =>
                      k805 o830
                ) (fun v804 =>
                  ck (0 ≤ v804 ∧ v804 < ((s586.length : Nat) : Int)) <|
                  some (.go (s586.set v804.toNat false))
                )
              )
          )
      ) v571).bind fun o762 =>
      some o762
  )
theorem e79_le (n : Nat) (a0 : Int) (a1 : Int) (a2 : List (Int × Int × Int × Int)) : Le (e79 n a0 a1 a2) (g79 a0 a1 a2) := by
  unfold e79 g79
  repeat' first | exact e92_le _ _ _ _ | refine le_bind ?_ (fun _ => ?_) | refine le_ck ?_ | refine le_if ?_ ?_ | refine le_sm (fun _ => ?_) (fun _ => ?_) | refine le_jn (fun _ _ _ => ?_) (fun _ => ?_) | refine le_loop (fun _ => ?_) | with_reducible exact le_refl | apply_assumption

/-- placard/layout.share -/
noncomputable def g78 (a0 : Int) (a1 : Int) (a2 : List Bool) (a3 : List (Int × Int × Int × Int)) : Option (List Int × Int) :=
  (g92 a1 a2 a3).bind fun v845 =>
  ck (inR .i64 (a0 - v845.1)) <|
  ck (0 ≤ ((a3.length : Nat) : Int) ∧ ((a3.length : Nat) : Int) ≤ ((a3.length : Nat) : Int) ∧ ((a3.length : Nat) : Int) ≤ 9223372036854775807 ∧ ((a3.length : Nat) : Int) * ((8 : Nat) : Int) ≤ 140737488355328) <|
  jn (α := _) (β := List Int) (fun k880 =>
      (loopO (σ := List Int × Int) (ρ := List Int) (fun s881 =>
          if s881.2 < ((a3.length : Nat) : Int) then
            (
              ck (0 ≤ s881.2 ∧ s881.2 < ((a3.length : Nat) : Int)) <|
              ck (0 ≤ s881.2 ∧ s881.2 < ((a2.length : Nat) : Int)) <|
              if (a2.getD s881.2.toNat false) = true then
                (
                  ck (0 ≤ s881.2 ∧ s881.2 < ((s881.1.length : Nat) : Int)) <|
                  ck (inR .i64 (s881.2 + 1)) <|
                  some (.go ((s881.1.set s881.2.toNat ((a3.getD s881.2.toNat default).1)), s881.2 + 1))
                )
              else
                (
                  ck (inR .i64 (s881.2 + 1)) <|
                  some (.go (s881.1, s881.2 + 1))
                )
            )
          else
            some (.out s881.1)
        ) ((List.replicate ((a3.length : Nat) : Int).toNat 0), 0)).bind fun o897 =>
        k880 o897
  ) (fun v879 =>
    jn (α := _) (β := List Int × Int) (fun k1923 =>
        (loopO (σ := List Int × Int) (ρ := List Int × Int) (fun s1924 =>
            if 0 < s1924.2 then
              (
                jn (α := _) (β := List Int) (fun k2757 =>
                    jn (α := _) (β := Int) (fun k2838 =>
                        (loopO (σ := Int × Int) (ρ := Int) (fun s2839 =>
                            if s2839.2 < ((a3.length : Nat) : Int) then
                              (
                                ck (0 ≤ s2839.2 ∧ s2839.2 < ((a3.length : Nat) : Int)) <|
                                ck (0 ≤ s2839.2 ∧ s2839.2 < ((a2.length : Nat) : Int)) <|
                                if (a2.getD s2839.2.toNat false) = true then
                                  (
                                    if ((a3.getD s2839.2.toNat default).2.2.1) = 0 then
                                      (
                                        ck (inR .i64 (s2839.2 + 1)) <|
                                        some (.go (s2839.1, s2839.2 + 1))
                                      )
                                    else
                                      (
                                        ck (0 ≤ s2839.2 ∧ s2839.2 < ((s1924.1.length : Nat) : Int)) <|
                                        if ((a3.getD s2839.2.toNat default).2.1) ≤ (s1924.1.getD s2839.2.toNat 0) then
                                          (
                                            ck (inR .i64 (s2839.2 + 1)) <|
                                            some (.go (s2839.1, s2839.2 + 1))
                                          )
                                        else
                                          (
                                            if s2839.1 < 0 then
                                              (
                                                ck (inR .i64 (s2839.2 + 1)) <|
                                                some (.go (s2839.2, s2839.2 + 1))
                                              )
                                            else
                                              (
                                                ck (0 ≤ s2839.2 ∧ s2839.2 < ((s1924.1.length : Nat) : Int)) <|
                                                ck (inR .i64 ((s1924.1.getD s2839.2.toNat 0) - ((a3.getD s2839.2.toNat default).1))) <|
                                                ck (inR .i64 (((s1924.1.getD s2839.2.toNat 0) - ((a3.getD s2839.2.toNat default).1)) + 1)) <|
                                                ck (0 ≤ s2839.1 ∧ s2839.1 < ((a3.length : Nat) : Int)) <|
                                                ck (inR .i64 ((((s1924.1.getD s2839.2.toNat 0) - ((a3.getD s2839.2.toNat default).1)) + 1) * ((a3.getD s2839.1.toNat default).2.2.1))) <|
                                                ck (0 ≤ s2839.1 ∧ s2839.1 < ((s1924.1.length : Nat) : Int)) <|
                                                ck (0 ≤ s2839.1 ∧ s2839.1 < ((a3.length : Nat) : Int)) <|
                                                ck (inR .i64 ((s1924.1.getD s2839.1.toNat 0) - ((a3.getD s2839.1.toNat default).1))) <|
                                                ck (inR .i64 (((s1924.1.getD s2839.1.toNat 0) - ((a3.getD s2839.1.toNat default).1)) + 1)) <|
                                                ck (inR .i64 ((((s1924.1.getD s2839.1.toNat 0) - ((a3.getD s2839.1.toNat default).1)) + 1) * ((a3.getD s2839.2.toNat default).2.2.1))) <|
                                                if ((((s1924.1.getD s2839.2.toNat 0) - ((a3.getD s2839.2.toNat default).1)) + 1) * ((a3.getD s2839.1.toNat default).2.2.1)) < ((((s1924.1.getD s2839.1.toNat 0) - ((a3.getD s2839.1.toNat default).1)) + 1) * ((a3.getD s2839.2.toNat default).2.2.1)) then
                                                  (
                                                    ck (inR .i64 (s2839.2 + 1)) <|
                                                    some (.go (s2839.2, s2839.2 + 1))
                                                  )
                                                else
                                                  (
                                                    ck (inR .i64 (s2839.2 + 1)) <|
                                                    some (.go (s2839.1, s2839.2 + 1))
                                                  )
                                              )
                                          )
                                      )
                                  )
                                else
                                  (
                                    ck (inR .i64 (s2839.2 + 1)) <|
                                    some (.go (s2839.1, s2839.2 + 1))
                                  )
                              )
                            else
                              some (.out s2839.1)
                          ) ((-1), 0)).bind fun o2891 =>
                          k2838 o2891
                    ) (fun v2837 =>
                      if v2837 < 0 then
                        some (.out (s1924.1, s1924.2))
                      else
                        (
                          ck (0 ≤ v2837 ∧ v2837 < ((s1924.1.length : Nat) : Int)) <|
                          ck (inR .i64 ((s1924.1.getD v2837.toNat 0) + 1)) <|
                          ck (0 ≤ v2837 ∧ v2837 < ((s1924.1.length : Nat) : Int)) <|
                          k2757 (s1924.1.set v2837.toNat ((s1924.1.getD v2837.toNat 0) + 1))
                        )
                    )
                ) (fun v2756 =>
                  ck (inR .i64 (s1924.2 - 1)) <|
                  some (.go (v2756, s1924.2 - 1))
                )
              )
            else
              some (.out (s1924.1, s1924.2))
          ) (v879, a0 - v845.1)).bind fun o2590 =>
          k1923 (o2590.1, o2590.2)
    ) (fun v1922 =>
      some (v1922.1, v1922.2)
    )
  )
noncomputable def k78 : Eng.CS := { f := 78, calm := false, more := 1, ι := Int × Int × (List Bool) × (List (Int × Int × Int × Int)) × (List Int × Int), ok := fun i => g78 i.1 i.2.1 i.2.2.1 i.2.2.2.1 = some i.2.2.2.2, rds := fun _ => [], args := fun i => [.w (.v (.int .i64 (i.1))), .w (.v (.int .i64 (i.2.1))), .sl 1 i.2.2.1.length (eb i.2.2.1), .sl 4 i.2.2.2.1.length (ec c58 i.2.2.2.1)], res := fun i => .tup [.own 0, .v (.int .i64 (i.2.2.2.2.2))], L' := fun i => [(0, .arr 3 1 i.2.2.2.2.1.length (ei .i64 i.2.2.2.2.1))], rn := [(0, 0, 3, 1)] }
set_option maxRecDepth 8000 in
set_option maxHeartbeats 4000000 in
theorem k78_ok : CSOk Try.prog k78 := by
  refine R.cspec Try.func78 nm78 rfl ?_
  rintro ⟨a0, a1, a2, a3, r⟩ hok q _ args hargs
  match args, hargs with
  | [_, _, _, _], hargs =>
  obtain ⟨rfl, rfl, ⟨A2, cp2, rfl, hc2, _, hR2⟩, ⟨A3, cp3, rfl, hc3, _, hR3⟩, _⟩ := hargs
  refine ⟨envC [k92] false [(78, 8), (78, 9), (78, 17), (78, 19)], 6, envC_ok (css_cons ⟨fun _ => k92_ok, fun h => (by cases h)⟩ (css_nil)), ?_⟩
  have H : Gives (g78 a0 a1 a2 a3) (fun a => a = r) := ⟨r, hok, rfl⟩
  unfold g78 at H
  clear hok
  obtain ⟨v845, hv846, H⟩ := call_st H
  refine ⟨(a1, a2, a3, v845), ⟨hv846⟩, ⟨trivial⟩, ?_⟩
  refine And.intro ⟨rfl⟩ ?_
  refine And.intro ⟨rfl, hc2, eb_len.trans ((show _ = _ from rfl).trans (Nat.mul_one _).symm), hR2⟩ ?_
  refine And.intro ⟨rfl, hc3, (ec_len c58_len).trans (congrArg (· * 4) (show _ = _ from rfl)), hR3⟩ ?_
  refine ob_ck H fun h847 H => ?_
  refine ob_ck H fun h848 H => ?_
  refine R.cut_fam H 37 [2, 7, 12, 13] [] (fun v879 => []) (fun v879 => [(18, .arr 3 1 (v879.length) (ei .i64 (v879)))]) [(0, .cells 47 [.v (.slice (A3) (a3.length) (cp3))]), (19, .cells 32 [.own 18])] 0 (fun H => ?_)
  refine And.intro ?_ ?_
  · refine R.loop_fam (bind_st H) [0, 2, 6, 7] [] (fun _ s881 => [(8, .v (.int .i64 (s881.2)))]) (fun _ s881 => [(18, .arr 3 1 (s881.1.length) (ei .i64 (s881.1)))]) 0 (fun n905 H => ?_)
    refine ⟨(n905, _), ⟨H⟩, ⟨trivial⟩, ?_⟩
    repeat (refine And.intro (Ob.mk (by first | exact rfl | exact Iff.rfl | exact ⟨rfl, rfl⟩ | exact decide_eq_true_iff | (constructor <;> first | rfl | simp [ei, eb, es, ec, c58]) | simp [ei, eb, es, ec, c58])) ?_)
    rintro ⟨m0, s881⟩ H _
    obtain ⟨m882, hm0, H⟩ := IG_succ H
    dsimp only at hm0
    subst hm0
    try dsimp only at H
    refine if_st H (fun h898 H => ?_) (fun h898 H => ?_)
    · refine ob_ix hR3 (fun h => ec0 c58_len (by decide) h) H fun h899 H => ?_
      refine ld_int (e := (a3.getD s881.2.toNat default).1) (rd_get hR3 ((ec_get (i := s881.2.toNat) (o := 0) c58_len (tn h899) (by decide)).trans rfl)) ?_
      refine ld_int (e := (a3.getD s881.2.toNat default).2.1) (rd_get hR3 ((ec_get (i := s881.2.toNat) (o := 1) c58_len (tn h899) (by decide)).trans rfl)) ?_
      refine ld_int (e := (a3.getD s881.2.toNat default).2.2.1) (rd_get hR3 ((ec_get (i := s881.2.toNat) (o := 2) c58_len (tn h899) (by decide)).trans rfl)) ?_
      refine ld_int (e := (a3.getD s881.2.toNat default).2.2.2) (rd_get hR3 ((ec_get (i := s881.2.toNat) (o := 3) c58_len (tn h899) (by decide)).trans rfl)) ?_
      refine ob_ix hR2 (fun h => eb0 h) H fun h900 H => ?_
      refine ld_bool (e := a2.getD s881.2.toNat false) (rd_get hR2 (eb_get (l := a2) (tn h900))) ?_
      refine if_st H (fun h901 H => ?_) (fun h901 H => ?_)
      · refine ob_ck H fun h902 H => ?_
        refine And.intro ⟨by first | (have := tn h902; simp [ei, eb, es, ec, c58] at this ⊢; omega) | (have := tn h902; simp [ei, eb, es, ec, c58]; omega)⟩ ?_
        refine ob_ck H fun h903 H => ?_
        replace H := some_st H
        refine ⟨(m882, ((s881.1.set s881.2.toNat ((a3.getD s881.2.toNat default).1)), s881.2 + 1)), ⟨H, Nat.lt_succ_self _⟩, ⟨trivial⟩, ⟨rfl⟩, ?_⟩
        repeat (refine And.intro (Ob.mk (by first | exact rfl | exact Iff.rfl | exact ⟨rfl, rfl⟩ | exact decide_eq_true_iff | (constructor <;> first | rfl | simp [ei, eb, es, ec, c58]) | simp [ei, eb, es, ec, c58])) ?_)
        first | exact trivial | exact rfl
      · refine ob_ck H fun h904 H => ?_
        replace H := some_st H
        refine ⟨(m882, (s881.1, s881.2 + 1)), ⟨H, Nat.lt_succ_self _⟩, ⟨trivial⟩, ⟨rfl⟩, ?_⟩
        repeat (refine And.intro (Ob.mk (by first | exact rfl | exact Iff.rfl | exact ⟨rfl, rfl⟩ | exact decide_eq_true_iff | (constructor <;> first | rfl | simp [ei, eb, es, ec, c58]) | simp [ei, eb, es, ec, c58])) ?_)
        first | exact trivial | exact rfl
    · replace H := some_st H
      dsimp only [stp, sm] at H
      refine ⟨s881.1, ⟨H⟩, ⟨rfl⟩, ?_⟩
      repeat (refine And.intro (Ob.mk (by first | exact rfl | exact Iff.rfl | exact ⟨rfl, rfl⟩ | exact decide_eq_true_iff | (constructor <;> first | rfl | simp [ei, eb, es, ec, c58]) | simp [ei, eb, es, ec, c58])) ?_)
      first | exact trivial | exact rfl
  · intro v879 H
    refine R.cut_fam H 61 [13] [] (fun v1922 => [(12, .v (.int .i64 (v1922.2)))]) (fun v1922 => [(18, .arr 3 1 (v1922.1.length) (ei .i64 (v1922.1)))]) [(0, .cells 47 [.v (.slice (A3) (a3.length) (cp3))]), (19, .cells 32 [.own 18])] 0 (fun H => ?_)
    refine And.intro ?_ ?_
    · refine R.loop_fam (bind_st H) [2, 7, 13] [] (fun _ s1924 => [(12, .v (.int .i64 (s1924.2)))]) (fun _ s1924 => [(18, .arr 3 1 (s1924.1.length) (ei .i64 (s1924.1)))]) 0 (fun n2923 H => ?_)
      refine ⟨(n2923, _), ⟨H⟩, ⟨trivial⟩, ?_⟩
      repeat (refine And.intro (Ob.mk (by first | exact rfl | exact Iff.rfl | exact ⟨rfl, rfl⟩ | exact decide_eq_true_iff | (constructor <;> first | rfl | simp [ei, eb, es, ec, c58]) | simp [ei, eb, es, ec, c58])) ?_)
      rintro ⟨m0, s1924⟩ H _
      obtain ⟨m1925, hm0, H⟩ := IG_succ H
      dsimp only at hm0
      subst hm0
      try dsimp only at H
      refine if_st H (fun h2591 H => ?_) (fun h2591 H => ?_)
      · refine R.cut_fam H 67 [2, 7, 12, 13] [] (fun v2756 => []) (fun v2756 => [(18, .arr 3 1 (v2756.length) (ei .i64 (v2756)))]) [(0, .cells 47 [.v (.slice (A3) (a3.length) (cp3))]), (19, .cells 32 [.own 18])] 0 (fun H => ?_)
        refine And.intro ?_ ?_
        · refine R.cut_fam H 57 [2, 7, 12, 13, 16] [] (fun v2837 => []) (fun v2837 => [(39, .cells 3 [.v (.int .i64 (v2837))])]) [(18, .arr 3 1 (s1924.1.length) (ei .i64 (s1924.1))), (0, .cells 47 [.v (.slice (A3) (a3.length) (cp3))]), (19, .cells 32 [.own 18])] 0 (fun H => ?_)
          refine And.intro ?_ ?_
          · refine R.loop_fam (bind_st H) [0, 2, 6, 7] [] (fun _ s2839 => [(8, .v (.int .i64 (s2839.2)))]) (fun _ s2839 => [(39, .cells 3 [.v (.int .i64 (s2839.1))])]) 0 (fun n2917 H => ?_)
            refine ⟨(n2917, _), ⟨H⟩, ⟨trivial⟩, ?_⟩
            repeat (refine And.intro (Ob.mk (by first | exact rfl | exact Iff.rfl | exact ⟨rfl, rfl⟩ | exact decide_eq_true_iff | (constructor <;> first | rfl | simp [ei, eb, es, ec, c58]) | simp [ei, eb, es, ec, c58])) ?_)
            rintro ⟨m0, s2839⟩ H _
            obtain ⟨m2840, hm0, H⟩ := IG_succ H
            dsimp only at hm0
            subst hm0
            try dsimp only at H
            refine if_st H (fun h2892 H => ?_) (fun h2892 H => ?_)
            · refine ob_ix hR3 (fun h => ec0 c58_len (by decide) h) H fun h2893 H => ?_
              refine ld_int (e := (a3.getD s2839.2.toNat default).1) (rd_get hR3 ((ec_get (i := s2839.2.toNat) (o := 0) c58_len (tn h2893) (by decide)).trans rfl)) ?_
              refine ld_int (e := (a3.getD s2839.2.toNat default).2.1) (rd_get hR3 ((ec_get (i := s2839.2.toNat) (o := 1) c58_len (tn h2893) (by decide)).trans rfl)) ?_
              refine ld_int (e := (a3.getD s2839.2.toNat default).2.2.1) (rd_get hR3 ((ec_get (i := s2839.2.toNat) (o := 2) c58_len (tn h2893) (by decide)).trans rfl)) ?_
              refine ld_int (e := (a3.getD s2839.2.toNat default).2.2.2) (rd_get hR3 ((ec_get (i := s2839.2.toNat) (o := 3) c58_len (tn h2893) (by decide)).trans rfl)) ?_
              refine ob_ix hR2 (fun h => eb0 h) H fun h2894 H => ?_
              refine ld_bool (e := a2.getD s2839.2.toNat false) (rd_get hR2 (eb_get (l := a2) (tn h2894))) ?_
              refine if_st H (fun h2895 H => ?_) (fun h2895 H => ?_)
              · refine And.intro ⟨by kernel_rfl⟩ ?_
                refine if_st H (fun h2896 H => ?_) (fun h2896 H => ?_)
                · refine ob_ck H fun h2897 H => ?_
                  replace H := some_st H
                  refine ⟨(m2840, (s2839.1, s2839.2 + 1)), ⟨H, Nat.lt_succ_self _⟩, ⟨trivial⟩, ⟨rfl⟩, ?_⟩
                  repeat (refine And.intro (Ob.mk (by first | exact rfl | exact Iff.rfl | exact ⟨rfl, rfl⟩ | exact decide_eq_true_iff | (constructor <;> first | rfl | simp [ei, eb, es, ec, c58]) | simp [ei, eb, es, ec, c58])) ?_)
                  first | exact trivial | exact rfl
                · refine ob_ck H fun h2898 H => ?_
                  refine ld_int (e := s1924.1.getD s2839.2.toNat 0) (own_get (ys := ei .i64 s1924.1) (by first | rfl | simp [ei, eb, es, ec, c58]) (ei_get (l := s1924.1) (by first | exact tn h2898 | (have := tn h2898; simp at this ⊢; omega) | (have := tn h2898; simp; omega)))) ?_
                  refine if_st H (fun h2899 H => ?_) (fun h2899 H => ?_)
                  · refine ob_ck H fun h2900 H => ?_
                    replace H := some_st H
                    refine ⟨(m2840, (s2839.1, s2839.2 + 1)), ⟨H, Nat.lt_succ_self _⟩, ⟨trivial⟩, ⟨rfl⟩, ?_⟩
                    repeat (refine And.intro (Ob.mk (by first | exact rfl | exact Iff.rfl | exact ⟨rfl, rfl⟩ | exact decide_eq_true_iff | (constructor <;> first | rfl | simp [ei, eb, es, ec, c58]) | simp [ei, eb, es, ec, c58])) ?_)
                    first | exact trivial | exact rfl
                  · refine And.intro ⟨by kernel_rfl⟩ ?_
                    refine if_st H (fun h2901 H => ?_) (fun h2901 H => ?_)
                    · refine ob_ck H fun h2902 H => ?_
                      replace H := some_st H
                      refine ⟨(m2840, (s2839.2, s2839.2 + 1)), ⟨H, Nat.lt_succ_self _⟩, ⟨trivial⟩, ⟨rfl⟩, ?_⟩
                      repeat (refine And.intro (Ob.mk (by first | exact rfl | exact Iff.rfl | exact ⟨rfl, rfl⟩ | exact decide_eq_true_iff | (constructor <;> first | rfl | simp [ei, eb, es, ec, c58]) | simp [ei, eb, es, ec, c58])) ?_)
                      first | exact trivial | exact rfl
                    · refine ob_ck H fun h2903 H => ?_
                      refine ld_int (e := s1924.1.getD s2839.2.toNat 0) (own_get (ys := ei .i64 s1924.1) (by first | rfl | simp [ei, eb, es, ec, c58]) (ei_get (l := s1924.1) (by first | exact tn h2903 | (have := tn h2903; simp at this ⊢; omega) | (have := tn h2903; simp; omega)))) ?_
                      refine ob_ck H fun h2904 H => ?_
                      refine ob_ck H fun h2905 H => ?_
                      refine ob_ix hR3 (fun h => ec0 c58_len (by decide) h) H fun h2906 H => ?_
                      refine ld_int (e := (a3.getD s2839.1.toNat default).2.2.1) (rd_get hR3 ((ec_get (i := s2839.1.toNat) (o := 2) c58_len (tn h2906) (by decide)).trans rfl)) ?_
                      refine ob_ck H fun h2907 H => ?_
                      refine ob_ck H fun h2908 H => ?_
                      refine ld_int (e := s1924.1.getD s2839.1.toNat 0) (own_get (ys := ei .i64 s1924.1) (by first | rfl | simp [ei, eb, es, ec, c58]) (ei_get (l := s1924.1) (by first | exact tn h2908 | (have := tn h2908; simp at this ⊢; omega) | (have := tn h2908; simp; omega)))) ?_
                      refine ob_ix hR3 (fun h => ec0 c58_len (by decide) h) H fun h2909 H => ?_
                      refine ld_int (e := (a3.getD s2839.1.toNat default).1) (rd_get hR3 ((ec_get (i := s2839.1.toNat) (o := 0) c58_len (tn h2909) (by decide)).trans rfl)) ?_
                      refine ob_ck H fun h2910 H => ?_
                      refine ob_ck H fun h2911 H => ?_
                      refine ob_ck H fun h2912 H => ?_
                      refine if_st H (fun h2913 H => ?_) (fun h2913 H => ?_)
                      · refine ob_ck H fun h2914 H => ?_
                        replace H := some_st H
                        refine ⟨(m2840, (s2839.2, s2839.2 + 1)), ⟨H, Nat.lt_succ_self _⟩, ⟨trivial⟩, ⟨rfl⟩, ?_⟩
                        repeat (refine And.intro (Ob.mk (by first | exact rfl | exact Iff.rfl | exact ⟨rfl, rfl⟩ | exact decide_eq_true_iff | (constructor <;> first | rfl | simp [ei, eb, es, ec, c58]) | simp [ei, eb, es, ec, c58])) ?_)
                        first | exact trivial | exact rfl
                      · refine ob_ck H fun h2915 H => ?_
                        replace H := some_st H
                        refine ⟨(m2840, (s2839.1, s2839.2 + 1)), ⟨H, Nat.lt_succ_self _⟩, ⟨trivial⟩, ⟨rfl⟩, ?_⟩
                        repeat (refine And.intro (Ob.mk (by first | exact rfl | exact Iff.rfl | exact ⟨rfl, rfl⟩ | exact decide_eq_true_iff | (constructor <;> first | rfl | simp [ei, eb, es, ec, c58]) | simp [ei, eb, es, ec, c58])) ?_)
                        first | exact trivial | exact rfl
              · refine ob_ck H fun h2916 H => ?_
                replace H := some_st H
                refine ⟨(m2840, (s2839.1, s2839.2 + 1)), ⟨H, Nat.lt_succ_self _⟩, ⟨trivial⟩, ⟨rfl⟩, ?_⟩
                repeat (refine And.intro (Ob.mk (by first | exact rfl | exact Iff.rfl | exact ⟨rfl, rfl⟩ | exact decide_eq_true_iff | (constructor <;> first | rfl | simp [ei, eb, es, ec, c58]) | simp [ei, eb, es, ec, c58])) ?_)
                first | exact trivial | exact rfl
            · replace H := some_st H
              dsimp only [stp, sm] at H
              refine ⟨s2839.1, ⟨H⟩, ⟨rfl⟩, ?_⟩
              repeat (refine And.intro (Ob.mk (by first | exact rfl | exact Iff.rfl | exact ⟨rfl, rfl⟩ | exact decide_eq_true_iff | (constructor <;> first | rfl | simp [ei, eb, es, ec, c58]) | simp [ei, eb, es, ec, c58])) ?_)
              first | exact trivial | exact rfl
          · intro v2837 H
            refine if_st H (fun h2918 H => ?_) (fun h2918 H => ?_)
            · replace H := some_st H
              dsimp only [stp, sm] at H
              refine ⟨(s1924.1, s1924.2), ⟨H⟩, ⟨rfl⟩, ?_⟩
              repeat (refine And.intro (Ob.mk (by first | exact rfl | exact Iff.rfl | exact ⟨rfl, rfl⟩ | exact decide_eq_true_iff | (constructor <;> first | rfl | simp [ei, eb, es, ec, c58]) | simp [ei, eb, es, ec, c58])) ?_)
              first | exact trivial | exact rfl
            · refine ob_ck H fun h2919 H => ?_
              refine ld_int (e := s1924.1.getD v2837.toNat 0) (own_get (ys := ei .i64 s1924.1) (by first | rfl | simp [ei, eb, es, ec, c58]) (ei_get (l := s1924.1) (by first | exact tn h2919 | (have := tn h2919; simp at this ⊢; omega) | (have := tn h2919; simp; omega)))) ?_
              refine ob_ck H fun h2920 H => ?_
              refine ob_ck H fun h2921 H => ?_
              refine And.intro ⟨by first | (have := tn h2921; simp [ei, eb, es, ec, c58] at this ⊢; omega) | (have := tn h2921; simp [ei, eb, es, ec, c58]; omega)⟩ ?_
              refine ⟨(s1924.1.set v2837.toNat ((s1924.1.getD v2837.toNat 0) + 1)), ⟨H⟩, ⟨rfl⟩, ?_⟩
              repeat (refine And.intro (Ob.mk (by first | exact rfl | exact Iff.rfl | exact ⟨rfl, rfl⟩ | exact decide_eq_true_iff | (constructor <;> first | rfl | simp [ei, eb, es, ec, c58]) | simp [ei, eb, es, ec, c58])) ?_)
              first | exact trivial | exact rfl
        · intro v2756 H
          refine ob_ck H fun h2922 H => ?_
          replace H := some_st H
          refine ⟨(m1925, (v2756, s1924.2 - 1)), ⟨H, Nat.lt_succ_self _⟩, ⟨trivial⟩, ⟨rfl⟩, ?_⟩
          repeat (refine And.intro (Ob.mk (by first | exact rfl | exact Iff.rfl | exact ⟨rfl, rfl⟩ | exact decide_eq_true_iff | (constructor <;> first | rfl | simp [ei, eb, es, ec, c58]) | simp [ei, eb, es, ec, c58])) ?_)
          first | exact trivial | exact rfl
      · replace H := some_st H
        dsimp only [stp, sm] at H
        refine ⟨(s1924.1, s1924.2), ⟨H⟩, ⟨rfl⟩, ?_⟩
        repeat (refine And.intro (Ob.mk (by first | exact rfl | exact Iff.rfl | exact ⟨rfl, rfl⟩ | exact decide_eq_true_iff | (constructor <;> first | rfl | simp [ei, eb, es, ec, c58]) | simp [ei, eb, es, ec, c58])) ?_)
        first | exact trivial | exact rfl
    · intro v1922 H
      have hfin := fin_st H
      repeat (refine And.intro (Ob.mk (by first | (rw [← hfin] <;> first | exact rfl | exact Iff.rfl | exact ⟨rfl, rfl⟩ | exact decide_eq_true_iff | (constructor <;> first | rfl | simp [ei, eb, es, ec, c58]) | simp [ei, eb, es, ec, c58]) | first | exact rfl | exact Iff.rfl | exact ⟨rfl, rfl⟩ | exact decide_eq_true_iff | (constructor <;> first | rfl | simp [ei, eb, es, ec, c58]) | simp [ei, eb, es, ec, c58])) ?_)
      first | exact trivial | exact rfl
noncomputable def e78 (n : Nat) (a0 : Int) (a1 : Int) (a2 : List Bool) (a3 : List (Int × Int × Int × Int)) : Option (List Int × Int) :=
  (e92 n a1 a2 a3).bind fun v845 =>
  ck (inR .i64 (a0 - v845.1)) <|
  ck (0 ≤ ((a3.length : Nat) : Int) ∧ ((a3.length : Nat) : Int) ≤ ((a3.length : Nat) : Int) ∧ ((a3.length : Nat) : Int) ≤ 9223372036854775807 ∧ ((a3.length : Nat) : Int) * ((8 : Nat) : Int) ≤ 140737488355328) <|
  jn (α := _) (β := List Int) (fun k880 =>
      (itN n (σ := List Int × Int) (ρ := List Int) (fun s881 =>
          if s881.2 < ((a3.length : Nat) : Int) then
            (
              ck (0 ≤ s881.2 ∧ s881.2 < ((a3.length : Nat) : Int)) <|
              ck (0 ≤ s881.2 ∧ s881.2 < ((a2.length : Nat) : Int)) <|
              if (a2.getD s881.2.toNat false) = true then
                (
                  ck (0 ≤ s881.2 ∧ s881.2 < ((s881.1.length : Nat) : Int)) <|
                  ck (inR .i64 (s881.2 + 1)) <|
                  some (.go ((s881.1.set s881.2.toNat ((a3.getD s881.2.toNat default).1)), s881.2 + 1))
                )
              else
                (
                  ck (inR .i64 (s881.2 + 1)) <|
                  some (.go (s881.1, s881.2 + 1))
                )
            )
          else
            some (.out s881.1)
        ) ((List.replicate ((a3.length : Nat) : Int).toNat 0), 0)).bind fun o897 =>
        k880 o897
  ) (fun v879 =>
    jn (α := _) (β := List Int × Int) (fun k1923 =>
        (itN n (σ := List Int × Int) (ρ := List Int × Int) (fun s1924 =>
            if 0 < s1924.2 then
              (
                jn (α := _) (β := List Int) (fun k2757 =>
                    jn (α := _) (β := Int) (fun k2838 =>
                        (itN n (σ := Int × Int) (ρ := Int) (fun s2839 =>
                            if s2839.2 < ((a3.length : Nat) : Int) then
                              (
                                ck (0 ≤ s2839.2 ∧ s2839.2 < ((a3.length : Nat) : Int)) <|
                                ck (0 ≤ s2839.2 ∧ s2839.2 < ((a2.length : Nat) : Int)) <|
                                if (a2.getD s2839.2.toNat false) = true then
                                  (
                                    if ((a3.getD s2839.2.toNat default).2.2.1) = 0 then
                                      (
                                        ck (inR .i64 (s2839.2 + 1)) <|
                                        some (.go (s2839.1, s2839.2 + 1))
                                      )
                                    else
                                      (
                                        ck (0 ≤ s2839.2 ∧ s2839.2 < ((s1924.1.length : Nat) : Int)) <|
                                        if ((a3.getD s2839.2.toNat default).2.1) ≤ (s1924.1.getD s2839.2.toNat 0) then
                                          (
                                            ck (inR .i64 (s2839.2 + 1)) <|
                                            some (.go (s2839.1, s2839.2 + 1))
                                          )
                                        else
                                          (
                                            if s2839.1 < 0 then
                                              (
                                                ck (inR .i64 (s2839.2 + 1)) <|
                                                some (.go (s2839.2, s2839.2 + 1))
                                              )
                                            else
                                              (
                                                ck (0 ≤ s2839.2 ∧ s2839.2 < ((s1924.1.length : Nat) : Int)) <|
                                                ck (inR .i64 ((s1924.1.getD s2839.2.toNat 0) - ((a3.getD s2839.2.toNat default).1))) <|
                                                ck (inR .i64 (((s1924.1.getD s2839.2.toNat 0) - ((a3.getD s2839.2.toNat default).1)) + 1)) <|
                                                ck (0 ≤ s2839.1 ∧ s2839.1 < ((a3.length : Nat) : Int)) <|
                                                ck (inR .i64 ((((s1924.1.getD s2839.2.toNat 0) - ((a3.getD s2839.2.toNat default).1)) + 1) * ((a3.getD s2839.1.toNat default).2.2.1))) <|
                                                ck (0 ≤ s2839.1 ∧ s2839.1 < ((s1924.1.length : Nat) : Int)) <|
                                                ck (0 ≤ s2839.1 ∧ s2839.1 < ((a3.length : Nat) : Int)) <|
                                                ck (inR .i64 ((s1924.1.getD s2839.1.toNat 0) - ((a3.getD s2839.1.toNat default).1))) <|
                                                ck (inR .i64 (((s1924.1.getD s2839.1.toNat 0) - ((a3.getD s2839.1.toNat default).1)) + 1)) <|
                                                ck (inR .i64 ((((s1924.1.getD s2839.1.toNat 0) - ((a3.getD s2839.1.toNat default).1)) + 1) * ((a3.getD s2839.2.toNat default).2.2.1))) <|
                                                if ((((s1924.1.getD s2839.2.toNat 0) - ((a3.getD s2839.2.toNat default).1)) + 1) * ((a3.getD s2839.1.toNat default).2.2.1)) < ((((s1924.1.getD s2839.1.toNat 0) - ((a3.getD s2839.1.toNat default).1)) + 1) * ((a3.getD s2839.2.toNat default).2.2.1)) then
                                                  (
                                                    ck (inR .i64 (s2839.2 + 1)) <|
                                                    some (.go (s2839.2, s2839.2 + 1))
                                                  )
                                                else
                                                  (
                                                    ck (inR .i64 (s2839.2 + 1)) <|
                                                    some (.go (s2839.1, s2839.2 + 1))
                                                  )
                                              )
                                          )
                                      )
                                  )
                                else
                                  (
                                    ck (inR .i64 (s2839.2 + 1)) <|
                                    some (.go (s2839.1, s2839.2 + 1))
                                  )
                              )
                            else
                              some (.out s2839.1)
                          ) ((-1), 0)).bind fun o2891 =>
                          k2838 o2891
                    ) (fun v2837 =>
                      if v2837 < 0 then
                        some (.out (s1924.1, s1924.2))
                      else
                        (
                          ck (0 ≤ v2837 ∧ v2837 < ((s1924.1.length : Nat) : Int)) <|
                          ck (inR .i64 ((s1924.1.getD v2837.toNat 0) + 1)) <|
                          ck (0 ≤ v2837 ∧ v2837 < ((s1924.1.length : Nat) : Int)) <|
                          k2757 (s1924.1.set v2837.toNat ((s1924.1.getD v2837.toNat 0) + 1))
                        )
                    )
                ) (fun v2756 =>
                  ck (inR .i64 (s1924.2 - 1)) <|
                  some (.go (v2756, s1924.2 - 1))
                )
              )
            else
              some (.out (s1924.1, s1924.2))
          ) (v879, a0 - v845.1)).bind fun o2590 =>
          k1923 (o2590.1, o2590.2)
    ) (fun v1922 =>
      some (v1922.1, v1922.2)
    )
  )
theorem e78_le (n : Nat) (a0 : Int) (a1 : Int) (a2 : List Bool) (a3 : List (Int × Int × Int × Int)) : Le (e78 n a0 a1 a2 a3) (g78 a0 a1 a2 a3) := by
  unfold e78 g78
  repeat' first | exact e92_le _ _ _ _ | refine le_bind ?_ (fun _ => ?_) | refine le_ck ?_ | refine le_if ?_ ?_ | refine le_sm (fun _ => ?_) (fun _ => ?_) | refine le_jn (fun _ _ _ => ?_) (fun _ => ?_) | refine le_loop (fun _ => ?_) | with_reducible exact le_refl | apply_assumption

/-- placard/layout.Least -/
noncomputable def g50 (a0 : Int) (a1 : List (Int × Int × Int × Int)) : Option (Int × Int) :=
  (g35 0 a0 a1).bind fun v2927 =>
  if ¬ v2927 = 0 then
    some (0, v2927)
  else
    (
      ck (inR .i64 (((a1.length : Nat) : Int) - 1)) <|
      ck (inR .i64 (a0 * (((a1.length : Nat) : Int) - 1))) <|
      jn (α := _) (β := Int) (fun k2952 =>
          (loopO (σ := Int × Int) (ρ := Int) (fun s2953 =>
              if s2953.2 < ((a1.length : Nat) : Int) then
                (
                  ck (0 ≤ s2953.2 ∧ s2953.2 < ((a1.length : Nat) : Int)) <|
                  ck (inR .i64 (s2953.1 + ((a1.getD s2953.2.toNat default).1))) <|
                  ck (inR .i64 (s2953.2 + 1)) <|
                  some (.go (s2953.1 + ((a1.getD s2953.2.toNat default).1), s2953.2 + 1))
                )
              else
                some (.out s2953.1)
            ) (a0 * (((a1.length : Nat) : Int) - 1), 0)).bind fun o2963 =>
            k2952 o2963
      ) (fun v2951 =>
        some (v2951, 0)
      )
    )
noncomputable def k50 : Eng.CS := { f := 50, calm := true, more := 0, ι := Int × (List (Int × Int × Int × Int)) × (Int × Int), ok := fun i => g50 i.1 i.2.1 = some i.2.2, rds := fun _ => [], args := fun i => [.w (.v (.int .i64 (i.1))), .sl 4 i.2.1.length (ec c58 i.2.1)], res := fun i => .tup [.v (.int .i64 (i.2.2.1)), .v (.int .i64 (i.2.2.2))] }
set_option maxRecDepth 8000 in
set_option maxHeartbeats 4000000 in
theorem k50_ok : CalmOk Try.prog k50 := by
  refine R.calmspec Try.func50 nm50 rfl ?_
  rintro ⟨a0, a1, r⟩ hok q _ args hargs
  match args, hargs with
  | [_, _], hargs =>
  obtain ⟨rfl, ⟨A1, cp1, rfl, hc1, _, hR1⟩, _⟩ := hargs
  refine ⟨envC [k35] false [(50, 10)], 6, envC_ok (css_cons ⟨fun _ => k35_ok, fun h => (by cases h)⟩ (css_nil)), rfl, (by intro x hx; simp only [List.mem_cons, List.not_mem_nil, or_false] at hx; rcases hx with rfl | rfl <;> rfl), ?_⟩
  have H : Gives (g50 a0 a1) (fun a => a = r) := ⟨r, hok, rfl⟩
  unfold g50 at H
  clear hok
  obtain ⟨v2927, hv2928, H⟩ := call_st H
  refine ⟨(0, a0, a1, v2927), ⟨hv2928⟩, ⟨trivial⟩, ?_⟩
  refine And.intro ⟨rfl⟩ ?_
  refine And.intro ⟨rfl⟩ ?_
  refine And.intro ⟨rfl, hc1, (ec_len c58_len).trans (congrArg (· * 4) (show _ = _ from rfl)), hR1⟩ ?_
  refine if_st H (fun h2929 H => ?_) (fun h2929 H => ?_)
  · have hfin := fin_st H
    repeat (refine And.intro (Ob.mk (by first | (rw [← hfin] <;> first | exact rfl | exact Iff.rfl | exact ⟨rfl, rfl⟩ | exact decide_eq_true_iff | (constructor <;> first | rfl | simp [ei, eb, es, ec, c58]) | simp [ei, eb, es, ec, c58]) | first | exact rfl | exact Iff.rfl | exact ⟨rfl, rfl⟩ | exact decide_eq_true_iff | (constructor <;> first | rfl | simp [ei, eb, es, ec, c58]) | simp [ei, eb, es, ec, c58])) ?_)
    first | exact trivial | exact rfl
  · refine ob_ck H fun h2930 H => ?_
    refine ob_ck H fun h2931 H => ?_
    refine R.cut_fam H 20 [] [] (fun v2951 => [(7, .v (.int .i64 (v2951)))]) (fun v2951 => []) [] 0 (fun H => ?_)
    refine And.intro ?_ ?_
    · refine R.loop_fam (bind_st H) [21, 22] [] (fun _ s2953 => [(7, .v (.int .i64 (s2953.1))), (23, .v (.int .i64 (s2953.2)))]) (fun _ s2953 => []) 0 (fun n2968 H => ?_)
      refine ⟨(n2968, _), ⟨H⟩, ⟨trivial⟩, ?_⟩
      repeat (refine And.intro (Ob.mk (by first | exact rfl | exact Iff.rfl | exact ⟨rfl, rfl⟩ | exact decide_eq_true_iff | (constructor <;> first | rfl | simp [ei, eb, es, ec, c58]) | simp [ei, eb, es, ec, c58])) ?_)
      rintro ⟨m0, s2953⟩ H _
      obtain ⟨m2954, hm0, H⟩ := IG_succ H
      dsimp only at hm0
      subst hm0
      try dsimp only at H
      refine if_st H (fun h2964 H => ?_) (fun h2964 H => ?_)
      · refine ob_ix hR1 (fun h => ec0 c58_len (by decide) h) H fun h2965 H => ?_
        refine ld_int (e := (a1.getD s2953.2.toNat default).1) (rd_get hR1 ((ec_get (i := s2953.2.toNat) (o := 0) c58_len (tn h2965) (by decide)).trans rfl)) ?_
        refine ld_int (e := (a1.getD s2953.2.toNat default).2.1) (rd_get hR1 ((ec_get (i := s2953.2.toNat) (o := 1) c58_len (tn h2965) (by decide)).trans rfl)) ?_
        refine ld_int (e := (a1.getD s2953.2.toNat default).2.2.1) (rd_get hR1 ((ec_get (i := s2953.2.toNat) (o := 2) c58_len (tn h2965) (by decide)).trans rfl)) ?_
        refine ld_int (e := (a1.getD s2953.2.toNat default).2.2.2) (rd_get hR1 ((ec_get (i := s2953.2.toNat) (o := 3) c58_len (tn h2965) (by decide)).trans rfl)) ?_
        refine ob_ck H fun h2966 H => ?_
        refine ob_ck H fun h2967 H => ?_
        replace H := some_st H
        refine ⟨(m2954, (s2953.1 + ((a1.getD s2953.2.toNat default).1), s2953.2 + 1)), ⟨H, Nat.lt_succ_self _⟩, ⟨trivial⟩, ⟨rfl⟩, ?_⟩
        repeat (refine And.intro (Ob.mk (by first | exact rfl | exact Iff.rfl | exact ⟨rfl, rfl⟩ | exact decide_eq_true_iff | (constructor <;> first | rfl | simp [ei, eb, es, ec, c58]) | simp [ei, eb, es, ec, c58])) ?_)
        first | exact trivial | exact rfl
      · replace H := some_st H
        dsimp only [stp, sm] at H
        refine ⟨s2953.1, ⟨H⟩, ⟨rfl⟩, ?_⟩
        repeat (refine And.intro (Ob.mk (by first | exact rfl | exact Iff.rfl | exact ⟨rfl, rfl⟩ | exact decide_eq_true_iff | (constructor <;> first | rfl | simp [ei, eb, es, ec, c58]) | simp [ei, eb, es, ec, c58])) ?_)
        first | exact trivial | exact rfl
    · intro v2951 H
      have hfin := fin_st H
      repeat (refine And.intro (Ob.mk (by first | (rw [← hfin] <;> first | exact rfl | exact Iff.rfl | exact ⟨rfl, rfl⟩ | exact decide_eq_true_iff | (constructor <;> first | rfl | simp [ei, eb, es, ec, c58]) | simp [ei, eb, es, ec, c58]) | first | exact rfl | exact Iff.rfl | exact ⟨rfl, rfl⟩ | exact decide_eq_true_iff | (constructor <;> first | rfl | simp [ei, eb, es, ec, c58]) | simp [ei, eb, es, ec, c58])) ?_)
      first | exact trivial | exact rfl
noncomputable def e50 (n : Nat) (a0 : Int) (a1 : List (Int × Int × Int × Int)) : Option (Int × Int) :=
  (e35 n 0 a0 a1).bind fun v2927 =>
  if ¬ v2927 = 0 then
    some (0, v2927)
  else
    (
      ck (inR .i64 (((a1.length : Nat) : Int) - 1)) <|
      ck (inR .i64 (a0 * (((a1.length : Nat) : Int) - 1))) <|
      jn (α := _) (β := Int) (fun k2952 =>
          (itN n (σ := Int × Int) (ρ := Int) (fun s2953 =>
              if s2953.2 < ((a1.length : Nat) : Int) then
                (
                  ck (0 ≤ s2953.2 ∧ s2953.2 < ((a1.length : Nat) : Int)) <|
                  ck (inR .i64 (s2953.1 + ((a1.getD s2953.2.toNat default).1))) <|
                  ck (inR .i64 (s2953.2 + 1)) <|
                  some (.go (s2953.1 + ((a1.getD s2953.2.toNat default).1), s2953.2 + 1))
                )
              else
                some (.out s2953.1)
            ) (a0 * (((a1.length : Nat) : Int) - 1), 0)).bind fun o2963 =>
            k2952 o2963
      ) (fun v2951 =>
        some (v2951, 0)
      )
    )
theorem e50_le (n : Nat) (a0 : Int) (a1 : List (Int × Int × Int × Int)) : Le (e50 n a0 a1) (g50 a0 a1) := by
  unfold e50 g50
  repeat' first | exact e35_le _ _ _ _ | refine le_bind ?_ (fun _ => ?_) | refine le_ck ?_ | refine le_if ?_ ?_ | refine le_sm (fun _ => ?_) (fun _ => ?_) | refine le_jn (fun _ _ _ => ?_) (fun _ => ?_) | refine le_loop (fun _ => ?_) | with_reducible exact le_refl | apply_assumption

/-- placard/layout.Stay -/
noncomputable def g38 (a0 : Int) (a1 : Int) (a2 : List (Int × Int × Int × Int)) : Option (List Bool × Int) :=
  (g35 a0 a1 a2).bind fun v2972 =>
  if ¬ v2972 = 0 then
    some (([] : List Bool), v2972)
  else
    (
      (g79 a0 a1 a2).bind fun v2975 =>
      some (v2975, 0)
    )
noncomputable def k38 : Eng.CS := { f := 38, calm := false, more := 1, ι := Int × Int × (List (Int × Int × Int × Int)) × (List Bool × Int), ok := fun i => g38 i.1 i.2.1 i.2.2.1 = some i.2.2.2, rds := fun _ => [], args := fun i => [.w (.v (.int .i64 (i.1))), .w (.v (.int .i64 (i.2.1))), .sl 4 i.2.2.1.length (ec c58 i.2.2.1)], res := fun i => .tup [.own 0, .v (.int .i64 (i.2.2.2.2))], L' := fun i => [(0, .arr 4 1 i.2.2.2.1.length (eb i.2.2.2.1))], rn := [(0, 0, 4, 1)] }
set_option maxRecDepth 8000 in
set_option maxHeartbeats 4000000 in
theorem k38_ok : CSOk Try.prog k38 := by
  refine R.cspec Try.func38 nm38 rfl ?_
  rintro ⟨a0, a1, a2, r⟩ hok q _ args hargs
  match args, hargs with
  | [_, _, _], hargs =>
  obtain ⟨rfl, rfl, ⟨A2, cp2, rfl, hc2, _, hR2⟩, _⟩ := hargs
  refine ⟨envC [k35, k79] false [], 6, envC_ok (css_cons ⟨fun _ => k35_ok, fun h => (by cases h)⟩ (css_cons ⟨fun h => (by cases h), fun _ => k79_ok⟩ (css_nil))), ?_⟩
  have H : Gives (g38 a0 a1 a2) (fun a => a = r) := ⟨r, hok, rfl⟩
  unfold g38 at H
  clear hok
  obtain ⟨v2972, hv2973, H⟩ := call_st H
  refine ⟨(a0, a1, a2, v2972), ⟨hv2973⟩, ⟨trivial⟩, ?_⟩
  refine And.intro ⟨rfl⟩ ?_
  refine And.intro ⟨rfl⟩ ?_
  refine And.intro ⟨rfl, hc2, (ec_len c58_len).trans (congrArg (· * 4) (show _ = _ from rfl)), hR2⟩ ?_
  refine if_st H (fun h2974 H => ?_) (fun h2974 H => ?_)
  · have hfin := fin_st H
    repeat (refine And.intro (Ob.mk (by first | (rw [← hfin] <;> first | exact rfl | exact Iff.rfl | exact ⟨rfl, rfl⟩ | exact decide_eq_true_iff | (constructor <;> first | rfl | simp [ei, eb, es, ec, c58]) | simp [ei, eb, es, ec, c58]) | first | exact rfl | exact Iff.rfl | exact ⟨rfl, rfl⟩ | exact decide_eq_true_iff | (constructor <;> first | rfl | simp [ei, eb, es, ec, c58]) | simp [ei, eb, es, ec, c58])) ?_)
    first | exact trivial | exact rfl
  · obtain ⟨v2975, hv2976, H⟩ := call_st H
    refine ⟨(a0, a1, a2, v2975), ⟨hv2976⟩, ⟨trivial⟩, ?_⟩
    refine And.intro ⟨rfl⟩ ?_
    refine And.intro ⟨rfl⟩ ?_
    refine And.intro ⟨rfl, hc2, (ec_len c58_len).trans (congrArg (· * 4) (show _ = _ from rfl)), hR2⟩ ?_
    have hfin := fin_st H
    repeat (refine And.intro (Ob.mk (by first | (rw [← hfin] <;> first | exact rfl | exact Iff.rfl | exact ⟨rfl, rfl⟩ | exact decide_eq_true_iff | (constructor <;> first | rfl | simp [ei, eb, es, ec, c58]) | simp [ei, eb, es, ec, c58]) | first | exact rfl | exact Iff.rfl | exact ⟨rfl, rfl⟩ | exact decide_eq_true_iff | (constructor <;> first | rfl | simp [ei, eb, es, ec, c58]) | simp [ei, eb, es, ec, c58])) ?_)
    first | exact trivial | exact rfl
noncomputable def e38 (n : Nat) (a0 : Int) (a1 : Int) (a2 : List (Int × Int × Int × Int)) : Option (List Bool × Int) :=
  (e35 n a0 a1 a2).bind fun v2972 =>
  if ¬ v2972 = 0 then
    some (([] : List Bool), v2972)
  else
    (
      (e79 n a0 a1 a2).bind fun v2975 =>
      some (v2975, 0)
    )
theorem e38_le (n : Nat) (a0 : Int) (a1 : Int) (a2 : List (Int × Int × Int × Int)) : Le (e38 n a0 a1 a2) (g38 a0 a1 a2) := by
  unfold e38 g38
  repeat' first | exact e35_le _ _ _ _ | exact e79_le _ _ _ _ | refine le_bind ?_ (fun _ => ?_) | refine le_ck ?_ | refine le_if ?_ ?_ | refine le_sm (fun _ => ?_) (fun _ => ?_) | refine le_jn (fun _ _ _ => ?_) (fun _ => ?_) | refine le_loop (fun _ => ?_) | with_reducible exact le_refl | apply_assumption

/-- placard/layout.Sizes -/
noncomputable def g37 (a0 : Int) (a1 : Int) (a2 : List (Int × Int × Int × Int)) : Option (List Int × Int) :=
  (g35 a0 a1 a2).bind fun v2980 =>
  if ¬ v2980 = 0 then
    some (([] : List Int), v2980)
  else
    (
      (g79 a0 a1 a2).bind fun v2983 =>
      (g78 a0 a1 v2983 a2).bind fun v2985 =>
      some (v2985.1, 0)
    )
noncomputable def k37 : Eng.CS := { f := 37, calm := false, more := 1, ι := Int × Int × (List (Int × Int × Int × Int)) × (List Int × Int), ok := fun i => g37 i.1 i.2.1 i.2.2.1 = some i.2.2.2, rds := fun _ => [], args := fun i => [.w (.v (.int .i64 (i.1))), .w (.v (.int .i64 (i.2.1))), .sl 4 i.2.2.1.length (ec c58 i.2.2.1)], res := fun i => .tup [.own 0, .v (.int .i64 (i.2.2.2.2))], L' := fun i => [(0, .arr 3 1 i.2.2.2.1.length (ei .i64 i.2.2.2.1))], rn := [(0, 0, 3, 1)] }
set_option maxRecDepth 8000 in
set_option maxHeartbeats 4000000 in
theorem k37_ok : CSOk Try.prog k37 := by
  refine R.cspec Try.func37 nm37 rfl ?_
  rintro ⟨a0, a1, a2, r⟩ hok q _ args hargs
  match args, hargs with
  | [_, _, _], hargs =>
  obtain ⟨rfl, rfl, ⟨A2, cp2, rfl, hc2, _, hR2⟩, _⟩ := hargs
  refine ⟨envC [k35, k78, k79] false [], 6, envC_ok (css_cons ⟨fun _ => k35_ok, fun h => (by cases h)⟩ (css_cons ⟨fun h => (by cases h), fun _ => k78_ok⟩ (css_cons ⟨fun h => (by cases h), fun _ => k79_ok⟩ (css_nil)))), ?_⟩
  have H : Gives (g37 a0 a1 a2) (fun a => a = r) := ⟨r, hok, rfl⟩
  unfold g37 at H
  clear hok
  obtain ⟨v2980, hv2981, H⟩ := call_st H
  refine ⟨(a0, a1, a2, v2980), ⟨hv2981⟩, ⟨trivial⟩, ?_⟩
  refine And.intro ⟨rfl⟩ ?_
  refine And.intro ⟨rfl⟩ ?_
  refine And.intro ⟨rfl, hc2, (ec_len c58_len).trans (congrArg (· * 4) (show _ = _ from rfl)), hR2⟩ ?_
  refine if_st H (fun h2982 H => ?_) (fun h2982 H => ?_)
  · have hfin := fin_st H
    repeat (refine And.intro (Ob.mk (by first | (rw [← hfin] <;> first | exact rfl | exact Iff.rfl | exact ⟨rfl, rfl⟩ | exact decide_eq_true_iff | (constructor <;> first | rfl | simp [ei, eb, es, ec, c58]) | simp [ei, eb, es, ec, c58]) | first | exact rfl | exact Iff.rfl | exact ⟨rfl, rfl⟩ | exact decide_eq_true_iff | (constructor <;> first | rfl | simp [ei, eb, es, ec, c58]) | simp [ei, eb, es, ec, c58])) ?_)
    first | exact trivial | exact rfl
  · obtain ⟨v2983, hv2984, H⟩ := call_st H
    refine ⟨(a0, a1, a2, v2983), ⟨hv2984⟩, ⟨trivial⟩, ?_⟩
    refine And.intro ⟨rfl⟩ ?_
    refine And.intro ⟨rfl⟩ ?_
    refine And.intro ⟨rfl, hc2, (ec_len c58_len).trans (congrArg (· * 4) (show _ = _ from rfl)), hR2⟩ ?_
    obtain ⟨v2985, hv2986, H⟩ := call_st H
    refine ⟨(a0, a1, v2983, a2, v2985), ⟨hv2986⟩, ⟨trivial⟩, ?_⟩
    refine And.intro ⟨rfl⟩ ?_
    refine And.intro ⟨rfl⟩ ?_
    refine And.intro ⟨by first | rfl | (simp; done), by first | rfl | (simp [ei, eb, es, ec, c58]; done) | (simp only [ei, eb, es, ec, c58, List.map_append, List.nil_append, List.append_assoc]; rfl)⟩ ?_
    refine And.intro ⟨rfl, hc2, (ec_len c58_len).trans (congrArg (· * 4) (show _ = _ from rfl)), hR2⟩ ?_
    have hfin := fin_st H
    repeat (refine And.intro (Ob.mk (by first | (rw [← hfin] <;> first | exact rfl | exact Iff.rfl | exact ⟨rfl, rfl⟩ | exact decide_eq_true_iff | (constructor <;> first | rfl | simp [ei, eb, es, ec, c58]) | simp [ei, eb, es, ec, c58]) | first | exact rfl | exact Iff.rfl | exact ⟨rfl, rfl⟩ | exact decide_eq_true_iff | (constructor <;> first | rfl | simp [ei, eb, es, ec, c58]) | simp [ei, eb, es, ec, c58])) ?_)
    first | exact trivial | exact rfl
noncomputable def e37 (n : Nat) (a0 : Int) (a1 : Int) (a2 : List (Int × Int × Int × Int)) : Option (List Int × Int) :=
  (e35 n a0 a1 a2).bind fun v2980 =>
  if ¬ v2980 = 0 then
    some (([] : List Int), v2980)
  else
    (
      (e79 n a0 a1 a2).bind fun v2983 =>
      (e78 n a0 a1 v2983 a2).bind fun v2985 =>
      some (v2985.1, 0)
    )
theorem e37_le (n : Nat) (a0 : Int) (a1 : Int) (a2 : List (Int × Int × Int × Int)) : Le (e37 n a0 a1 a2) (g37 a0 a1 a2) := by
  unfold e37 g37
  repeat' first | exact e35_le _ _ _ _ | exact e78_le _ _ _ _ _ | exact e79_le _ _ _ _ | refine le_bind ?_ (fun _ => ?_) | refine le_ck ?_ | refine le_if ?_ ?_ | refine le_sm (fun _ => ?_) (fun _ => ?_) | refine le_jn (fun _ _ _ => ?_) (fun _ => ?_) | refine le_loop (fun _ => ?_) | with_reducible exact le_refl | apply_assumption

/-- placard/layout.Places -/
noncomputable def g40 (a0 : Int) (a1 : Int) (a2 : Int) (a3 : List (Int × Int × Int × Int)) : Option (List Int × Int) :=
  (g35 a0 a1 a3).bind fun v2990 =>
  if ¬ v2990 = 0 then
    some (([] : List Int), v2990)
  else
    (
      if a2 < 0 then
        some (([] : List Int), 5)
      else
        (
          if 2 < a2 then
            some (([] : List Int), 5)
          else
            (
              (g79 a0 a1 a3).bind fun v2998 =>
              (g78 a0 a1 v2998 a3).bind fun v3000 =>
              jn (α := _) (β := Int) (fun k3009 =>
                  if a2 = 1 then
                    k3009 v3000.2
                  else
                    (
                      if a2 = 2 then
                        (
                          ck (inR .i64 (Int.tdiv v3000.2 2)) <|
                          k3009 (Int.tdiv v3000.2 2)
                        )
                      else
                        k3009 0
                    )
              ) (fun v3008 =>
                ck (0 ≤ ((a3.length : Nat) : Int) ∧ ((a3.length : Nat) : Int) ≤ ((a3.length : Nat) : Int) ∧ ((a3.length : Nat) : Int) ≤ 9223372036854775807 ∧ ((a3.length : Nat) : Int) * ((8 : Nat) : Int) ≤ 140737488355328) <|
                jn (α := _) (β := List Int) (fun k3053 =>
                    (loopO (σ := List Int × Int × Int) (ρ := List Int) (fun s3054 =>
                        if s3054.2.2 < ((v3000.1.length : Nat) : Int) then
                          (
                            ck (0 ≤ s3054.2.2 ∧ s3054.2.2 < ((v3000.1.length : Nat) : Int)) <|
                            ck (0 ≤ s3054.2.2 ∧ s3054.2.2 < ((v2998.length : Nat) : Int)) <|
                            if (v2998.getD s3054.2.2.toNat false) = true then
                              (
                                ck (0 ≤ s3054.2.2 ∧ s3054.2.2 < ((s3054.1.length : Nat) : Int)) <|
                                ck (inR .i64 ((v3000.1.getD s3054.2.2.toNat 0) + a1)) <|
                                ck (inR .i64 (s3054.2.1 + ((v3000.1.getD s3054.2.2.toNat 0) + a1))) <|
                                ck (inR .i64 (s3054.2.2 + 1)) <|
                                some (.go ((s3054.1.set s3054.2.2.toNat s3054.2.1), s3054.2.1 + ((v3000.1.getD s3054.2.2.toNat 0) + a1), s3054.2.2 + 1))
                              )
                            else
                              (
                                ck (inR .i64 (s3054.2.2 + 1)) <|
                                some (.go (s3054.1, s3054.2.1, s3054.2.2 + 1))
                              )
                          )
                        else
                          some (.out s3054.1)
                      ) ((List.replicate ((a3.length : Nat) : Int).toNat 0), v3008, 0)).bind fun o3074 =>
                      k3053 o3074
                ) (fun v3052 =>
                  some (v3052, 0)
                )
              )
            )
        )
    )
noncomputable def k40 : Eng.CS := { f := 40, calm := false, more := 1, ι := Int × Int × Int × (List (Int × Int × Int × Int)) × (List Int × Int), ok := fun i => g40 i.1 i.2.1 i.2.2.1 i.2.2.2.1 = some i.2.2.2.2, rds := fun _ => [], args := fun i => [.w (.v (.int .i64 (i.1))), .w (.v (.int .i64 (i.2.1))), .w (.v (.int .i64 (i.2.2.1))), .sl 4 i.2.2.2.1.length (ec c58 i.2.2.2.1)], res := fun i => .tup [.own 0, .v (.int .i64 (i.2.2.2.2.2))], L' := fun i => [(0, .arr 3 1 i.2.2.2.2.1.length (ei .i64 i.2.2.2.2.1))], rn := [(0, 0, 3, 1)] }
set_option maxRecDepth 8000 in
set_option maxHeartbeats 4000000 in
theorem k40_ok : CSOk Try.prog k40 := by
  refine R.cspec Try.func40 nm40 rfl ?_
  rintro ⟨a0, a1, a2, a3, r⟩ hok q _ args hargs
  match args, hargs with
  | [_, _, _, _], hargs =>
  obtain ⟨rfl, rfl, rfl, ⟨A3, cp3, rfl, hc3, _, hR3⟩, _⟩ := hargs
  refine ⟨envC [k35, k78, k79] false [(40, 14), (40, 22)], 6, envC_ok (css_cons ⟨fun _ => k35_ok, fun h => (by cases h)⟩ (css_cons ⟨fun h => (by cases h), fun _ => k78_ok⟩ (css_cons ⟨fun h => (by cases h), fun _ => k79_ok⟩ (css_nil)))), ?_⟩
  have H : Gives (g40 a0 a1 a2 a3) (fun a => a = r) := ⟨r, hok, rfl⟩
  unfold g40 at H
  clear hok
  obtain ⟨v2990, hv2991, H⟩ := call_st H
  refine ⟨(a0, a1, a3, v2990), ⟨hv2991⟩, ⟨trivial⟩, ?_⟩
  refine And.intro ⟨rfl⟩ ?_
  refine And.intro ⟨rfl⟩ ?_
  refine And.intro ⟨rfl, hc3, (ec_len c58_len).trans (congrArg (· * 4) (show _ = _ from rfl)), hR3⟩ ?_
  refine if_st H (fun h2992 H => ?_) (fun h2992 H => ?_)
  · have hfin := fin_st H
    repeat (refine And.intro (Ob.mk (by first | (rw [← hfin] <;> first | exact rfl | exact Iff.rfl | exact ⟨rfl, rfl⟩ | exact decide_eq_true_iff | (constructor <;> first | rfl | simp [ei, eb, es, ec, c58]) | simp [ei, eb, es, ec, c58]) | first | exact rfl | exact Iff.rfl | exact ⟨rfl, rfl⟩ | exact decide_eq_true_iff | (constructor <;> first | rfl | simp [ei, eb, es, ec, c58]) | simp [ei, eb, es, ec, c58])) ?_)
    first | exact trivial | exact rfl
  · refine if_st H (fun h2996 H => ?_) (fun h2996 H => ?_)
    · have hfin := fin_st H
      repeat (refine And.intro (Ob.mk (by first | (rw [← hfin] <;> first | exact rfl | exact Iff.rfl | exact ⟨rfl, rfl⟩ | exact decide_eq_true_iff | (constructor <;> first | rfl | simp [ei, eb, es, ec, c58]) | simp [ei, eb, es, ec, c58]) | first | exact rfl | exact Iff.rfl | exact ⟨rfl, rfl⟩ | exact decide_eq_true_iff | (constructor <;> first | rfl | simp [ei, eb, es, ec, c58]) | simp [ei, eb, es, ec, c58])) ?_)
      first | exact trivial | exact rfl
    · refine if_st H (fun h2997 H => ?_) (fun h2997 H => ?_)
      · have hfin := fin_st H
        repeat (refine And.intro (Ob.mk (by first | (rw [← hfin] <;> first | exact rfl | exact Iff.rfl | exact ⟨rfl, rfl⟩ | exact decide_eq_true_iff | (constructor <;> first | rfl | simp [ei, eb, es, ec, c58]) | simp [ei, eb, es, ec, c58]) | first | exact rfl | exact Iff.rfl | exact ⟨rfl, rfl⟩ | exact decide_eq_true_iff | (constructor <;> first | rfl | simp [ei, eb, es, ec, c58]) | simp [ei, eb, es, ec, c58])) ?_)
        first | exact trivial | exact rfl
      · obtain ⟨v2998, hv2999, H⟩ := call_st H
        refine ⟨(a0, a1, a3, v2998), ⟨hv2999⟩, ⟨trivial⟩, ?_⟩
        refine And.intro ⟨rfl⟩ ?_
        refine And.intro ⟨rfl⟩ ?_
        refine And.intro ⟨rfl, hc3, (ec_len c58_len).trans (congrArg (· * 4) (show _ = _ from rfl)), hR3⟩ ?_
        obtain ⟨v3000, hv3001, H⟩ := call_st H
        refine ⟨(a0, a1, v2998, a3, v3000), ⟨hv3001⟩, ⟨trivial⟩, ?_⟩
        refine And.intro ⟨rfl⟩ ?_
        refine And.intro ⟨rfl⟩ ?_
        refine And.intro ⟨by first | rfl | (simp; done), by first | rfl | (simp [ei, eb, es, ec, c58]; done) | (simp only [ei, eb, es, ec, c58, List.map_append, List.nil_append, List.append_assoc]; rfl)⟩ ?_
        refine And.intro ⟨rfl, hc3, (ec_len c58_len).trans (congrArg (· * 4) (show _ = _ from rfl)), hR3⟩ ?_
        refine R.cut_fam H 42 [1, 3, 11, 12] [] (fun v3008 => [(14, .v (.int .i64 (v3008)))]) (fun v3008 => []) [(20, .arr 4 1 (v2998.length) (eb (v2998))), (31, .arr 3 1 (v3000.1.length) (ei .i64 (v3000.1)))] 0 (fun H => ?_)
        refine And.intro ?_ ?_
        · refine if_st H (fun h3010 H => ?_) (fun h3010 H => ?_)
          · refine ⟨v3000.2, ⟨H⟩, ⟨rfl⟩, ?_⟩
            repeat (refine And.intro (Ob.mk (by first | exact rfl | exact Iff.rfl | exact ⟨rfl, rfl⟩ | exact decide_eq_true_iff | (constructor <;> first | rfl | simp [ei, eb, es, ec, c58]) | simp [ei, eb, es, ec, c58])) ?_)
            first | exact trivial | exact rfl
          · refine if_st H (fun h3011 H => ?_) (fun h3011 H => ?_)
            · refine And.intro ⟨by decide⟩ ?_
              refine ob_ck H fun h3012 H => ?_
              refine ⟨Int.tdiv v3000.2 2, ⟨H⟩, ⟨rfl⟩, ?_⟩
              repeat (refine And.intro (Ob.mk (by first | exact rfl | exact Iff.rfl | exact ⟨rfl, rfl⟩ | exact decide_eq_true_iff | (constructor <;> first | rfl | simp [ei, eb, es, ec, c58]) | simp [ei, eb, es, ec, c58])) ?_)
              first | exact trivial | exact rfl
            · refine ⟨0, ⟨H⟩, ⟨rfl⟩, ?_⟩
              repeat (refine And.intro (Ob.mk (by first | exact rfl | exact Iff.rfl | exact ⟨rfl, rfl⟩ | exact decide_eq_true_iff | (constructor <;> first | rfl | simp [ei, eb, es, ec, c58]) | simp [ei, eb, es, ec, c58])) ?_)
              first | exact trivial | exact rfl
        · intro v3008 H
          refine ob_ck H fun h3013 H => ?_
          refine R.cut_fam H 52 [15] [] (fun v3052 => []) (fun v3052 => [(44, .arr 3 1 (v3052.length) (ei .i64 (v3052)))]) [(20, .arr 4 1 (v2998.length) (eb (v2998))), (31, .arr 3 1 (v3000.1.length) (ei .i64 (v3000.1)))] 0 (fun H => ?_)
          refine And.intro ?_ ?_
          · refine R.loop_fam (bind_st H) [1, 11, 15, 54, 55] [] (fun _ s3054 => [(14, .v (.int .i64 (s3054.2.1))), (56, .v (.int .i64 (s3054.2.2)))]) (fun _ s3054 => [(44, .arr 3 1 (s3054.1.length) (ei .i64 (s3054.1)))]) 0 (fun n3084 H => ?_)
            refine ⟨(n3084, _), ⟨H⟩, ⟨trivial⟩, ?_⟩
            repeat (refine And.intro (Ob.mk (by first | exact rfl | exact Iff.rfl | exact ⟨rfl, rfl⟩ | exact decide_eq_true_iff | (constructor <;> first | rfl | simp [ei, eb, es, ec, c58]) | simp [ei, eb, es, ec, c58])) ?_)
            rintro ⟨m0, s3054⟩ H _
            obtain ⟨m3055, hm0, H⟩ := IG_succ H
            dsimp only at hm0
            subst hm0
            try dsimp only at H
            refine if_st H (fun h3075 H => ?_) (fun h3075 H => ?_)
            · refine ob_ck H fun h3076 H => ?_
              refine ld_int (e := v3000.1.getD s3054.2.2.toNat 0) (own_get (ys := ei .i64 v3000.1) (by first | rfl | simp [ei, eb, es, ec, c58]) (ei_get (l := v3000.1) (by first | exact tn h3076 | (have := tn h3076; simp at this ⊢; omega) | (have := tn h3076; simp; omega)))) ?_
              refine ob_ck H fun h3077 H => ?_
              refine ld_bool (e := v2998.getD s3054.2.2.toNat false) (own_get (ys := eb v2998) (by first | rfl | simp [ei, eb, es, ec, c58]) (eb_get (l := v2998) (by first | exact tn h3077 | (have := tn h3077; simp at this ⊢; omega) | (have := tn h3077; simp; omega)))) ?_
              refine if_st H (fun h3078 H => ?_) (fun h3078 H => ?_)
              · refine ob_ck H fun h3079 H => ?_
                refine And.intro ⟨by first | (have := tn h3079; simp [ei, eb, es, ec, c58] at this ⊢; omega) | (have := tn h3079; simp [ei, eb, es, ec, c58]; omega)⟩ ?_
                refine ob_ck H fun h3080 H => ?_
                refine ob_ck H fun h3081 H => ?_
                refine ob_ck H fun h3082 H => ?_
                replace H := some_st H
                refine ⟨(m3055, ((s3054.1.set s3054.2.2.toNat s3054.2.1), s3054.2.1 + ((v3000.1.getD s3054.2.2.toNat 0) + a1), s3054.2.2 + 1)), ⟨H, Nat.lt_succ_self _⟩, ⟨trivial⟩, ⟨rfl⟩, ?_⟩
                repeat (refine And.intro (Ob.mk (by first | exact rfl | exact Iff.rfl | exact ⟨rfl, rfl⟩ | exact decide_eq_true_iff | (constructor <;> first | rfl | simp [ei, eb, es, ec, c58]) | simp [ei, eb, es, ec, c58])) ?_)
                first | exact trivial | exact rfl
              · refine ob_ck H fun h3083 H => ?_
                replace H := some_st H
                refine ⟨(m3055, (s3054.1, s3054.2.1, s3054.2.2 + 1)), ⟨H, Nat.lt_succ_self _⟩, ⟨trivial⟩, ⟨rfl⟩, ?_⟩
                repeat (refine And.intro (Ob.mk (by first | exact rfl | exact Iff.rfl | exact ⟨rfl, rfl⟩ | exact decide_eq_true_iff | (constructor <;> first | rfl | simp [ei, eb, es, ec, c58]) | simp [ei, eb, es, ec, c58])) ?_)
                first | exact trivial | exact rfl
            · replace H := some_st H
              dsimp only [stp, sm] at H
              refine ⟨s3054.1, ⟨H⟩, ⟨rfl⟩, ?_⟩
              repeat (refine And.intro (Ob.mk (by first | exact rfl | exact Iff.rfl | exact ⟨rfl, rfl⟩ | exact decide_eq_true_iff | (constructor <;> first | rfl | simp [ei, eb, es, ec, c58]) | simp [ei, eb, es, ec, c58])) ?_)
              first | exact trivial | exact rfl
          · intro v3052 H
            have hfin := fin_st H
            repeat (refine And.intro (Ob.mk (by first | (rw [← hfin] <;> first | exact rfl | exact Iff.rfl | exact ⟨rfl, rfl⟩ | exact decide_eq_true_iff | (constructor <;> first | rfl | simp [ei, eb, es, ec, c58]) | simp [ei, eb, es, ec, c58]) | first | exact rfl | exact Iff.rfl | exact ⟨rfl, rfl⟩ | exact decide_eq_true_iff | (constructor <;> first | rfl | simp [ei, eb, es, ec, c58]) | simp [ei, eb, es, ec, c58])) ?_)
            first | exact trivial | exact rfl
noncomputable def e40 (n : Nat) (a0 : Int) (a1 : Int) (a2 : Int) (a3 : List (Int × Int × Int × Int)) : Option (List Int × Int) :=
  (e35 n a0 a1 a3).bind fun v2990 =>
  if ¬ v2990 = 0 then
    some (([] : List Int), v2990)
  else
    (
      if a2 < 0 then
        some (([] : List Int), 5)
      else
        (
          if 2 < a2 then
            some (([] : List Int), 5)
          else
            (
              (e79 n a0 a1 a3).bind fun v2998 =>
              (e78 n a0 a1 v2998 a3).bind fun v3000 =>
              jn (α := _) (β := Int) (fun k3009 =>
                  if a2 = 1 then
                    k3009 v3000.2
                  else
                    (
                      if a2 = 2 then
                        (
                          ck (inR .i64 (Int.tdiv v3000.2 2)) <|
                          k3009 (Int.tdiv v3000.2 2)
                        )
                      else
                        k3009 0
                    )
              ) (fun v3008 =>
                ck (0 ≤ ((a3.length : Nat) : Int) ∧ ((a3.length : Nat) : Int) ≤ ((a3.length : Nat) : Int) ∧ ((a3.length : Nat) : Int) ≤ 9223372036854775807 ∧ ((a3.length : Nat) : Int) * ((8 : Nat) : Int) ≤ 140737488355328) <|
                jn (α := _) (β := List Int) (fun k3053 =>
                    (itN n (σ := List Int × Int × Int) (ρ := List Int) (fun s3054 =>
                        if s3054.2.2 < ((v3000.1.length : Nat) : Int) then
                          (
                            ck (0 ≤ s3054.2.2 ∧ s3054.2.2 < ((v3000.1.length : Nat) : Int)) <|
                            ck (0 ≤ s3054.2.2 ∧ s3054.2.2 < ((v2998.length : Nat) : Int)) <|
                            if (v2998.getD s3054.2.2.toNat false) = true then
                              (
                                ck (0 ≤ s3054.2.2 ∧ s3054.2.2 < ((s3054.1.length : Nat) : Int)) <|
                                ck (inR .i64 ((v3000.1.getD s3054.2.2.toNat 0) + a1)) <|
                                ck (inR .i64 (s3054.2.1 + ((v3000.1.getD s3054.2.2.toNat 0) + a1))) <|
                                ck (inR .i64 (s3054.2.2 + 1)) <|
                                some (.go ((s3054.1.set s3054.2.2.toNat s3054.2.1), s3054.2.1 + ((v3000.1.getD s3054.2.2.toNat 0) + a1), s3054.2.2 + 1))
                              )
                            else
                              (
                                ck (inR .i64 (s3054.2.2 + 1)) <|
                                some (.go (s3054.1, s3054.2.1, s3054.2.2 + 1))
                              )
                          )
                        else
                          some (.out s3054.1)
                      ) ((List.replicate ((a3.length : Nat) : Int).toNat 0), v3008, 0)).bind fun o3074 =>
                      k3053 o3074
                ) (fun v3052 =>
                  some (v3052, 0)
                )
              )
            )
        )
    )
theorem e40_le (n : Nat) (a0 : Int) (a1 : Int) (a2 : Int) (a3 : List (Int × Int × Int × Int)) : Le (e40 n a0 a1 a2 a3) (g40 a0 a1 a2 a3) := by
  unfold e40 g40
  repeat' first | exact e35_le _ _ _ _ | exact e78_le _ _ _ _ _ | exact e79_le _ _ _ _ | refine le_bind ?_ (fun _ => ?_) | refine le_ck ?_ | refine le_if ?_ ?_ | refine le_sm (fun _ => ?_) (fun _ => ?_) | refine le_jn (fun _ _ _ => ?_) (fun _ => ?_) | refine le_loop (fun _ => ?_) | with_reducible exact le_refl | apply_assumption

/-- placard/placardlaw16.alike -/
noncomputable def g39 (a0 : List Bool) (a1 : List Bool) : Option (Bool) :=
  if ¬ ((a0.length : Nat) : Int) = ((a1.length : Nat) : Int) then
    some false
  else
    (
      jn (α := _) (β := Unit) (fun k3113 =>
          (loopO (σ := Int) (ρ := (Unit) ⊕ (Unit)) (fun s3114 =>
              if s3114 < ((a0.length : Nat) : Int) then
                (
                  ck (0 ≤ s3114 ∧ s3114 < ((a0.length : Nat) : Int)) <|
                  ck (0 ≤ s3114 ∧ s3114 < ((a1.length : Nat) : Int)) <|
                  if ¬ (((a0.getD s3114.toNat false) = true) ↔ ((a1.getD s3114.toNat false) = true)) then
                    some (.out (.inl (())))
                  else
                    (
                      ck (inR .i64 (s3114 + 1)) <|
                      some (.go (s3114 + 1))
                    )
                )
              else
                some (.out (.inr (())))
            ) 0).bind fun o3126 =>
          sm o3126 (fun o3132 =>
              some false
            ) (fun o3133 =>
              k3113 ()
            )
      ) (fun v3112 =>
        some true
      )
    )
noncomputable def k39 : Eng.CS := { f := 39, calm := true, more := 0, ι := (List Bool) × (List Bool) × Bool, ok := fun i => g39 i.1 i.2.1 = some i.2.2, rds := fun _ => [], args := fun i => [.sl 1 i.1.length (eb i.1), .sl 1 i.2.1.length (eb i.2.1)], res := fun i => bS i.2.2 }
set_option maxRecDepth 8000 in
set_option maxHeartbeats 4000000 in
theorem k39_ok : CalmOk Try.prog k39 := by
  refine R.calmspec Try.func39 nm39 rfl ?_
  rintro ⟨a0, a1, r⟩ hok q _ args hargs
  match args, hargs with
  | [_, _], hargs =>
  obtain ⟨⟨A0, cp0, rfl, hc0, _, hR0⟩, ⟨A1, cp1, rfl, hc1, _, hR1⟩, _⟩ := hargs
  refine ⟨envC [] false [(39, 8)], 6, envC_ok (css_nil), rfl, (by intro x hx; simp only [List.mem_cons, List.not_mem_nil, or_false] at hx; rcases hx with rfl | rfl <;> rfl), ?_⟩
  have H : Gives (g39 a0 a1) (fun a => a = r) := ⟨r, hok, rfl⟩
  unfold g39 at H
  clear hok
  refine if_st H (fun h3086 H => ?_) (fun h3086 H => ?_)
  · have hfin := fin_st H
    repeat (refine And.intro (Ob.mk (by first | (rw [← hfin] <;> first | exact rfl | exact Iff.rfl | exact ⟨rfl, rfl⟩ | exact decide_eq_true_iff | (constructor <;> first | rfl | simp [ei, eb, es, ec, c58]) | simp [ei, eb, es, ec, c58]) | first | exact rfl | exact Iff.rfl | exact ⟨rfl, rfl⟩ | exact decide_eq_true_iff | (constructor <;> first | rfl | simp [ei, eb, es, ec, c58]) | simp [ei, eb, es, ec, c58])) ?_)
    first | exact trivial | exact rfl
  · refine R.cut_fam H 13 [] [] (fun v3112 => []) (fun v3112 => []) [] 0 (fun H => ?_)
    refine And.intro ?_ ?_
    · refine R.loop_fam (bind_st H) [0, 1] [] (fun _ s3114 => [(5, .v (.int .i64 (s3114)))]) (fun _ s3114 => []) 0 (fun n3134 H => ?_)
      refine ⟨(n3134, _), ⟨H⟩, ⟨trivial⟩, ?_⟩
      repeat (refine And.intro (Ob.mk (by first | exact rfl | exact Iff.rfl | exact ⟨rfl, rfl⟩ | exact decide_eq_true_iff | (constructor <;> first | rfl | simp [ei, eb, es, ec, c58]) | simp [ei, eb, es, ec, c58])) ?_)
      rintro ⟨m0, s3114⟩ H _
      obtain ⟨m3115, hm0, H⟩ := IG_succ H
      dsimp only at hm0
      subst hm0
      try dsimp only at H
      refine if_st H (fun h3127 H => ?_) (fun h3127 H => ?_)
      · refine And.intro ⟨by kernel_rfl⟩ ?_
        refine ob_ix hR0 (fun h => eb0 h) H fun h3128 H => ?_
        refine ld_bool (e := a0.getD s3114.toNat false) (rd_get hR0 (eb_get (l := a0) (tn h3128))) ?_
        refine ob_ix hR1 (fun h => eb0 h) H fun h3129 H => ?_
        refine ld_bool (e := a1.getD s3114.toNat false) (rd_get hR1 (eb_get (l := a1) (tn h3129))) ?_
        refine if_st H (fun h3130 H => ?_) (fun h3130 H => ?_)
        · replace H := some_st H
          dsimp only [stp, sm] at H
          have hfin := fin_st H
          repeat (refine And.intro (Ob.mk (by first | (rw [← hfin] <;> first | exact rfl | exact Iff.rfl | exact ⟨rfl, rfl⟩ | exact decide_eq_true_iff | (constructor <;> first | rfl | simp [ei, eb, es, ec, c58]) | simp [ei, eb, es, ec, c58]) | first | exact rfl | exact Iff.rfl | exact ⟨rfl, rfl⟩ | exact decide_eq_true_iff | (constructor <;> first | rfl | simp [ei, eb, es, ec, c58]) | simp [ei, eb, es, ec, c58])) ?_)
          first | exact trivial | exact rfl
        · refine ob_ck H fun h3131 H => ?_
          replace H := some_st H
          refine ⟨(m3115, s3114 + 1), ⟨H, Nat.lt_succ_self _⟩, ⟨trivial⟩, ⟨rfl⟩, ?_⟩
          repeat (refine And.intro (Ob.mk (by first | exact rfl | exact Iff.rfl | exact ⟨rfl, rfl⟩ | exact decide_eq_true_iff | (constructor <;> first | rfl | simp [ei, eb, es, ec, c58]) | simp [ei, eb, es, ec, c58])) ?_)
          first | exact trivial | exact rfl
      · replace H := some_st H
        dsimp only [stp, sm] at H
        refine ⟨(), ⟨H⟩, ⟨rfl⟩, ?_⟩
        repeat (refine And.intro (Ob.mk (by first | exact rfl | exact Iff.rfl | exact ⟨rfl, rfl⟩ | exact decide_eq_true_iff | (constructor <;> first | rfl | simp [ei, eb, es, ec, c58]) | simp [ei, eb, es, ec, c58])) ?_)
        first | exact trivial | exact rfl
    · intro v3112 H
      have hfin := fin_st H
      repeat (refine And.intro (Ob.mk (by first | (rw [← hfin] <;> first | exact rfl | exact Iff.rfl | exact ⟨rfl, rfl⟩ | exact decide_eq_true_iff | (constructor <;> first | rfl | simp [ei, eb, es, ec, c58]) | simp [ei, eb, es, ec, c58]) | first | exact rfl | exact Iff.rfl | exact ⟨rfl, rfl⟩ | exact decide_eq_true_iff | (constructor <;> first | rfl | simp [ei, eb, es, ec, c58]) | simp [ei, eb, es, ec, c58])) ?_)
      first | exact trivial | exact rfl
noncomputable def e39 (n : Nat) (a0 : List Bool) (a1 : List Bool) : Option (Bool) :=
  if ¬ ((a0.length : Nat) : Int) = ((a1.length : Nat) : Int) then
    some false
  else
    (
      jn (α := _) (β := Unit) (fun k3113 =>
          (itN n (σ := Int) (ρ := (Unit) ⊕ (Unit)) (fun s3114 =>
              if s3114 < ((a0.length : Nat) : Int) then
                (
                  ck (0 ≤ s3114 ∧ s3114 < ((a0.length : Nat) : Int)) <|
                  ck (0 ≤ s3114 ∧ s3114 < ((a1.length : Nat) : Int)) <|
                  if ¬ (((a0.getD s3114.toNat false) = true) ↔ ((a1.getD s3114.toNat false) = true)) then
                    some (.out (.inl (())))
                  else
                    (
                      ck (inR .i64 (s3114 + 1)) <|
                      some (.go (s3114 + 1))
                    )
                )
              else
                some (.out (.inr (())))
            ) 0).bind fun o3126 =>
          sm o3126 (fun o3132 =>
              some false
            ) (fun o3133 =>
              k3113 ()
            )
      ) (fun v3112 =>
        some true
      )
    )
theorem e39_le (n : Nat) (a0 : List Bool) (a1 : List Bool) : Le (e39 n a0 a1) (g39 a0 a1) := by
  unfold e39 g39
  repeat' first | refine le_bind ?_ (fun _ => ?_) | refine le_ck ?_ | refine le_if ?_ ?_ | refine le_sm (fun _ => ?_) (fun _ => ?_) | refine le_jn (fun _ _ _ => ?_) (fun _ => ?_) | refine le_loop (fun _ => ?_) | with_reducible exact le_refl | apply_assumption

/-- placard/placardlaw16.same -/
noncomputable def g42 (a0 : List Int) (a1 : List Int) : Option (Bool) :=
  if ¬ ((a0.length : Nat) : Int) = ((a1.length : Nat) : Int) then
    some false
  else
    (
      jn (α := _) (β := Unit) (fun k3163 =>
          (loopO (σ := Int) (ρ := (Unit) ⊕ (Unit)) (fun s3164 =>
              if s3164 < ((a0.length : Nat) : Int) then
                (
                  ck (0 ≤ s3164 ∧ s3164 < ((a0.length : Nat) : Int)) <|
                  ck (0 ≤ s3164 ∧ s3164 < ((a1.length : Nat) : Int)) <|
                  if ¬ (a0.getD s3164.toNat 0) = (a1.getD s3164.toNat 0) then
                    some (.out (.inl (())))
                  else
                    (
                      ck (inR .i64 (s3164 + 1)) <|
                      some (.go (s3164 + 1))
                    )
                )
              else
                some (.out (.inr (())))
            ) 0).bind fun o3176 =>
          sm o3176 (fun o3182 =>
              some false
            ) (fun o3183 =>
              k3163 ()
            )
      ) (fun v3162 =>
        some true
      )
    )
noncomputable def k42 : Eng.CS := { f := 42, calm := true, more := 0, ι := (List Int) × (List Int) × Bool, ok := fun i => g42 i.1 i.2.1 = some i.2.2, rds := fun _ => [], args := fun i => [.sl 1 i.1.length (ei .i64 i.1), .sl 1 i.2.1.length (ei .i64 i.2.1)], res := fun i => bS i.2.2 }
set_option maxRecDepth 8000 in
set_option maxHeartbeats 4000000 in
theorem k42_ok : CalmOk Try.prog k42 := by
  refine R.calmspec Try.func42 nm42 rfl ?_
  rintro ⟨a0, a1, r⟩ hok q _ args hargs
  match args, hargs with
  | [_, _], hargs =>
  obtain ⟨⟨A0, cp0, rfl, hc0, _, hR0⟩, ⟨A1, cp1, rfl, hc1, _, hR1⟩, _⟩ := hargs
  refine ⟨envC [] false [(42, 8)], 6, envC_ok (css_nil), rfl, (by intro x hx; simp only [List.mem_cons, List.not_mem_nil, or_false] at hx; rcases hx with rfl | rfl <;> rfl), ?_⟩
  have H : Gives (g42 a0 a1) (fun a => a = r) := ⟨r, hok, rfl⟩
  unfold g42 at H
  clear hok
  refine if_st H (fun h3136 H => ?_) (fun h3136 H => ?_)
  · have hfin := fin_st H
    repeat (refine And.intro (Ob.mk (by first | (rw [← hfin] <;> first | exact rfl | exact Iff.rfl | exact ⟨rfl, rfl⟩ | exact decide_eq_true_iff | (constructor <;> first | rfl | simp [ei, eb, es, ec, c58]) | simp [ei, eb, es, ec, c58]) | first | exact rfl | exact Iff.rfl | exact ⟨rfl, rfl⟩ | exact decide_eq_true_iff | (constructor <;> first | rfl | simp [ei, eb, es, ec, c58]) | simp [ei, eb, es, ec, c58])) ?_)
    first | exact trivial | exact rfl
  · refine R.cut_fam H 13 [] [] (fun v3162 => []) (fun v3162 => []) [] 0 (fun H => ?_)
    refine And.intro ?_ ?_
    · refine R.loop_fam (bind_st H) [0, 1] [] (fun _ s3164 => [(5, .v (.int .i64 (s3164)))]) (fun _ s3164 => []) 0 (fun n3184 H => ?_)
      refine ⟨(n3184, _), ⟨H⟩, ⟨trivial⟩, ?_⟩
      repeat (refine And.intro (Ob.mk (by first | exact rfl | exact Iff.rfl | exact ⟨rfl, rfl⟩ | exact decide_eq_true_iff | (constructor <;> first | rfl | simp [ei, eb, es, ec, c58]) | simp [ei, eb, es, ec, c58])) ?_)
      rintro ⟨m0, s3164⟩ H _
      obtain ⟨m3165, hm0, H⟩ := IG_succ H
      dsimp only at hm0
      subst hm0
      try dsimp only at H
      refine if_st H (fun h3177 H => ?_) (fun h3177 H => ?_)
      · refine And.intro ⟨by kernel_rfl⟩ ?_
        refine ob_ix hR0 (fun h => ei0 h) H fun h3178 H => ?_
        refine ld_int (e := a0.getD s3164.toNat 0) (rd_get hR0 (ei_get (l := a0) (tn h3178))) ?_
        refine ob_ix hR1 (fun h => ei0 h) H fun h3179 H => ?_
        refine ld_int (e := a1.getD s3164.toNat 0) (rd_get hR1 (ei_get (l := a1) (tn h3179))) ?_
        refine if_st H (fun h3180 H => ?_) (fun h3180 H => ?_)
        · replace H := some_st H
          dsimp only [stp, sm] at H
          have hfin := fin_st H
          repeat (refine And.intro (Ob.mk (by first | (rw [← hfin] <;> first | exact rfl | exact Iff.rfl | exact ⟨rfl, rfl⟩ | exact decide_eq_true_iff | (constructor <;> first | rfl | simp [ei, eb, es, ec, c58]) | simp [ei, eb, es, ec, c58]) | first | exact rfl | exact Iff.rfl | exact ⟨rfl, rfl⟩ | exact decide_eq_true_iff | (constructor <;> first | rfl | simp [ei, eb, es, ec, c58]) | simp [ei, eb, es, ec, c58])) ?_)
          first | exact trivial | exact rfl
        · refine ob_ck H fun h3181 H => ?_
          replace H := some_st H
          refine ⟨(m3165, s3164 + 1), ⟨H, Nat.lt_succ_self _⟩, ⟨trivial⟩, ⟨rfl⟩, ?_⟩
          repeat (refine And.intro (Ob.mk (by first | exact rfl | exact Iff.rfl | exact ⟨rfl, rfl⟩ | exact decide_eq_true_iff | (constructor <;> first | rfl | simp [ei, eb, es, ec, c58]) | simp [ei, eb, es, ec, c58])) ?_)
          first | exact trivial | exact rfl
      · replace H := some_st H
        dsimp only [stp, sm] at H
        refine ⟨(), ⟨H⟩, ⟨rfl⟩, ?_⟩
        repeat (refine And.intro (Ob.mk (by first | exact rfl | exact Iff.rfl | exact ⟨rfl, rfl⟩ | exact decide_eq_true_iff | (constructor <;> first | rfl | simp [ei, eb, es, ec, c58]) | simp [ei, eb, es, ec, c58])) ?_)
        first | exact trivial | exact rfl
    · intro v3162 H
      have hfin := fin_st H
      repeat (refine And.intro (Ob.mk (by first | (rw [← hfin] <;> first | exact rfl | exact Iff.rfl | exact ⟨rfl, rfl⟩ | exact decide_eq_true_iff | (constructor <;> first | rfl | simp [ei, eb, es, ec, c58]) | simp [ei, eb, es, ec, c58]) | first | exact rfl | exact Iff.rfl | exact ⟨rfl, rfl⟩ | exact decide_eq_true_iff | (constructor <;> first | rfl | simp [ei, eb, es, ec, c58]) | simp [ei, eb, es, ec, c58])) ?_)
      first | exact trivial | exact rfl
noncomputable def e42 (n : Nat) (a0 : List Int) (a1 : List Int) : Option (Bool) :=
  if ¬ ((a0.length : Nat) : Int) = ((a1.length : Nat) : Int) then
    some false
  else
    (
      jn (α := _) (β := Unit) (fun k3163 =>
          (itN n (σ := Int) (ρ := (Unit) ⊕ (Unit)) (fun s3164 =>
              if s3164 < ((a0.length : Nat) : Int) then
                (
                  ck (0 ≤ s3164 ∧ s3164 < ((a0.length : Nat) : Int)) <|
                  ck (0 ≤ s3164 ∧ s3164 < ((a1.length : Nat) : Int)) <|
                  if ¬ (a0.getD s3164.toNat 0) = (a1.getD s3164.toNat 0) then
                    some (.out (.inl (())))
                  else
                    (
                      ck (inR .i64 (s3164 + 1)) <|
                      some (.go (s3164 + 1))
                    )
                )
              else
                some (.out (.inr (())))
            ) 0).bind fun o3176 =>
          sm o3176 (fun o3182 =>
              some false
            ) (fun o3183 =>
              k3163 ()
            )
      ) (fun v3162 =>
        some true
      )
    )
theorem e42_le (n : Nat) (a0 : List Int) (a1 : List Int) : Le (e42 n a0 a1) (g42 a0 a1) := by
  unfold e42 g42
  repeat' first | refine le_bind ?_ (fun _ => ?_) | refine le_ck ?_ | refine le_if ?_ ?_ | refine le_sm (fun _ => ?_) (fun _ => ?_) | refine le_jn (fun _ _ _ => ?_) (fun _ => ?_) | refine le_loop (fun _ => ?_) | with_reducible exact le_refl | apply_assumption

/-- placard/placardlaw16.awake -/
noncomputable def g36  : Option (Bool) :=
  (g37 10 1 ([(2, 4, 1, 0), (0, 9, 1, 0)])).bind fun v3185 =>
  (g37 2 1 ([(2, 4, 1, 0), (0, 9, 1, 0)])).bind fun v3187 =>
  (g40 10 1 0 ([(2, 4, 1, 0), (0, 9, 1, 0)])).bind fun v3189 =>
  if v3185.2 = 0 then
    (
      if ((v3185.1.length : Nat) : Int) = 2 then
        (
          ck (0 ≤ (0 : Int) ∧ 0 < ((v3185.1.length : Nat) : Int)) <|
          if (v3185.1.getD (0 : Int).toNat 0) = 4 then
            (
              ck (0 ≤ (1 : Int) ∧ 1 < ((v3185.1.length : Nat) : Int)) <|
              if (v3185.1.getD (1 : Int).toNat 0) = 5 then
                (
                  if v3187.2 = 0 then
                    (
                      if ((v3187.1.length : Nat) : Int) = 2 then
                        (
                          ck (0 ≤ (0 : Int) ∧ 0 < ((v3187.1.length : Nat) : Int)) <|
                          if (v3187.1.getD (0 : Int).toNat 0) = 2 then
                            (
                              ck (0 ≤ (1 : Int) ∧ 1 < ((v3187.1.length : Nat) : Int)) <|
                              if (v3187.1.getD (1 : Int).toNat 0) = 0 then
                                (
                                  if v3189.2 = 0 then
                                    (
                                      if ((v3189.1.length : Nat) : Int) = 2 then
                                        (
                                          ck (0 ≤ (1 : Int) ∧ 1 < ((v3189.1.length : Nat) : Int)) <|
                                          some (decide ((v3189.1.getD (1 : Int).toNat 0) = 5))
                                        )
                                      else
                                        some false
                                    )
                                  else
                                    some false
                                )
                              else
                                some false
                            )
                          else
                            some false
                        )
                      else
                        some false
                    )
                  else
                    some false
                )
              else
                some false
            )
          else
            some false
        )
      else
        some false
    )
  else
    some false
noncomputable def k36 : Eng.CS := { f := 36, calm := true, more := 0, ι := Bool, ok := fun i => g36  = some i, rds := fun _ => [], args := fun i => [], res := fun i => bS i }
set_option maxRecDepth 8000 in
set_option maxHeartbeats 4000000 in
theorem k36_ok : CalmOk Try.prog k36 := by
  refine R.calmspec Try.func36 nm36 rfl ?_
  rintro r hok q _ args hargs
  match args, hargs with
  | [], hargs =>
  refine ⟨envC [k37, k40] false [], 6, envC_ok (css_cons ⟨fun h => (by cases h), fun _ => k37_ok⟩ (css_cons ⟨fun h => (by cases h), fun _ => k40_ok⟩ (css_nil))), rfl, (by intro x hx; cases hx), ?_⟩
  have H : Gives (g36 ) (fun a => a = r) := ⟨r, hok, rfl⟩
  unfold g36 at H
  clear hok
  obtain ⟨v3185, hv3186, H⟩ := call_st H
  refine ⟨(10, 1, [(2, 4, 1, 0), (0, 9, 1, 0)], v3185), ⟨hv3186⟩, ⟨trivial⟩, ?_⟩
  refine And.intro ⟨rfl⟩ ?_
  refine And.intro ⟨rfl⟩ ?_
  refine And.intro ⟨by first | rfl | (simp; done), by first | rfl | (simp [ei, eb, es, ec, c58]; done) | (simp only [ei, eb, es, ec, c58, List.map_append, List.nil_append, List.append_assoc]; rfl)⟩ ?_
  obtain ⟨v3187, hv3188, H⟩ := call_st H
  refine ⟨(2, 1, [(2, 4, 1, 0), (0, 9, 1, 0)], v3187), ⟨hv3188⟩, ⟨trivial⟩, ?_⟩
  refine And.intro ⟨rfl⟩ ?_
  refine And.intro ⟨rfl⟩ ?_
  refine And.intro ⟨by first | rfl | (simp; done), by first | rfl | (simp [ei, eb, es, ec, c58]; done) | (simp only [ei, eb, es, ec, c58, List.map_append, List.nil_append, List.append_assoc]; rfl)⟩ ?_
  obtain ⟨v3189, hv3190, H⟩ := call_st H
  refine ⟨(10, 1, 0, [(2, 4, 1, 0), (0, 9, 1, 0)], v3189), ⟨hv3190⟩, ⟨trivial⟩, ?_⟩
  refine And.intro ⟨rfl⟩ ?_
  refine And.intro ⟨rfl⟩ ?_
  refine And.intro ⟨rfl⟩ ?_
  refine And.intro ⟨by first | rfl | (simp; done), by first | rfl | (simp [ei, eb, es, ec, c58]; done) | (simp only [ei, eb, es, ec, c58, List.map_append, List.nil_append, List.append_assoc]; rfl)⟩ ?_
  refine if_st H (fun h3191 H => ?_) (fun h3191 H => ?_)
  · refine if_st H (fun h3192 H => ?_) (fun h3192 H => ?_)
    · refine ob_ck H fun h3193 H => ?_
      refine ld_int (e := v3185.1.getD (0 : Int).toNat 0) (own_get (ys := ei .i64 v3185.1) (by first | rfl | simp [ei, eb, es, ec, c58]) (ei_get (l := v3185.1) (by first | exact tn h3193 | (have := tn h3193; simp at this ⊢; omega) | (have := tn h3193; simp; omega)))) ?_
      refine if_st H (fun h3194 H => ?_) (fun h3194 H => ?_)
      · refine ob_ck H fun h3195 H => ?_
        refine ld_int (e := v3185.1.getD (1 : Int).toNat 0) (own_get (ys := ei .i64 v3185.1) (by first | rfl | simp [ei, eb, es, ec, c58]) (ei_get (l := v3185.1) (by first | exact tn h3195 | (have := tn h3195; simp at this ⊢; omega) | (have := tn h3195; simp; omega)))) ?_
        refine if_st H (fun h3196 H => ?_) (fun h3196 H => ?_)
        · refine if_st H (fun h3197 H => ?_) (fun h3197 H => ?_)
          · refine if_st H (fun h3198 H => ?_) (fun h3198 H => ?_)
            · refine ob_ck H fun h3199 H => ?_
              refine ld_int (e := v3187.1.getD (0 : Int).toNat 0) (own_get (ys := ei .i64 v3187.1) (by first | rfl | simp [ei, eb, es, ec, c58]) (ei_get (l := v3187.1) (by first | exact tn h3199 | (have := tn h3199; simp at this ⊢; omega) | (have := tn h3199; simp; omega)))) ?_
              refine if_st H (fun h3200 H => ?_) (fun h3200 H => ?_)
              · refine ob_ck H fun h3201 H => ?_
                refine ld_int (e := v3187.1.getD (1 : Int).toNat 0) (own_get (ys := ei .i64 v3187.1) (by first | rfl | simp [ei, eb, es, ec, c58]) (ei_get (l := v3187.1) (by first | exact tn h3201 | (have := tn h3201; simp at this ⊢; omega) | (have := tn h3201; simp; omega)))) ?_
                refine if_st H (fun h3202 H => ?_) (fun h3202 H => ?_)
                · refine if_st H (fun h3203 H => ?_) (fun h3203 H => ?_)
                  · refine if_st H (fun h3204 H => ?_) (fun h3204 H => ?_)
                    · refine ob_ck H fun h3205 H => ?_
                      refine ld_int (e := v3189.1.getD (1 : Int).toNat 0) (own_get (ys := ei .i64 v3189.1) (by first | rfl | simp [ei, eb, es, ec, c58]) (ei_get (l := v3189.1) (by first | exact tn h3205 | (have := tn h3205; simp at this ⊢; omega) | (have := tn h3205; simp; omega)))) ?_
                      have hfin := fin_st H
                      repeat (refine And.intro (Ob.mk (by first | (rw [← hfin] <;> first | exact rfl | exact Iff.rfl | exact ⟨rfl, rfl⟩ | exact decide_eq_true_iff | (constructor <;> first | rfl | simp [ei, eb, es, ec, c58]) | simp [ei, eb, es, ec, c58]) | first | exact rfl | exact Iff.rfl | exact ⟨rfl, rfl⟩ | exact decide_eq_true_iff | (constructor <;> first | rfl | simp [ei, eb, es, ec, c58]) | simp [ei, eb, es, ec, c58])) ?_)
                      first | exact trivial | exact rfl
                    · have hfin := fin_st H
                      repeat (refine And.intro (Ob.mk (by first | (rw [← hfin] <;> first | exact rfl | exact Iff.rfl | exact ⟨rfl, rfl⟩ | exact decide_eq_true_iff | (constructor <;> first | rfl | simp [ei, eb, es, ec, c58]) | simp [ei, eb, es, ec, c58]) | first | exact rfl | exact Iff.rfl | exact ⟨rfl, rfl⟩ | exact decide_eq_true_iff | (constructor <;> first | rfl | simp [ei, eb, es, ec, c58]) | simp [ei, eb, es, ec, c58])) ?_)
                      first | exact trivial | exact rfl
                  · have hfin := fin_st H
                    repeat (refine And.intro (Ob.mk (by first | (rw [← hfin] <;> first | exact rfl | exact Iff.rfl | exact ⟨rfl, rfl⟩ | exact decide_eq_true_iff | (constructor <;> first | rfl | simp [ei, eb, es, ec, c58]) | simp [ei, eb, es, ec, c58]) | first | exact rfl | exact Iff.rfl | exact ⟨rfl, rfl⟩ | exact decide_eq_true_iff | (constructor <;> first | rfl | simp [ei, eb, es, ec, c58]) | simp [ei, eb, es, ec, c58])) ?_)
                    first | exact trivial | exact rfl
                · have hfin := fin_st H
                  repeat (refine And.intro (Ob.mk (by first | (rw [← hfin] <;> first | exact rfl | exact Iff.rfl | exact ⟨rfl, rfl⟩ | exact decide_eq_true_iff | (constructor <;> first | rfl | simp [ei, eb, es, ec, c58]) | simp [ei, eb, es, ec, c58]) | first | exact rfl | exact Iff.rfl | exact ⟨rfl, rfl⟩ | exact decide_eq_true_iff | (constructor <;> first | rfl | simp [ei, eb, es, ec, c58]) | simp [ei, eb, es, ec, c58])) ?_)
                  first | exact trivial | exact rfl
              · have hfin := fin_st H
                repeat (refine And.intro (Ob.mk (by first | (rw [← hfin] <;> first | exact rfl | exact Iff.rfl | exact ⟨rfl, rfl⟩ | exact decide_eq_true_iff | (constructor <;> first | rfl | simp [ei, eb, es, ec, c58]) | simp [ei, eb, es, ec, c58]) | first | exact rfl | exact Iff.rfl | exact ⟨rfl, rfl⟩ | exact decide_eq_true_iff | (constructor <;> first | rfl | simp [ei, eb, es, ec, c58]) | simp [ei, eb, es, ec, c58])) ?_)
                first | exact trivial | exact rfl
            · have hfin := fin_st H
              repeat (refine And.intro (Ob.mk (by first | (rw [← hfin] <;> first | exact rfl | exact Iff.rfl | exact ⟨rfl, rfl⟩ | exact decide_eq_true_iff | (constructor <;> first | rfl | simp [ei, eb, es, ec, c58]) | simp [ei, eb, es, ec, c58]) | first | exact rfl | exact Iff.rfl | exact ⟨rfl, rfl⟩ | exact decide_eq_true_iff | (constructor <;> first | rfl | simp [ei, eb, es, ec, c58]) | simp [ei, eb, es, ec, c58])) ?_)
              first | exact trivial | exact rfl
          · have hfin := fin_st H
            repeat (refine And.intro (Ob.mk (by first | (rw [← hfin] <;> first | exact rfl | exact Iff.rfl | exact ⟨rfl, rfl⟩ | exact decide_eq_true_iff | (constructor <;> first | rfl | simp [ei, eb, es, ec, c58]) | simp [ei, eb, es, ec, c58]) | first | exact rfl | exact Iff.rfl | exact ⟨rfl, rfl⟩ | exact decide_eq_true_iff | (constructor <;> first | rfl | simp [ei, eb, es, ec, c58]) | simp [ei, eb, es, ec, c58])) ?_)
            first | exact trivial | exact rfl
        · have hfin := fin_st H
          repeat (refine And.intro (Ob.mk (by first | (rw [← hfin] <;> first | exact rfl | exact Iff.rfl | exact ⟨rfl, rfl⟩ | exact decide_eq_true_iff | (constructor <;> first | rfl | simp [ei, eb, es, ec, c58]) | simp [ei, eb, es, ec, c58]) | first | exact rfl | exact Iff.rfl | exact ⟨rfl, rfl⟩ | exact decide_eq_true_iff | (constructor <;> first | rfl | simp [ei, eb, es, ec, c58]) | simp [ei, eb, es, ec, c58])) ?_)
          first | exact trivial | exact rfl
      · have hfin := fin_st H
        repeat (refine And.intro (Ob.mk (by first | (rw [← hfin] <;> first | exact rfl | exact Iff.rfl | exact ⟨rfl, rfl⟩ | exact decide_eq_true_iff | (constructor <;> first | rfl | simp [ei, eb, es, ec, c58]) | simp [ei, eb, es, ec, c58]) | first | exact rfl | exact Iff.rfl | exact ⟨rfl, rfl⟩ | exact decide_eq_true_iff | (constructor <;> first | rfl | simp [ei, eb, es, ec, c58]) | simp [ei, eb, es, ec, c58])) ?_)
        first | exact trivial | exact rfl
    · have hfin := fin_st H
      repeat (refine And.intro (Ob.mk (by first | (rw [← hfin] <;> first | exact rfl | exact Iff.rfl | exact ⟨rfl, rfl⟩ | exact decide_eq_true_iff | (constructor <;> first | rfl | simp [ei, eb, es, ec, c58]) | simp [ei, eb, es, ec, c58]) | first | exact rfl | exact Iff.rfl | exact ⟨rfl, rfl⟩ | exact decide_eq_true_iff | (constructor <;> first | rfl | simp [ei, eb, es, ec, c58]) | simp [ei, eb, es, ec, c58])) ?_)
      first | exact trivial | exact rfl
  · have hfin := fin_st H
    repeat (refine And.intro (Ob.mk (by first | (rw [← hfin] <;> first | exact rfl | exact Iff.rfl | exact ⟨rfl, rfl⟩ | exact decide_eq_true_iff | (constructor <;> first | rfl | simp [ei, eb, es, ec, c58]) | simp [ei, eb, es, ec, c58]) | first | exact rfl | exact Iff.rfl | exact ⟨rfl, rfl⟩ | exact decide_eq_true_iff | (constructor <;> first | rfl | simp [ei, eb, es, ec, c58]) | simp [ei, eb, es, ec, c58])) ?_)
    first | exact trivial | exact rfl
noncomputable def e36 (n : Nat)  : Option (Bool) :=
  (e37 n 10 1 ([(2, 4, 1, 0), (0, 9, 1, 0)])).bind fun v3185 =>
  (e37 n 2 1 ([(2, 4, 1, 0), (0, 9, 1, 0)])).bind fun v3187 =>
  (e40 n 10 1 0 ([(2, 4, 1, 0), (0, 9, 1, 0)])).bind fun v3189 =>
  if v3185.2 = 0 then
    (
      if ((v3185.1.length : Nat) : Int) = 2 then
        (
          ck (0 ≤ (0 : Int) ∧ 0 < ((v3185.1.length : Nat) : Int)) <|
          if (v3185.1.getD (0 : Int).toNat 0) = 4 then
            (
              ck (0 ≤ (1 : Int) ∧ 1 < ((v3185.1.length : Nat) : Int)) <|
              if (v3185.1.getD (1 : Int).toNat 0) = 5 then
                (
                  if v3187.2 = 0 then
                    (
                      if ((v3187.1.length : Nat) : Int) = 2 then
                        (
                          ck (0 ≤ (0 : Int) ∧ 0 < ((v3187.1.length : Nat) : Int)) <|
                          if (v3187.1.getD (0 : Int).toNat 0) = 2 then
                            (
                              ck (0 ≤ (1 : Int) ∧ 1 < ((v3187.1.length : Nat) : Int)) <|
                              if (v3187.1.getD (1 : Int).toNat 0) = 0 then
                                (
                                  if v3189.2 = 0 then
                                    (
                                      if ((v3189.1.length : Nat) : Int) = 2 then
                                        (
                                          ck (0 ≤ (1 : Int) ∧ 1 < ((v3189.1.length : Nat) : Int)) <|
                                          some (decide ((v3189.1.getD (1 : Int).toNat 0) = 5))
                                        )
                                      else
                                        some false
                                    )
                                  else
                                    some false
                                )
                              else
                                some false
                            )
                          else
                            some false
                        )
                      else
                        some false
                    )
                  else
                    some false
                )
              else
                some false
            )
          else
            some false
        )
      else
        some false
    )
  else
    some false
theorem e36_le (n : Nat)  : Le (e36 n ) (g36 ) := by
  unfold e36 g36
  repeat' first | exact e37_le _ _ _ _ | exact e40_le _ _ _ _ _ | refine le_bind ?_ (fun _ => ?_) | refine le_ck ?_ | refine le_if ?_ ?_ | refine le_sm (fun _ => ?_) (fun _ => ?_) | refine le_jn (fun _ _ _ => ?_) (fun _ => ?_) | refine le_loop (fun _ => ?_) | with_reducible exact le_refl | apply_assumption

end Go.Proofs.Ytcnofjjiepcpjaa
