/-
  Functions of the program, lifted: each with its walk. Printed by lift.py.
  Nothing here is trusted.
-/
import Derived.Test.YtenjkphlbdhaiaaLiftA
import Derived.Test.YtenjkphlbdhaiaaLiftG4
set_option linter.unusedVariables false
set_option linter.unusedSimpArgs false
namespace Go.Proofs.Ytenjkphlbdhaiaa
open Go Go.Eng

theorem mo1_LiftM6 {p q : Prop} (k : q) (h : p := by first | exact rfl | exact Iff.rfl | exact ⟨rfl, rfl⟩ | exact decide_eq_true_iff | (constructor <;> first | exact rfl | (simp only [ei, eb, es, ec, c135, gmin, gmax, List.map_append, List.flatMap_append, List.nil_append, List.append_nil, List.append_assoc]; done) | omega | (simp only [List.nil_append, List.length_append, List.length_cons, List.length_nil]; omega) | (simp [ei, eb, es, ec, c135, gmin, gmax]; done)) | exact rfl | (simp only [ei, eb, es, ec, c135, gmin, gmax, List.map_append, List.flatMap_append, List.nil_append, List.append_nil, List.append_assoc]; done) | omega | (simp only [List.nil_append, List.length_append, List.length_cons, List.length_nil]; omega) | (simp [ei, eb, es, ec, c135, gmin, gmax]; done) | simp [ei, eb, es, ec, c135, gmin, gmax]) : Ob p ∧ q := ⟨⟨h⟩, k⟩
theorem mf1_LiftM6 {p q : Prop} (k : q) (h : p := by first | (rw [← hfin] <;> first | exact rfl | exact Iff.rfl | exact ⟨rfl, rfl⟩ | exact decide_eq_true_iff | (constructor <;> first | exact rfl | (simp only [ei, eb, es, ec, c135, gmin, gmax, List.map_append, List.flatMap_append, List.nil_append, List.append_nil, List.append_assoc]; done) | omega | (simp only [List.nil_append, List.length_append, List.length_cons, List.length_nil]; omega) | (simp [ei, eb, es, ec, c135, gmin, gmax]; done)) | exact rfl | (simp only [ei, eb, es, ec, c135, gmin, gmax, List.map_append, List.flatMap_append, List.nil_append, List.append_nil, List.append_assoc]; done) | omega | (simp only [List.nil_append, List.length_append, List.length_cons, List.length_nil]; omega) | (simp [ei, eb, es, ec, c135, gmin, gmax]; done) | simp [ei, eb, es, ec, c135, gmin, gmax]) | first | exact rfl | exact Iff.rfl | exact ⟨rfl, rfl⟩ | exact decide_eq_true_iff | (constructor <;> first | exact rfl | (simp only [ei, eb, es, ec, c135, gmin, gmax, List.map_append, List.flatMap_append, List.nil_append, List.append_nil, List.append_assoc]; done) | omega | (simp only [List.nil_append, List.length_append, List.length_cons, List.length_nil]; omega) | (simp [ei, eb, es, ec, c135, gmin, gmax]; done)) | exact rfl | (simp only [ei, eb, es, ec, c135, gmin, gmax, List.map_append, List.flatMap_append, List.nil_append, List.append_nil, List.append_assoc]; done) | omega | (simp only [List.nil_append, List.length_append, List.length_cons, List.length_nil]; omega) | (simp [ei, eb, es, ec, c135, gmin, gmax]; done) | simp [ei, eb, es, ec, c135, gmin, gmax]) : Ob p ∧ q := ⟨⟨h⟩, k⟩
/-- placard/placardlaw12.GapNobody -/
noncomputable def g6 (a0 : List ByteArray) (a1 : Int) : Option (Bool) :=
  jn (α := _) (β := Unit) (fun k845 =>
      (loopO (σ := Int) (ρ := (Unit) ⊕ (Unit)) (fun s848 =>
          if s848 < ((2 : Nat) : Int) then
            (
              ck (0 ≤ s848 ∧ s848 < ((2 : Nat) : Int)) <|
              if s848 = ((0 : Nat) : Int) then
                (
                  (g22 a0).bind fun v1226 =>
                  jn (α := _) (β := Unit) (fun k1237 =>
                      (loopO (σ := Unit) (ρ := Unit) (fun s1240 =>
                          if 0 < ((0 : Nat) : Int) then
                            (
                              ck (0 ≤ (0 : Int) ∧ 0 < ((0 : Nat) : Int)) <|
                              none
                            )
                          else
                            some (.out ())
                        ) ()).bind fun o1243 =>
                        k1237 ()
                  ) (fun v1236 =>
                    jn (α := _) (β := Unit) (fun k1256 =>
                        ck (inR .i64 (0 - 1)) <|
                        (loopO (σ := Unit) (ρ := Unit) (fun s1260 =>
                            if 0 ≤ ((0 - 1) : Int) then
                              (
                                ck (0 ≤ 0 - 1 ∧ 0 - 1 < ((0 : Nat) : Int)) <|
                                none
                              )
                            else
                              some (.out ())
                          ) ()).bind fun o1263 =>
                          k1256 ()
                    ) (fun v1255 =>
                      ck (inR .i64 (((0 : Nat) : Int) + ((0 : Nat) : Int))) <|
                      if ¬ (((0 : Nat) : Int) + ((0 : Nat) : Int)) = 0 then
                        some (.out (.inl (())))
                      else
                        (
                          (g22 a0).bind fun v1268 =>
                          ck (inR .i64 (((0 : Nat) : Int) + 0)) <|
                          ck (inR .i64 ((((0 : Nat) : Int) + 0) + ((0 : Nat) : Int))) <|
                          jn (α := _) (β := Unit) (fun k1281 =>
                              (loopO (σ := Unit) (ρ := Unit) (fun s1284 =>
                                  if 0 < ((0 : Nat) : Int) then
                                    (
                                      ck (0 ≤ (0 : Int) ∧ 0 < ((0 : Nat) : Int)) <|
                                      none
                                    )
                                  else
                                    some (.out ())
                                ) ()).bind fun o1287 =>
                                k1281 ()
                          ) (fun v1280 =>
                            ck (inR .i64 (((((0 : Nat) : Int) + 0) + ((0 : Nat) : Int)) + ((0 : Nat) : Int))) <|
                            ck (inR .i64 ((((((0 : Nat) : Int) + 0) + ((0 : Nat) : Int)) + ((0 : Nat) : Int)) + 0)) <|
                            ck (inR .i64 (((((((0 : Nat) : Int) + 0) + ((0 : Nat) : Int)) + ((0 : Nat) : Int)) + 0) + 0)) <|
                            ck (inR .i64 ((((((((0 : Nat) : Int) + 0) + ((0 : Nat) : Int)) + ((0 : Nat) : Int)) + 0) + 0) + 0)) <|
                            if ¬ ((((((((0 : Nat) : Int) + 0) + ((0 : Nat) : Int)) + ((0 : Nat) : Int)) + 0) + 0) + 0) = 0 then
                              some (.out (.inl (())))
                            else
                              (
                                jn (α := _) (β := Unit) (fun k1304 =>
                                    (loopO (σ := Unit) (ρ := Unit) (fun s1307 =>
                                        if 0 < ((0 : Nat) : Int) then
                                          (
                                            ck (0 ≤ (0 : Int) ∧ 0 < ((0 : Nat) : Int)) <|
                                            none
                                          )
                                        else
                                          some (.out ())
                                      ) ()).bind fun o1310 =>
                                      k1304 ()
                                ) (fun v1303 =>
                                  (g55 ([])).bind fun v1313 =>
                                  if ¬ (v1313.data.toList = (lit []).data.toList) then
                                    some (.out (.inl (())))
                                  else
                                    (
                                      ck (inR .i64 (s848 + 1)) <|
                                      some (.go (s848 + 1))
                                    )
                                )
                              )
                          )
                        )
                    )
                  )
                )
              else
                (
                  if s848 = ((1 : Nat) : Int) then
                    (
                      (g22 a0).bind fun v1318 =>
                      jn (α := _) (β := Unit) (fun k1329 =>
                          (loopO (σ := Unit) (ρ := Unit) (fun s1332 =>
                              if 0 < ((0 : Nat) : Int) then
                                (
                                  ck (0 ≤ (0 : Int) ∧ 0 < ((0 : Nat) : Int)) <|
                                  none
                                )
                              else
                                some (.out ())
                            ) ()).bind fun o1335 =>
                            k1329 ()
                      ) (fun v1328 =>
                        jn (α := _) (β := Unit) (fun k1348 =>
                            ck (inR .i64 (0 - 1)) <|
                            (loopO (σ := Unit) (ρ := Unit) (fun s1352 =>
                                if 0 ≤ ((0 - 1) : Int) then
                                  (
                                    ck (0 ≤ 0 - 1 ∧ 0 - 1 < ((0 : Nat) : Int)) <|
                                    none
                                  )
                                else
                                  some (.out ())
                              ) ()).bind fun o1355 =>
                              k1348 ()
                        ) (fun v1347 =>
                          ck (inR .i64 (((0 : Nat) : Int) + ((0 : Nat) : Int))) <|
                          if ¬ (((0 : Nat) : Int) + ((0 : Nat) : Int)) = 0 then
                            some (.out (.inl (())))
                          else
                            (
                              (g22 a0).bind fun v1360 =>
                              ck (inR .i64 (((0 : Nat) : Int) + 0)) <|
                              ck (inR .i64 ((((0 : Nat) : Int) + 0) + ((0 : Nat) : Int))) <|
                              jn (α := _) (β := Unit) (fun k1373 =>
                                  (loopO (σ := Unit) (ρ := Unit) (fun s1376 =>
                                      if 0 < ((0 : Nat) : Int) then
                                        (
                                          ck (0 ≤ (0 : Int) ∧ 0 < ((0 : Nat) : Int)) <|
                                          none
                                        )
                                      else
                                        some (.out ())
                                    ) ()).bind fun o1379 =>
                                    k1373 ()
                              ) (fun v1372 =>
                                ck (inR .i64 (((((0 : Nat) : Int) + 0) + ((0 : Nat) : Int)) + ((0 : Nat) : Int))) <|
                                ck (inR .i64 ((((((0 : Nat) : Int) + 0) + ((0 : Nat) : Int)) + ((0 : Nat) : Int)) + 0)) <|
                                ck (inR .i64 (((((((0 : Nat) : Int) + 0) + ((0 : Nat) : Int)) + ((0 : Nat) : Int)) + 0) + 0)) <|
                                ck (inR .i64 ((((((((0 : Nat) : Int) + 0) + ((0 : Nat) : Int)) + ((0 : Nat) : Int)) + 0) + 0) + 0)) <|
                                if ¬ ((((((((0 : Nat) : Int) + 0) + ((0 : Nat) : Int)) + ((0 : Nat) : Int)) + 0) + 0) + 0) = 0 then
                                  some (.out (.inl (())))
                                else
                                  (
                                    jn (α := _) (β := Unit) (fun k1396 =>
                                        (loopO (σ := Unit) (ρ := Unit) (fun s1399 =>
                                            if 0 < ((0 : Nat) : Int) then
                                              (
                                                ck (0 ≤ (0 : Int) ∧ 0 < ((0 : Nat) : Int)) <|
                                                none
                                              )
                                            else
                                              some (.out ())
                                          ) ()).bind fun o1402 =>
                                          k1396 ()
                                    ) (fun v1395 =>
                                      (g55 ([])).bind fun v1405 =>
                                      if ¬ (v1405.data.toList = (lit []).data.toList) then
                                        some (.out (.inl (())))
                                      else
                                        (
                                          ck (inR .i64 (s848 + 1)) <|
                                          some (.go (s848 + 1))
                                        )
                                    )
                                  )
                              )
                            )
                        )
                      )
                    )
                  else
                    none
                )
            )
          else
            some (.out (.inr (())))
        ) 0).bind fun o1222 =>
      sm o1222 (fun o1409 =>
          some false
        ) (fun o1410 =>
          k845 ()
        )
  ) (fun v844 =>
    (g17).bind fun v1412 =>
    some v1412
  )
noncomputable def k6 : Eng.CS := { f := 6, calm := true, more := 0, ι := (List ByteArray) × Int × Bool, ok := fun i => g6 i.1 i.2.1 = some i.2.2, rds := fun _ => [], args := fun i => [.sl 1 i.1.length (es i.1), .w (.v (.int .i64 (i.2.1)))], res := fun i => bS i.2.2 }
set_option maxRecDepth 8000 in
set_option maxHeartbeats 4000000 in
theorem k6_ok : CalmOk Try.prog k6 := by
  refine R.calmspec Try.func6 nm6 rfl ?_
  rintro ⟨a0, a1, r⟩ hok q _ args hargs
  match args, hargs with
  | [_, _], hargs =>
  obtain ⟨⟨A0, cp0, rfl, hc0, _, hR0⟩, rfl, _⟩ := hargs
  refine ⟨envC [k17, k22, k55] false [(6, 13), (16, 5), (25, 11), (29, 5)], 6, envC_ok (css_cons ⟨fun _ => k17_ok, fun h => (by cases h)⟩ (css_cons ⟨fun h => (by cases h), fun _ => k22_ok⟩ (css_cons ⟨fun h => (by cases h), fun _ => k55_ok⟩ (css_nil)))), rfl, (by intro x hx; simp only [List.mem_cons, List.not_mem_nil, or_false] at hx; rcases hx with rfl | rfl <;> rfl), ?_⟩
  have H : Gives (g6 a0 a1) (fun a => a = r) := ⟨r, hok, rfl⟩
  unfold g6 at H
  clear hok
  refine R.cut_fam H 14 [] [] (fun v844 => []) (fun v844 => []) [(4, .cells 43 [.v (.int .i64 (0)), .v (.slice none 0 0), .v (.int .i64 (0)), .v (.int .i64 (0))]), (5, .cells 23 [.v (.pointer none), .lp 4 0])] 0 (fun H => ?_)
  refine And.intro ?_ ?_
  · refine R.loop_fam (bind_st H) [0, 1, 6] [] (fun _ s848 => [(7, .v (.int .i64 (s848)))]) (fun _ s848 => []) 0 (fun n1411 H => ?_)
    refine ⟨(n1411, _), ⟨H⟩, ⟨trivial⟩, ?_⟩
    repeat refine mo1_LiftM6 ?_
    rintro ⟨m0, s848⟩ H _
    obtain ⟨m849, hm0, H⟩ := IG_succ H
    dsimp only at hm0
    subst hm0
    try dsimp only at H
    refine if_st H (fun h1223 H => ?_) (fun h1223 H => ?_)
    · refine ob_ck H fun h1224 H => ?_
      replace H := ix_in H
      refine ix_st (fun hc => by omega) H (fun h1225 H => ?_) (fun H => ?_)
      · obtain ⟨v1226, hv1227, H⟩ := call_st H
        refine ⟨(a0, v1226), ⟨hv1227⟩, ⟨trivial⟩, ?_⟩
        refine And.intro ⟨rfl, hc0, es_len.trans ((show _ = _ from rfl).trans (Nat.mul_one _).symm), hR0⟩ ?_
        refine R.cut_fam H 136 [7, 8] [] (fun v1236 => []) (fun v1236 => []) [(4, .cells 43 [.v (.int .i64 (0)), .v (.slice none 0 0), .v (.int .i64 (0)), .v (.int .i64 (0))]), (5, .cells 23 [.v (.pointer none), .lp 4 0]), (62, .arr 9 1 (v1226.length) (es (v1226))), (63, .cells 23 [.v (.pointer none)]), (64, .cells 25 [.own 62]), (65, .cells 3 [.v (.int .i64 (0))]), (66, .cells 4 [.bb false]), (98, .cells 23 [.v (.pointer none)]), (102, .cells 3 [.v (.int .i64 (3))]), (108, .cells 22 [.v (.slice none 0 0)]), (109, .cells 25 [.v (.slice none 0 0)])] 0 (fun H => ?_)
        refine And.intro ?_ ?_
        · refine R.loop_fam (bind_st H) [0, 6, 7, 8] [] (fun _ s1240 => []) (fun _ s1240 => []) 0 (fun n1245 H => ?_)
          refine ⟨(n1245, _), ⟨H⟩, ⟨trivial⟩, ?_⟩
          repeat refine mo1_LiftM6 ?_
          rintro ⟨m0, s1240⟩ H _
          obtain ⟨m1241, hm0, H⟩ := IG_succ H
          dsimp only at hm0
          subst hm0
          try dsimp only at H
          refine if_st H (fun h1244 H => ?_) (fun h1244 H => ?_)
          · exact absurd (ck_st H).1 (by omega)
          · replace H := some_st H
            dsimp only [stp, sm] at H
            refine ⟨(), ⟨H⟩, ⟨rfl⟩, ?_⟩
            repeat refine mo1_LiftM6 ?_
            first | exact trivial | exact rfl
        · intro v1236 H
          refine And.intro ⟨by kernel_rfl⟩ ?_
          refine R.cut_fam H 209 [7, 8] [] (fun v1255 => []) (fun v1255 => []) [(4, .cells 43 [.v (.int .i64 (0)), .v (.slice none 0 0), .v (.int .i64 (0)), .v (.int .i64 (0))]), (5, .cells 23 [.v (.pointer none), .lp 4 0]), (62, .arr 9 1 (v1226.length) (es (v1226))), (63, .cells 23 [.v (.pointer none)]), (64, .cells 25 [.own 62]), (65, .cells 3 [.v (.int .i64 (0))]), (66, .cells 4 [.bb false]), (98, .cells 23 [.v (.pointer none)]), (102, .cells 3 [.v (.int .i64 (3))]), (108, .cells 22 [.v (.slice none 0 0)]), (109, .cells 25 [.v (.slice none 0 0)]), (151, .cells 23 [.v (.pointer none)]), (155, .cells 3 [.v (.int .i64 (3))]), (161, .cells 22 [.v (.slice none 0 0)]), (162, .cells 25 [.v (.slice none 0 0)])] 0 (fun H => ?_)
          refine And.intro ?_ ?_
          · refine ob_ck H fun h1257 H => ?_
            refine R.loop_fam (bind_st H) [0, 3, 4] [] (fun _ s1260 => []) (fun _ s1260 => []) 0 (fun n1265 H => ?_)
            refine ⟨(n1265, _), ⟨H⟩, ⟨trivial⟩, ?_⟩
            repeat refine mo1_LiftM6 ?_
            rintro ⟨m0, s1260⟩ H _
            obtain ⟨m1261, hm0, H⟩ := IG_succ H
            dsimp only at hm0
            subst hm0
            try dsimp only at H
            refine if_st H (fun h1264 H => ?_) (fun h1264 H => ?_)
            · exact absurd (ck_st H).1 (by omega)
            · replace H := some_st H
              dsimp only [stp, sm] at H
              refine ⟨(), ⟨H⟩, ⟨rfl⟩, ?_⟩
              repeat refine mo1_LiftM6 ?_
              first | exact trivial | exact rfl
          · intro v1255 H
            refine And.intro ⟨by kernel_rfl⟩ ?_
            refine ob_ck H fun h1266 H => ?_
            refine if_st H (fun h1267 H => ?_) (fun h1267 H => ?_)
            · replace H := some_st H
              dsimp only [stp, sm] at H
              have hfin := fin_st H
              repeat refine mf1_LiftM6 ?_
              first | exact trivial | exact rfl
            · obtain ⟨v1268, hv1269, H⟩ := call_st H
              refine ⟨(a0, v1268), ⟨hv1269⟩, ⟨trivial⟩, ?_⟩
              refine And.intro ⟨rfl, hc0, es_len.trans ((show _ = _ from rfl).trans (Nat.mul_one _).symm), hR0⟩ ?_
              refine And.intro (fun h => absurd h (by decide)) (fun _ => ?_)
              refine And.intro (fun h => absurd h (by decide)) (fun _ => ?_)
              refine ob_ck H fun h1270 H => ?_
              refine ob_ck H fun h1271 H => ?_
              refine R.cut_fam H 401 [3] [] (fun v1280 => []) (fun v1280 => []) [(4, .cells 43 [.v (.int .i64 (0)), .v (.slice none 0 0), .v (.int .i64 (0)), .v (.int .i64 (0))]), (5, .cells 23 [.v (.pointer none), .lp 4 0]), (62, .arr 9 1 (v1226.length) (es (v1226))), (63, .cells 23 [.v (.pointer none)]), (64, .cells 25 [.own 62]), (65, .cells 3 [.v (.int .i64 (0))]), (66, .cells 4 [.bb false]), (98, .cells 23 [.v (.pointer none)]), (102, .cells 3 [.v (.int .i64 (3))]), (108, .cells 22 [.v (.slice none 0 0)]), (109, .cells 25 [.v (.slice none 0 0)]), (151, .cells 23 [.v (.pointer none)]), (155, .cells 3 [.v (.int .i64 (3))]), (161, .cells 22 [.v (.slice none 0 0)]), (162, .cells 25 [.v (.slice none 0 0)]), (286, .arr 9 1 (v1268.length) (es (v1268))), (369, .cells 22 [.v (.slice none 0 0)])] 0 (fun H => ?_)
              refine And.intro ?_ ?_
              · refine R.loop_fam (bind_st H) [0, 6, 7, 8] [] (fun _ s1284 => []) (fun _ s1284 => []) 0 (fun n1289 H => ?_)
                refine ⟨(n1289, _), ⟨H⟩, ⟨trivial⟩, ?_⟩
                repeat refine mo1_LiftM6 ?_
                rintro ⟨m0, s1284⟩ H _
                obtain ⟨m1285, hm0, H⟩ := IG_succ H
                dsimp only at hm0
                subst hm0
                try dsimp only at H
                refine if_st H (fun h1288 H => ?_) (fun h1288 H => ?_)
                · exact absurd (ck_st H).1 (by omega)
                · replace H := some_st H
                  dsimp only [stp, sm] at H
                  refine ⟨(), ⟨H⟩, ⟨rfl⟩, ?_⟩
                  repeat refine mo1_LiftM6 ?_
                  first | exact trivial | exact rfl
              · intro v1280 H
                refine ob_ck H fun h1290 H => ?_
                refine ob_ck H fun h1291 H => ?_
                refine ob_ck H fun h1292 H => ?_
                refine ob_ck H fun h1293 H => ?_
                refine if_st H (fun h1294 H => ?_) (fun h1294 H => ?_)
                · replace H := some_st H
                  dsimp only [stp, sm] at H
                  have hfin := fin_st H
                  repeat refine mf1_LiftM6 ?_
                  first | exact trivial | exact rfl
                · refine R.cut_fam H 484 [3] [] (fun v1303 => []) (fun v1303 => []) [(4, .cells 43 [.v (.int .i64 (0)), .v (.slice none 0 0), .v (.int .i64 (0)), .v (.int .i64 (0))]), (5, .cells 23 [.v (.pointer none), .lp 4 0]), (62, .arr 9 1 (v1226.length) (es (v1226))), (63, .cells 23 [.v (.pointer none)]), (64, .cells 25 [.own 62]), (65, .cells 3 [.v (.int .i64 (0))]), (66, .cells 4 [.bb false]), (98, .cells 23 [.v (.pointer none)]), (102, .cells 3 [.v (.int .i64 (3))]), (108, .cells 22 [.v (.slice none 0 0)]), (109, .cells 25 [.v (.slice none 0 0)]), (151, .cells 23 [.v (.pointer none)]), (155, .cells 3 [.v (.int .i64 (3))]), (161, .cells 22 [.v (.slice none 0 0)]), (162, .cells 25 [.v (.slice none 0 0)]), (286, .arr 9 1 (v1268.length) (es (v1268))), (369, .cells 22 [.v (.slice none 0 0)]), (452, .cells 88 [.v (.pointer none), .v (.slice none 0 0)])] 0 (fun H => ?_)
                  refine And.intro ?_ ?_
                  · refine R.loop_fam (bind_st H) [0, 6, 7, 8] [] (fun _ s1307 => []) (fun _ s1307 => []) 0 (fun n1312 H => ?_)
                    refine ⟨(n1312, _), ⟨H⟩, ⟨trivial⟩, ?_⟩
                    repeat refine mo1_LiftM6 ?_
                    rintro ⟨m0, s1307⟩ H _
                    obtain ⟨m1308, hm0, H⟩ := IG_succ H
                    dsimp only at hm0
                    subst hm0
                    try dsimp only at H
                    refine if_st H (fun h1311 H => ?_) (fun h1311 H => ?_)
                    · exact absurd (ck_st H).1 (by omega)
                    · replace H := some_st H
                      dsimp only [stp, sm] at H
                      refine ⟨(), ⟨H⟩, ⟨rfl⟩, ?_⟩
                      repeat refine mo1_LiftM6 ?_
                      first | exact trivial | exact rfl
                  · intro v1303 H
                    obtain ⟨v1313, hv1314, H⟩ := call_st H
                    refine ⟨([], v1313), ⟨hv1314⟩, ⟨trivial⟩, ?_⟩
                    refine And.intro ⟨rfl⟩ ?_
                    refine mo1_LiftM6 ?_
                    refine if_st H (fun h1315 H => ?_) (fun h1315 H => ?_)
                    · replace H := some_st H
                      dsimp only [stp, sm] at H
                      have hfin := fin_st H
                      repeat refine mf1_LiftM6 ?_
                      first | exact trivial | exact rfl
                    · refine ob_ck H fun h1316 H => ?_
                      replace H := some_st H
                      refine ⟨(m849, s848 + 1), ⟨H, Nat.lt_succ_self _⟩, ⟨trivial⟩, ⟨rfl⟩, ?_⟩
                      repeat refine mo1_LiftM6 ?_
                      first | exact trivial | exact rfl
      · refine ix_st (fun hc => by omega) H (fun h1317 H => ?_) (fun H => ?_)
        · refine And.intro (fun _ => ?_) (fun h => absurd (by decide) h)
          obtain ⟨v1318, hv1319, H⟩ := call_st H
          refine ⟨(a0, v1318), ⟨hv1319⟩, ⟨trivial⟩, ?_⟩
          refine And.intro ⟨rfl, hc0, es_len.trans ((show _ = _ from rfl).trans (Nat.mul_one _).symm), hR0⟩ ?_
          refine And.intro (fun _ => ?_) (fun h => absurd (by decide) h)
          refine R.cut_fam H 136 [7, 8] [] (fun v1328 => []) (fun v1328 => []) [(4, .cells 43 [.v (.int .i64 (0)), .v (.slice none 0 0), .v (.int .i64 (0)), .v (.int .i64 (0))]), (5, .cells 23 [.v (.pointer none), .lp 4 0]), (62, .arr 9 1 (v1318.length) (es (v1318))), (63, .cells 23 [.lp 4 0]), (64, .cells 25 [.own 62]), (65, .cells 3 [.v (.int .i64 (0))]), (66, .cells 4 [.bb false]), (98, .cells 23 [.lp 4 0]), (102, .cells 3 [.v (.int .i64 (3))]), (108, .cells 22 [.v (.slice none 0 0)]), (109, .cells 25 [.v (.slice none 0 0)])] 0 (fun H => ?_)
          refine And.intro ?_ ?_
          · refine And.intro (fun _ => ?_) (fun h => absurd (by decide) h)
            refine R.loop_fam (bind_st H) [0, 6, 7, 8] [] (fun _ s1332 => []) (fun _ s1332 => []) 0 (fun n1337 H => ?_)
            refine ⟨(n1337, _), ⟨H⟩, ⟨trivial⟩, ?_⟩
            repeat refine mo1_LiftM6 ?_
            rintro ⟨m0, s1332⟩ H _
            obtain ⟨m1333, hm0, H⟩ := IG_succ H
            dsimp only at hm0
            subst hm0
            try dsimp only at H
            refine if_st H (fun h1336 H => ?_) (fun h1336 H => ?_)
            · exact absurd (ck_st H).1 (by omega)
            · replace H := some_st H
              dsimp only [stp, sm] at H
              refine ⟨(), ⟨H⟩, ⟨rfl⟩, ?_⟩
              repeat refine mo1_LiftM6 ?_
              first | exact trivial | exact rfl
          · intro v1328 H
            refine And.intro ⟨by kernel_rfl⟩ ?_
            refine R.cut_fam H 209 [7, 8] [] (fun v1347 => []) (fun v1347 => []) [(4, .cells 43 [.v (.int .i64 (0)), .v (.slice none 0 0), .v (.int .i64 (0)), .v (.int .i64 (0))]), (5, .cells 23 [.v (.pointer none), .lp 4 0]), (62, .arr 9 1 (v1318.length) (es (v1318))), (63, .cells 23 [.lp 4 0]), (64, .cells 25 [.own 62]), (65, .cells 3 [.v (.int .i64 (0))]), (66, .cells 4 [.bb false]), (98, .cells 23 [.lp 4 0]), (102, .cells 3 [.v (.int .i64 (3))]), (108, .cells 22 [.v (.slice none 0 0)]), (109, .cells 25 [.v (.slice none 0 0)]), (151, .cells 23 [.lp 4 0]), (155, .cells 3 [.v (.int .i64 (3))]), (161, .cells 22 [.v (.slice none 0 0)]), (162, .cells 25 [.v (.slice none 0 0)])] 0 (fun H => ?_)
            refine And.intro ?_ ?_
            · refine And.intro (fun _ => ?_) (fun h => absurd (by decide) h)
              refine And.intro (fun _ => ?_) (fun h => absurd (by decide) h)
              refine ob_ck H fun h1349 H => ?_
              refine R.loop_fam (bind_st H) [0, 3, 4] [] (fun _ s1352 => []) (fun _ s1352 => []) 0 (fun n1357 H => ?_)
              refine ⟨(n1357, _), ⟨H⟩, ⟨trivial⟩, ?_⟩
              repeat refine mo1_LiftM6 ?_
              rintro ⟨m0, s1352⟩ H _
              obtain ⟨m1353, hm0, H⟩ := IG_succ H
              dsimp only at hm0
              subst hm0
              try dsimp only at H
              refine if_st H (fun h1356 H => ?_) (fun h1356 H => ?_)
              · exact absurd (ck_st H).1 (by omega)
              · replace H := some_st H
                dsimp only [stp, sm] at H
                refine ⟨(), ⟨H⟩, ⟨rfl⟩, ?_⟩
                repeat refine mo1_LiftM6 ?_
                first | exact trivial | exact rfl
            · intro v1347 H
              refine And.intro ⟨by kernel_rfl⟩ ?_
              refine ob_ck H fun h1358 H => ?_
              refine if_st H (fun h1359 H => ?_) (fun h1359 H => ?_)
              · replace H := some_st H
                dsimp only [stp, sm] at H
                have hfin := fin_st H
                repeat refine mf1_LiftM6 ?_
                first | exact trivial | exact rfl
              · obtain ⟨v1360, hv1361, H⟩ := call_st H
                refine ⟨(a0, v1360), ⟨hv1361⟩, ⟨trivial⟩, ?_⟩
                refine And.intro ⟨rfl, hc0, es_len.trans ((show _ = _ from rfl).trans (Nat.mul_one _).symm), hR0⟩ ?_
                refine And.intro (fun _ => ?_) (fun h => absurd (by decide) h)
                refine And.intro (fun h => absurd h (by decide)) (fun _ => ?_)
                refine And.intro (fun _ => ?_) (fun h => absurd (by decide) h)
                refine And.intro (fun h => absurd h (by decide)) (fun _ => ?_)
                refine And.intro (fun _ => ?_) (fun h => absurd (by decide) h)
                refine And.intro (fun _ => ?_) (fun h => absurd (by decide) h)
                refine ob_ck H fun h1362 H => ?_
                refine And.intro (fun _ => ?_) (fun h => absurd (by decide) h)
                refine ob_ck H fun h1363 H => ?_
                refine R.cut_fam H 401 [3] [] (fun v1372 => []) (fun v1372 => []) [(4, .cells 43 [.v (.int .i64 (0)), .v (.slice none 0 0), .v (.int .i64 (0)), .v (.int .i64 (0))]), (5, .cells 23 [.v (.pointer none), .lp 4 0]), (62, .arr 9 1 (v1318.length) (es (v1318))), (63, .cells 23 [.lp 4 0]), (64, .cells 25 [.own 62]), (65, .cells 3 [.v (.int .i64 (0))]), (66, .cells 4 [.bb false]), (98, .cells 23 [.lp 4 0]), (102, .cells 3 [.v (.int .i64 (3))]), (108, .cells 22 [.v (.slice none 0 0)]), (109, .cells 25 [.v (.slice none 0 0)]), (151, .cells 23 [.lp 4 0]), (155, .cells 3 [.v (.int .i64 (3))]), (161, .cells 22 [.v (.slice none 0 0)]), (162, .cells 25 [.v (.slice none 0 0)]), (286, .arr 9 1 (v1360.length) (es (v1360))), (369, .cells 22 [.v (.slice none 0 0)])] 0 (fun H => ?_)
                refine And.intro ?_ ?_
                · refine And.intro (fun _ => ?_) (fun h => absurd (by decide) h)
                  refine R.loop_fam (bind_st H) [0, 6, 7, 8] [] (fun _ s1376 => []) (fun _ s1376 => []) 0 (fun n1381 H => ?_)
                  refine ⟨(n1381, _), ⟨H⟩, ⟨trivial⟩, ?_⟩
                  repeat refine mo1_LiftM6 ?_
                  rintro ⟨m0, s1376⟩ H _
                  obtain ⟨m1377, hm0, H⟩ := IG_succ H
                  dsimp only at hm0
                  subst hm0
                  try dsimp only at H
                  refine if_st H (fun h1380 H => ?_) (fun h1380 H => ?_)
                  · exact absurd (ck_st H).1 (by omega)
                  · replace H := some_st H
                    dsimp only [stp, sm] at H
                    refine ⟨(), ⟨H⟩, ⟨rfl⟩, ?_⟩
                    repeat refine mo1_LiftM6 ?_
                    first | exact trivial | exact rfl
                · intro v1372 H
                  refine ob_ck H fun h1382 H => ?_
                  refine And.intro (fun _ => ?_) (fun h => absurd (by decide) h)
                  refine ob_ck H fun h1383 H => ?_
                  refine And.intro (fun _ => ?_) (fun h => absurd (by decide) h)
                  refine ob_ck H fun h1384 H => ?_
                  refine And.intro (fun _ => ?_) (fun h => absurd (by decide) h)
                  refine ob_ck H fun h1385 H => ?_
                  refine if_st H (fun h1386 H => ?_) (fun h1386 H => ?_)
                  · replace H := some_st H
                    dsimp only [stp, sm] at H
                    have hfin := fin_st H
                    repeat refine mf1_LiftM6 ?_
                    first | exact trivial | exact rfl
                  · refine R.cut_fam H 484 [3] [] (fun v1395 => []) (fun v1395 => []) [(4, .cells 43 [.v (.int .i64 (0)), .v (.slice none 0 0), .v (.int .i64 (0)), .v (.int .i64 (0))]), (5, .cells 23 [.v (.pointer none), .lp 4 0]), (62, .arr 9 1 (v1318.length) (es (v1318))), (63, .cells 23 [.lp 4 0]), (64, .cells 25 [.own 62]), (65, .cells 3 [.v (.int .i64 (0))]), (66, .cells 4 [.bb false]), (98, .cells 23 [.lp 4 0]), (102, .cells 3 [.v (.int .i64 (3))]), (108, .cells 22 [.v (.slice none 0 0)]), (109, .cells 25 [.v (.slice none 0 0)]), (151, .cells 23 [.lp 4 0]), (155, .cells 3 [.v (.int .i64 (3))]), (161, .cells 22 [.v (.slice none 0 0)]), (162, .cells 25 [.v (.slice none 0 0)]), (286, .arr 9 1 (v1360.length) (es (v1360))), (369, .cells 22 [.v (.slice none 0 0)]), (452, .cells 88 [.v (.pointer none), .v (.slice none 0 0)])] 0 (fun H => ?_)
                    refine And.intro ?_ ?_
                    · refine And.intro (fun _ => ?_) (fun h => absurd (by decide) h)
                      refine R.loop_fam (bind_st H) [0, 6, 7, 8] [] (fun _ s1399 => []) (fun _ s1399 => []) 0 (fun n1404 H => ?_)
                      refine ⟨(n1404, _), ⟨H⟩, ⟨trivial⟩, ?_⟩
                      repeat refine mo1_LiftM6 ?_
                      rintro ⟨m0, s1399⟩ H _
                      obtain ⟨m1400, hm0, H⟩ := IG_succ H
                      dsimp only at hm0
                      subst hm0
                      try dsimp only at H
                      refine if_st H (fun h1403 H => ?_) (fun h1403 H => ?_)
                      · exact absurd (ck_st H).1 (by omega)
                      · replace H := some_st H
                        dsimp only [stp, sm] at H
                        refine ⟨(), ⟨H⟩, ⟨rfl⟩, ?_⟩
                        repeat refine mo1_LiftM6 ?_
                        first | exact trivial | exact rfl
                    · intro v1395 H
                      obtain ⟨v1405, hv1406, H⟩ := call_st H
                      refine ⟨([], v1405), ⟨hv1406⟩, ⟨trivial⟩, ?_⟩
                      refine And.intro ⟨rfl⟩ ?_
                      refine mo1_LiftM6 ?_
                      refine if_st H (fun h1407 H => ?_) (fun h1407 H => ?_)
                      · replace H := some_st H
                        dsimp only [stp, sm] at H
                        have hfin := fin_st H
                        repeat refine mf1_LiftM6 ?_
                        first | exact trivial | exact rfl
                      · refine And.intro (fun _ => ?_) (fun h => absurd (by decide) h)
                        refine ob_ck H fun h1408 H => ?_
                        replace H := some_st H
                        refine ⟨(m849, s848 + 1), ⟨H, Nat.lt_succ_self _⟩, ⟨trivial⟩, ⟨rfl⟩, ?_⟩
                        repeat refine mo1_LiftM6 ?_
                        first | exact trivial | exact rfl
        · exact trivial
    · replace H := some_st H
      dsimp only [stp, sm] at H
      refine ⟨(), ⟨H⟩, ⟨rfl⟩, ?_⟩
      repeat refine mo1_LiftM6 ?_
      first | exact trivial | exact rfl
  · intro v844 H
    obtain ⟨v1412, hv1413, H⟩ := call_st H
    refine ⟨v1412, ⟨hv1413⟩, ⟨trivial⟩, ?_⟩
    have hfin := fin_st H
    repeat refine mf1_LiftM6 ?_
    first | exact trivial | exact rfl

end Go.Proofs.Ytenjkphlbdhaiaa
