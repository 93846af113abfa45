/-
  Functions of the program, lifted: each with its walk. Printed by lift.py.
  Nothing here is trusted.
-/
import Derived.Test.YtenjkphlbdhaiaaDoorLiftD1
set_option linter.unusedVariables false
set_option linter.unusedSimpArgs false
namespace Go.Proofs.YtenjkphlbdhaiaaDoor
open Go Go.Eng

theorem mo1_LiftD2 {p q : Prop} (k : q) (h : p := by first | exact rfl | exact Iff.rfl | exact ⟨rfl, rfl⟩ | exact decide_eq_true_iff | (constructor <;> first | exact rfl | (simp only [ei, eb, es, ec, List.map_append, List.flatMap_append, List.nil_append, List.append_nil, List.append_assoc]; done) | omega | (simp only [List.nil_append, List.length_append, List.length_cons, List.length_nil]; omega) | (simp [ei, eb, es, ec]; done)) | exact rfl | (simp only [ei, eb, es, ec, List.map_append, List.flatMap_append, List.nil_append, List.append_nil, List.append_assoc]; done) | omega | (simp only [List.nil_append, List.length_append, List.length_cons, List.length_nil]; omega) | (simp [ei, eb, es, ec]; done) | simp [ei, eb, es, ec]) : Ob p ∧ q := ⟨⟨h⟩, k⟩
theorem mf1_LiftD2 {p q : Prop} (k : q) (h : p := by first | (rw [← hfin] <;> first | exact rfl | exact Iff.rfl | exact ⟨rfl, rfl⟩ | exact decide_eq_true_iff | (constructor <;> first | exact rfl | (simp only [ei, eb, es, ec, List.map_append, List.flatMap_append, List.nil_append, List.append_nil, List.append_assoc]; done) | omega | (simp only [List.nil_append, List.length_append, List.length_cons, List.length_nil]; omega) | (simp [ei, eb, es, ec]; done)) | exact rfl | (simp only [ei, eb, es, ec, List.map_append, List.flatMap_append, List.nil_append, List.append_nil, List.append_assoc]; done) | omega | (simp only [List.nil_append, List.length_append, List.length_cons, List.length_nil]; omega) | (simp [ei, eb, es, ec]; done) | simp [ei, eb, es, ec]) | first | exact rfl | exact Iff.rfl | exact ⟨rfl, rfl⟩ | exact decide_eq_true_iff | (constructor <;> first | exact rfl | (simp only [ei, eb, es, ec, List.map_append, List.flatMap_append, List.nil_append, List.append_nil, List.append_assoc]; done) | omega | (simp only [List.nil_append, List.length_append, List.length_cons, List.length_nil]; omega) | (simp [ei, eb, es, ec]; done)) | exact rfl | (simp only [ei, eb, es, ec, List.map_append, List.flatMap_append, List.nil_append, List.append_nil, List.append_assoc]; done) | omega | (simp only [List.nil_append, List.length_append, List.length_cons, List.length_nil]; omega) | (simp [ei, eb, es, ec]; done) | simp [ei, eb, es, ec]) : Ob p ∧ q := ⟨⟨h⟩, k⟩
/-- placard/runes.Text -/
noncomputable def g39 (a0 : List Int) : Option (ByteArray) :=
  ck (0 ≤ (0 : Int) ∧ (0 : Int) ≤ ((a0.length : Nat) : Int) ∧ ((a0.length : Nat) : Int) ≤ 9223372036854775807 ∧ ((a0.length : Nat) : Int) * ((1 : Nat) : Int) ≤ 140737488355328) <|
  jn (α := _) (β := List Int) (fun k101 =>
      (loopO (σ := List Int × Int) (ρ := List Int) (fun s104 =>
          if s104.2 < ((a0.length : Nat) : Int) then
            (
              ck (0 ≤ s104.2 ∧ s104.2 ≤ ((a0.length : Nat) : Int) ∧ ((a0.length : Nat) : Int) ≤ ((a0.length : Nat) : Int)) <|
              (g53 ((a0.drop s104.2.toNat).take (((a0.length : Nat) : Int).toNat - s104.2.toNat))).bind fun v160 =>
              if v160.2.2 = true then
                (
                  (g51 65533).bind fun v163 =>
                  ck ((s104.1.length + v163.length) * 1 ≤ 140737488355328) <|
                  ck (inR .i64 (s104.2 + 1)) <|
                  some (.go ((s104.1 ++ v163), s104.2 + 1))
                )
              else
                (
                  (g51 v160.1).bind fun v171 =>
                  ck ((s104.1.length + v171.length) * 1 ≤ 140737488355328) <|
                  ck (inR .i64 (s104.2 + v160.2.1)) <|
                  some (.go ((s104.1 ++ v171), s104.2 + v160.2.1))
                )
            )
          else
            some (.out s104.1)
        ) ((List.replicate (0 : Int).toNat 0), 0)).bind fun o154 =>
        k101 o154
  ) (fun v100 =>
    ck (isBytes v100) <|
    some (strOf v100)
  )
noncomputable def k39 : Eng.CS := { f := 39, calm := true, more := 0, ι := (List Int) × ByteArray, ok := fun i => g39 i.1 = some i.2, rds := fun _ => [], args := fun i => [.sl 1 i.1.length (ei .u8 i.1)], res := fun i => .v (.string (i.2)) }
set_option maxRecDepth 8000 in
set_option maxHeartbeats 4000000 in
theorem k39_ok : CalmOk Tryd.prog k39 := by
  refine R.calmspec Tryd.func39 nm39 rfl ?_
  rintro ⟨a0, r⟩ hok q _ args hargs
  match args, hargs with
  | [_], hargs =>
  obtain ⟨⟨A0, cp0, rfl, hc0, _, hR0⟩, _⟩ := hargs
  refine ⟨envC [k51, k53] false [(39, 5)], 6, envC_ok (css_cons ⟨fun h => (by cases h), fun _ => k51_ok⟩ (css_cons ⟨fun _ => k53_ok, fun h => (by cases h)⟩ (css_nil))), rfl, (by intro x hx; simp only [List.mem_cons, List.not_mem_nil, or_false] at hx; rcases hx with rfl <;> rfl), ?_⟩
  have H : Gives (g39 a0) (fun a => a = r) := ⟨r, hok, rfl⟩
  unfold g39 at H
  clear hok
  refine ob_ck H fun h5 H => ?_
  intro n1 zs3 hn2 hz4
  subst hn2 hz4
  refine R.cut_fam H 23 [3] [] (fun v100 => []) (fun v100 => [(4, .cells 22 [.own 23]), (23, .arr 5 1 (v100.length) (ei .u8 (v100)))]) [] 1 (fun H => ?_)
  refine And.intro ?_ ?_
  · refine R.loop_fam (bind_st H) [0, 1] [] (fun _ s104 => [(3, .v (.int .i64 (s104.2)))]) (fun _ s104 => [(4, .cells 22 [.own 15]), (15, .arr 5 1 (s104.1.length) (ei .u8 (s104.1)))]) 1 (fun n179 H => ?_)
    refine ⟨(n179, _), ⟨H⟩, ⟨trivial⟩, ?_⟩
    repeat refine mo1_LiftD2 ?_
    rintro ⟨m0, s104⟩ H _
    obtain ⟨m105, hm0, H⟩ := IG_succ H
    dsimp only at hm0
    subst hm0
    try dsimp only at H
    refine if_st H (fun h155 H => ?_) (fun h155 H => ?_)
    · refine ob_sl hc0 H fun h156 H => ?_
      have hs157 := sl_ei hR0 rfl hc0 h156
      intro n158 hn159
      subst hn159
      obtain ⟨v160, hv161, H⟩ := call_st H
      refine ⟨(((a0.drop s104.2.toNat).take (((a0.length : Nat) : Int).toNat - s104.2.toNat)), v160), ⟨hv161⟩, ⟨trivial⟩, ?_⟩
      refine And.intro ⟨(hs157.2.1).symm, hs157.2.2, ei_len.trans ((show _ = _ from hs157.2.1).trans (Nat.mul_one _).symm), hs157.1⟩ ?_
      refine if_st H (fun h162 H => ?_) (fun h162 H => ?_)
      · refine And.intro ⟨by kernel_rfl⟩ ?_
        refine ⟨(Pn.calm 0 (Pn.calm 1 (Pn.eff 2 [1] (Pn.eff 3 [0, 2, 1] (Pn.eff 4 [3, 0, 1, 2] Pn.done Pn.no) Pn.no) Pn.no))), ⟨by kernel_rfl⟩, ?_⟩
        refine And.intro ?_ trivial
        obtain ⟨v163, hv164, H⟩ := call_st H
        refine ⟨(65533, v163), ⟨hv164⟩, ⟨trivial⟩, ?_⟩
        refine And.intro ⟨rfl⟩ ?_
        refine And.intro ⟨fun _ _ _ h => h⟩ ?_
        refine And.intro ?_ trivial
        refine ob_app (by decide) (by first | exact ei_one | ((repeat (refine List.forall_mem_cons.2 ⟨rfl, ?_⟩)); intro y hy; cases hy; done) | (intro y hy; simp [ei, eb, es, ec] at hy; (first | (rcases hy with rfl | hy) | subst hy | skip); all_goals first | rfl | simp_all [Value.oneCell'])) H fun h165 H => ?_
        intro n166 zs168 hn167 hz169
        subst hn167 hz169
        refine And.intro ⟨fun _ _ _ h => h⟩ ?_
        refine And.intro ?_ trivial
        refine And.intro ⟨fun _ _ _ h => h⟩ ?_
        refine ob_ck H fun h170 H => ?_
        replace H := some_st H
        refine ⟨(m105, ((s104.1 ++ v163), s104.2 + 1)), ⟨H, Nat.lt_succ_self _⟩, ⟨trivial⟩, ⟨rfl⟩, ?_⟩
        repeat refine mo1_LiftD2 ?_
        first | exact trivial | exact rfl
      · refine And.intro ⟨by kernel_rfl⟩ ?_
        refine ⟨(Pn.calm 0 (Pn.calm 1 (Pn.eff 2 [1] (Pn.eff 3 [0, 2, 1] (Pn.eff 4 [3, 0, 1, 2] Pn.done Pn.no) Pn.no) Pn.no))), ⟨by kernel_rfl⟩, ?_⟩
        refine And.intro ?_ trivial
        obtain ⟨v171, hv172, H⟩ := call_st H
        refine ⟨(v160.1, v171), ⟨hv172⟩, ⟨trivial⟩, ?_⟩
        refine And.intro ⟨rfl⟩ ?_
        refine And.intro ⟨fun _ _ _ h => h⟩ ?_
        refine And.intro ?_ trivial
        refine ob_app (by decide) (by first | exact ei_one | ((repeat (refine List.forall_mem_cons.2 ⟨rfl, ?_⟩)); intro y hy; cases hy; done) | (intro y hy; simp [ei, eb, es, ec] at hy; (first | (rcases hy with rfl | hy) | subst hy | skip); all_goals first | rfl | simp_all [Value.oneCell'])) H fun h173 H => ?_
        intro n174 zs176 hn175 hz177
        subst hn175 hz177
        refine And.intro ⟨fun _ _ _ h => h⟩ ?_
        refine And.intro ?_ trivial
        refine And.intro ⟨fun _ _ _ h => h⟩ ?_
        refine ob_ck H fun h178 H => ?_
        replace H := some_st H
        refine ⟨(m105, ((s104.1 ++ v171), s104.2 + v160.2.1)), ⟨H, Nat.lt_succ_self _⟩, ⟨trivial⟩, ⟨rfl⟩, ?_⟩
        repeat refine mo1_LiftD2 ?_
        first | exact trivial | exact rfl
    · replace H := some_st H
      dsimp only [stp, sm] at H
      refine ⟨s104.1, ⟨H⟩, ⟨rfl⟩, ?_⟩
      repeat refine mo1_LiftD2 ?_
      first | exact trivial | exact rfl
  · intro v100 H
    refine ob_str (l := v100) H fun h180 H => ?_
    have hfin := fin_st H
    repeat refine mf1_LiftD2 ?_
    first | exact trivial | exact rfl

/-- placard/placardref01.Runes -/
noncomputable def g33 (a0 : List Int) : Option (List Int × List Int) :=
  jn (α := _) (β := List Int × List Int) (fun k280 =>
      (loopO (σ := List Int × List Int × Int) (ρ := List Int × List Int) (fun s283 =>
          if s283.2.2 < ((a0.length : Nat) : Int) then
            (
              ck (0 ≤ s283.2.2 ∧ s283.2.2 ≤ ((a0.length : Nat) : Int) ∧ ((a0.length : Nat) : Int) ≤ ((a0.length : Nat) : Int)) <|
              (g44 ((a0.drop s283.2.2.toNat).take (((a0.length : Nat) : Int).toNat - s283.2.2.toNat))).bind fun v351 =>
              if v351.2.2 = true then
                (
                  ck ((s283.1.length + 1) * 4 ≤ 140737488355328) <|
                  ck ((s283.2.1.length + 1) * 8 ≤ 140737488355328) <|
                  ck (inR .i64 (s283.2.2 + 1)) <|
                  some (.go ((s283.1 ++ [65533]), (s283.2.1 ++ [s283.2.2]), s283.2.2 + 1))
                )
              else
                (
                  ck ((s283.1.length + 1) * 4 ≤ 140737488355328) <|
                  ck ((s283.2.1.length + 1) * 8 ≤ 140737488355328) <|
                  ck (inR .i64 (s283.2.2 + v351.2.1)) <|
                  some (.go ((s283.1 ++ [v351.1]), (s283.2.1 ++ [s283.2.2]), s283.2.2 + v351.2.1))
                )
            )
          else
            some (.out (s283.1, s283.2.1))
        ) ([], [], 0)).bind fun o345 =>
        k280 (o345.1, o345.2)
  ) (fun v279 =>
    some (v279.1, v279.2)
  )
noncomputable def k33 : Eng.CS := { f := 33, calm := false, more := 2, ι := (List Int) × (List Int × List Int), ok := fun i => g33 i.1 = some i.2, rds := fun _ => [], args := fun i => [.sl 1 i.1.length (ei .u8 i.1)], res := fun i => .tup [.own 0, .own 1], L' := fun i => [(0, .arr 21 1 i.2.1.length (ei .i32 i.2.1)), (1, .arr 3 1 i.2.2.length (ei .i64 i.2.2))], rn := [(0, 0, 21, 1), (1, 0, 3, 1)] }
set_option maxRecDepth 8000 in
set_option maxHeartbeats 4000000 in
theorem k33_ok : CSOk Tryd.prog k33 := by
  refine R.cspec Tryd.func33 nm33 rfl ?_
  rintro ⟨a0, r⟩ hok q _ args hargs
  match args, hargs with
  | [_], hargs =>
  obtain ⟨⟨A0, cp0, rfl, hc0, _, hR0⟩, _⟩ := hargs
  refine ⟨envC [k44] false [(33, 10)], 6, envC_ok (css_cons ⟨fun _ => k44_ok, fun h => (by cases h)⟩ (css_nil)), ?_⟩
  have H : Gives (g33 a0) (fun a => a = r) := ⟨r, hok, rfl⟩
  unfold g33 at H
  clear hok
  refine R.cut_fam H 17 [] [] (fun v279 => [(4, .own 17), (5, .own 18)]) (fun v279 => [(17, .arr 21 1 (v279.1.length) (ei .i32 (v279.1))), (18, .arr 3 1 (v279.2.length) (ei .i64 (v279.2)))]) [] 2 (fun H => ?_)
  refine And.intro ?_ ?_
  · refine R.loop_fam (bind_st H) [0] [(4, 0, 21, 1), (5, 0, 3, 1)] (fun _ s283 => [(4, .own 7), (5, .own 8), (6, .v (.int .i64 (s283.2.2)))]) (fun _ s283 => [(7, .arr 21 1 (s283.1.length) (ei .i32 (s283.1))), (8, .arr 3 1 (s283.2.1.length) (ei .i64 (s283.2.1)))]) 2 (fun n376 H => ?_)
    refine ⟨(n376, _), ⟨H⟩, ⟨trivial⟩, ?_⟩
    repeat refine mo1_LiftD2 ?_
    rintro ⟨m0, s283⟩ H _
    obtain ⟨m284, hm0, H⟩ := IG_succ H
    dsimp only at hm0
    subst hm0
    try dsimp only at H
    refine if_st H (fun h346 H => ?_) (fun h346 H => ?_)
    · refine ob_sl hc0 H fun h347 H => ?_
      have hs348 := sl_ei hR0 rfl hc0 h347
      intro n349 hn350
      subst hn350
      obtain ⟨v351, hv352, H⟩ := call_st H
      refine ⟨(((a0.drop s283.2.2.toNat).take (((a0.length : Nat) : Int).toNat - s283.2.2.toNat)), v351), ⟨hv352⟩, ⟨trivial⟩, ?_⟩
      refine And.intro ⟨(hs348.2.1).symm, hs348.2.2, ei_len.trans ((show _ = _ from hs348.2.1).trans (Nat.mul_one _).symm), hs348.1⟩ ?_
      refine if_st H (fun h353 H => ?_) (fun h353 H => ?_)
      · refine ob_app (by decide) (by first | exact ei_one | ((repeat (refine List.forall_mem_cons.2 ⟨rfl, ?_⟩)); intro y hy; cases hy; done) | (intro y hy; simp [ei, eb, es, ec] at hy; (first | (rcases hy with rfl | hy) | subst hy | skip); all_goals first | rfl | simp_all [Value.oneCell'])) H fun h354 H => ?_
        intro n355 zs357 hn356 hz358
        subst hn356 hz358
        refine ob_app (by decide) (by first | exact ei_one | ((repeat (refine List.forall_mem_cons.2 ⟨rfl, ?_⟩)); intro y hy; cases hy; done) | (intro y hy; simp [ei, eb, es, ec] at hy; (first | (rcases hy with rfl | hy) | subst hy | skip); all_goals first | rfl | simp_all [Value.oneCell'])) H fun h359 H => ?_
        intro n360 zs362 hn361 hz363
        subst hn361 hz363
        refine ob_ck H fun h364 H => ?_
        replace H := some_st H
        refine ⟨(m284, ((s283.1 ++ [65533]), (s283.2.1 ++ [s283.2.2]), s283.2.2 + 1)), ⟨H, Nat.lt_succ_self _⟩, ⟨trivial⟩, ⟨rfl⟩, ?_⟩
        repeat refine mo1_LiftD2 ?_
        first | exact trivial | exact rfl
      · refine ob_app (by decide) (by first | exact ei_one | ((repeat (refine List.forall_mem_cons.2 ⟨rfl, ?_⟩)); intro y hy; cases hy; done) | (intro y hy; simp [ei, eb, es, ec] at hy; (first | (rcases hy with rfl | hy) | subst hy | skip); all_goals first | rfl | simp_all [Value.oneCell'])) H fun h365 H => ?_
        intro n366 zs368 hn367 hz369
        subst hn367 hz369
        refine ob_app (by decide) (by first | exact ei_one | ((repeat (refine List.forall_mem_cons.2 ⟨rfl, ?_⟩)); intro y hy; cases hy; done) | (intro y hy; simp [ei, eb, es, ec] at hy; (first | (rcases hy with rfl | hy) | subst hy | skip); all_goals first | rfl | simp_all [Value.oneCell'])) H fun h370 H => ?_
        intro n371 zs373 hn372 hz374
        subst hn372 hz374
        refine ob_ck H fun h375 H => ?_
        replace H := some_st H
        refine ⟨(m284, ((s283.1 ++ [v351.1]), (s283.2.1 ++ [s283.2.2]), s283.2.2 + v351.2.1)), ⟨H, Nat.lt_succ_self _⟩, ⟨trivial⟩, ⟨rfl⟩, ?_⟩
        repeat refine mo1_LiftD2 ?_
        first | exact trivial | exact rfl
    · replace H := some_st H
      dsimp only [stp, sm] at H
      refine ⟨(s283.1, s283.2.1), ⟨H⟩, ⟨rfl⟩, ?_⟩
      repeat refine mo1_LiftD2 ?_
      first | exact trivial | exact rfl
  · intro v279 H
    have hfin := fin_st H
    repeat refine mf1_LiftD2 ?_
    first | exact trivial | exact rfl

/-- placard/placardref01.Text -/
noncomputable def g26 (a0 : List Int) : Option (ByteArray) :=
  (g33 a0).bind fun v377 =>
  jn (α := _) (β := List Int) (fun k425 =>
      (loopO (σ := List Int × Int) (ρ := List Int) (fun s428 =>
          if s428.2 < ((v377.1.length : Nat) : Int) then
            (
              ck (0 ≤ s428.2 ∧ s428.2 < ((v377.1.length : Nat) : Int)) <|
              (g34 (v377.1.getD s428.2.toNat 0)).bind fun v453 =>
              ck ((s428.1.length + v453.length) * 1 ≤ 140737488355328) <|
              ck (inR .i64 (s428.2 + 1)) <|
              some (.go ((s428.1 ++ v453), s428.2 + 1))
            )
          else
            some (.out s428.1)
        ) ([], 0)).bind fun o450 =>
        k425 o450
  ) (fun v424 =>
    ck (isBytes v424) <|
    some (strOf v424)
  )
noncomputable def k26 : Eng.CS := { f := 26, calm := true, more := 0, ι := (List Int) × ByteArray, ok := fun i => g26 i.1 = some i.2, rds := fun _ => [], args := fun i => [.sl 1 i.1.length (ei .u8 i.1)], res := fun i => .v (.string (i.2)) }
set_option maxRecDepth 8000 in
set_option maxHeartbeats 4000000 in
theorem k26_ok : CalmOk Tryd.prog k26 := by
  refine R.calmspec Tryd.func26 nm26 rfl ?_
  rintro ⟨a0, r⟩ hok q _ args hargs
  match args, hargs with
  | [_], hargs =>
  obtain ⟨⟨A0, cp0, rfl, hc0, _, hR0⟩, _⟩ := hargs
  refine ⟨envC [k33, k34] false [(26, 7)], 6, envC_ok (css_cons ⟨fun h => (by cases h), fun _ => k33_ok⟩ (css_cons ⟨fun h => (by cases h), fun _ => k34_ok⟩ (css_nil))), rfl, (by intro x hx; simp only [List.mem_cons, List.not_mem_nil, or_false] at hx; rcases hx with rfl <;> rfl), ?_⟩
  have H : Gives (g26 a0) (fun a => a = r) := ⟨r, hok, rfl⟩
  unfold g26 at H
  clear hok
  obtain ⟨v377, hv378, H⟩ := call_st H
  refine ⟨(a0, v377), ⟨hv378⟩, ⟨trivial⟩, ?_⟩
  refine And.intro ⟨rfl, hc0, ei_len.trans ((show _ = _ from rfl).trans (Nat.mul_one _).symm), hR0⟩ ?_
  refine R.cut_fam H 21 [] [] (fun v424 => [(3, .own 21)]) (fun v424 => [(21, .arr 5 1 (v424.length) (ei .u8 (v424)))]) [(9, .arr 21 1 (v377.1.length) (ei .i32 (v377.1))), (10, .arr 3 1 (v377.2.length) (ei .i64 (v377.2)))] 1 (fun H => ?_)
  refine And.intro ?_ ?_
  · refine R.loop_fam (bind_st H) [4] [(3, 0, 5, 1)] (fun _ s428 => [(3, .own 13), (6, .v (.int .i64 (s428.2)))]) (fun _ s428 => [(13, .arr 5 1 (s428.1.length) (ei .u8 (s428.1)))]) 1 (fun n461 H => ?_)
    refine ⟨(n461, _), ⟨H⟩, ⟨trivial⟩, ?_⟩
    repeat refine mo1_LiftD2 ?_
    rintro ⟨m0, s428⟩ H _
    obtain ⟨m429, hm0, H⟩ := IG_succ H
    dsimp only at hm0
    subst hm0
    try dsimp only at H
    refine if_st H (fun h451 H => ?_) (fun h451 H => ?_)
    · refine ob_ck H fun h452 H => ?_
      refine ld_int (e := v377.1.getD s428.2.toNat 0) (own_get (ys := ei .i32 v377.1) (by first | rfl | simp [ei, eb, es, ec]) (ei_get (l := v377.1) (by first | exact tn h452 | (have := tn h452; simp at this ⊢; omega) | (have := tn h452; simp; omega)))) ?_
      obtain ⟨v453, hv454, H⟩ := call_st H
      refine ⟨(v377.1.getD s428.2.toNat 0, v453), ⟨hv454⟩, ⟨trivial⟩, ?_⟩
      refine And.intro ⟨rfl⟩ ?_
      refine ob_app (by decide) (by first | exact ei_one | ((repeat (refine List.forall_mem_cons.2 ⟨rfl, ?_⟩)); intro y hy; cases hy; done) | (intro y hy; simp [ei, eb, es, ec] at hy; (first | (rcases hy with rfl | hy) | subst hy | skip); all_goals first | rfl | simp_all [Value.oneCell'])) H fun h455 H => ?_
      intro n456 zs458 hn457 hz459
      subst hn457 hz459
      refine ob_ck H fun h460 H => ?_
      replace H := some_st H
      refine ⟨(m429, ((s428.1 ++ v453), s428.2 + 1)), ⟨H, Nat.lt_succ_self _⟩, ⟨trivial⟩, ⟨rfl⟩, ?_⟩
      repeat refine mo1_LiftD2 ?_
      first | exact trivial | exact rfl
    · replace H := some_st H
      dsimp only [stp, sm] at H
      refine ⟨s428.1, ⟨H⟩, ⟨rfl⟩, ?_⟩
      repeat refine mo1_LiftD2 ?_
      first | exact trivial | exact rfl
  · intro v424 H
    refine ob_str (l := v424) H fun h462 H => ?_
    have hfin := fin_st H
    repeat refine mf1_LiftD2 ?_
    first | exact trivial | exact rfl

end Go.Proofs.YtenjkphlbdhaiaaDoor
