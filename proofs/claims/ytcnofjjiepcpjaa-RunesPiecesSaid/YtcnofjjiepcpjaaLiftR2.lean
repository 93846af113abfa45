/-
  Functions of the program, lifted: each with its walk. Printed by lift.py.
  Nothing here is trusted.
-/
import Derived.Test.YtcnofjjiepcpjaaLiftR1
set_option linter.unusedVariables false
set_option linter.unusedSimpArgs false
namespace Go.Proofs.Ytcnofjjiepcpjaa
open Go Go.Eng

/-- placard/runes.Text -/
noncomputable def g32 (a0 : List Int) : Option (ByteArray) :=
  ck (0 ≤ (0 : Int) ∧ (0 : Int) ≤ ((a0.length : Nat) : Int) ∧ ((a0.length : Nat) : Int) ≤ 9223372036854775807 ∧ ((a0.length : Nat) : Int) * ((1 : Nat) : Int) ≤ 140737488355328) <|
  jn (α := _) (β := List Int) (fun k83 =>
      (loopO (σ := List Int × Int) (ρ := List Int) (fun s86 =>
          if s86.2 < ((a0.length : Nat) : Int) then
            (
              ck (0 ≤ s86.2 ∧ s86.2 ≤ ((a0.length : Nat) : Int) ∧ ((a0.length : Nat) : Int) ≤ ((a0.length : Nat) : Int)) <|
              (g15 ((a0.drop s86.2.toNat).take (((a0.length : Nat) : Int).toNat - s86.2.toNat))).bind fun v134 =>
              if v134.2.2 = true then
                (
                  (g17 65533).bind fun v137 =>
                  ck ((s86.1.length + v137.length) * 1 ≤ 140737488355328) <|
                  ck (inR .i64 (s86.2 + 1)) <|
                  some (.go ((s86.1 ++ v137), s86.2 + 1))
                )
              else
                (
                  (g17 v134.1).bind fun v143 =>
                  ck ((s86.1.length + v143.length) * 1 ≤ 140737488355328) <|
                  ck (inR .i64 (s86.2 + v134.2.1)) <|
                  some (.go ((s86.1 ++ v143), s86.2 + v134.2.1))
                )
            )
          else
            some (.out s86.1)
        ) ((List.replicate (0 : Int).toNat 0), 0)).bind fun o128 =>
        k83 o128
  ) (fun v82 =>
    ck (isBytes v82) <|
    some (strOf v82)
  )
noncomputable def k32 : Eng.CS := { f := 32, calm := true, more := 0, ι := (List Int) × ByteArray, ok := fun i => g32 i.1 = some i.2, rds := fun _ => [], args := fun i => [.sl 1 i.1.length (ei .u8 i.1)], res := fun i => .v (.string (i.2)) }
set_option maxRecDepth 8000 in
set_option maxHeartbeats 4000000 in
theorem k32_ok : CalmOk Try.prog k32 := by
  refine R.calmspec Try.func32 nm32 rfl ?_
  rintro ⟨a0, r⟩ hok q _ args hargs
  match args, hargs with
  | [_], hargs =>
  obtain ⟨⟨A0, cp0, rfl, hc0, _, hR0⟩, _⟩ := hargs
  refine ⟨envC [k15, k17] false [(32, 5)], 6, envC_ok (css_cons ⟨fun _ => k15_ok, fun h => (by cases h)⟩ (css_cons ⟨fun h => (by cases h), fun _ => k17_ok⟩ (css_nil))), rfl, (by intro x hx; simp only [List.mem_cons, List.not_mem_nil, or_false] at hx; rcases hx with rfl <;> rfl), ?_⟩
  have H : Gives (g32 a0) (fun a => a = r) := ⟨r, hok, rfl⟩
  unfold g32 at H
  clear hok
  refine ob_ck H fun h1 H => ?_
  refine R.cut_fam H 23 [3] [] (fun v82 => []) (fun v82 => [(4, .cells 22 [.own 23]), (23, .arr 5 1 (v82.length) (ei .u8 (v82)))]) [] 1 (fun H => ?_)
  refine And.intro ?_ ?_
  · refine R.loop_fam (bind_st H) [0, 1] [] (fun _ s86 => [(3, .v (.int .i64 (s86.2)))]) (fun _ s86 => [(4, .cells 22 [.own 15]), (15, .arr 5 1 (s86.1.length) (ei .u8 (s86.1)))]) 1 (fun n149 H => ?_)
    refine ⟨(n149, _), ⟨H⟩, ⟨trivial⟩, ?_⟩
    repeat (refine And.intro (Ob.mk (by first | exact rfl | exact Iff.rfl | exact ⟨rfl, rfl⟩ | exact decide_eq_true_iff | (refine ⟨?_, ?_⟩ <;> first | exact rfl | (simp only [ei, eb, es, ec, List.map_append, List.flatMap_append, List.nil_append, List.append_nil, List.append_assoc]; done) | omega | (simp only [List.nil_append, List.length_append, List.length_cons, List.length_nil]; omega) | (simp [ei, eb, es, ec]; done)) | (constructor <;> first | exact rfl | (simp only [ei, eb, es, ec, List.map_append, List.flatMap_append, List.nil_append, List.append_nil, List.append_assoc]; done) | omega | (simp only [List.nil_append, List.length_append, List.length_cons, List.length_nil]; omega) | (simp [ei, eb, es, ec]; done)) | exact rfl | (simp only [ei, eb, es, ec, List.map_append, List.flatMap_append, List.nil_append, List.append_nil, List.append_assoc]; done) | omega | (simp only [List.nil_append, List.length_append, List.length_cons, List.length_nil]; omega) | (simp [ei, eb, es, ec]; done) | simp [ei, eb, es, ec])) ?_)
    rintro ⟨m0, s86⟩ H _
    obtain ⟨m87, hm0, H⟩ := IG_succ H
    dsimp only at hm0
    subst hm0
    try dsimp only at H
    refine if_st H (fun h129 H => ?_) (fun h129 H => ?_)
    · refine ob_sl hc0 H fun h130 H => ?_
      have hs131 := sl_ei hR0 rfl hc0 h130
      intro n132 hn133
      subst hn133
      obtain ⟨v134, hv135, H⟩ := call_st H
      refine ⟨(((a0.drop s86.2.toNat).take (((a0.length : Nat) : Int).toNat - s86.2.toNat)), v134), ⟨hv135⟩, ⟨trivial⟩, ?_⟩
      refine And.intro ⟨(hs131.2.1).symm, hs131.2.2, ei_len.trans ((show _ = _ from hs131.2.1).trans (Nat.mul_one _).symm), hs131.1⟩ ?_
      refine if_st H (fun h136 H => ?_) (fun h136 H => ?_)
      · refine And.intro ⟨by kernel_rfl⟩ ?_
        refine ⟨(Pn.calm 0 (Pn.calm 1 (Pn.eff 2 [1] (Pn.eff 3 [0, 2, 1] (Pn.eff 4 [3, 0, 1, 2] Pn.done Pn.no) Pn.no) Pn.no))), ⟨by kernel_rfl⟩, ?_⟩
        refine And.intro ?_ trivial
        obtain ⟨v137, hv138, H⟩ := call_st H
        refine ⟨(65533, v137), ⟨hv138⟩, ⟨trivial⟩, ?_⟩
        refine And.intro ⟨rfl⟩ ?_
        refine And.intro ⟨rfl⟩ ?_
        refine And.intro ?_ trivial
        refine ob_app (by decide) (by first | exact ei_one | ((repeat (refine List.forall_mem_cons.2 ⟨rfl, ?_⟩)); intro y hy; cases hy; done) | (intro y hy; simp [ei, eb, es, ec] at hy; (first | (rcases hy with rfl | hy) | subst hy | skip); all_goals first | rfl | simp_all [Value.oneCell'])) H fun h139 H => ?_
        intro n140 hn141
        subst hn141
        refine And.intro ⟨rfl⟩ ?_
        refine And.intro ?_ trivial
        refine And.intro ⟨rfl⟩ ?_
        refine ob_ck H fun h142 H => ?_
        replace H := some_st H
        refine ⟨(m87, ((s86.1 ++ v137), s86.2 + 1)), ⟨H, Nat.lt_succ_self _⟩, ⟨trivial⟩, ⟨rfl⟩, ?_⟩
        repeat (refine And.intro (Ob.mk (by first | exact rfl | exact Iff.rfl | exact ⟨rfl, rfl⟩ | exact decide_eq_true_iff | (refine ⟨?_, ?_⟩ <;> first | exact rfl | (simp only [ei, eb, es, ec, List.map_append, List.flatMap_append, List.nil_append, List.append_nil, List.append_assoc]; done) | omega | (simp only [List.nil_append, List.length_append, List.length_cons, List.length_nil]; omega) | (simp [ei, eb, es, ec]; done)) | (constructor <;> first | exact rfl | (simp only [ei, eb, es, ec, List.map_append, List.flatMap_append, List.nil_append, List.append_nil, List.append_assoc]; done) | omega | (simp only [List.nil_append, List.length_append, List.length_cons, List.length_nil]; omega) | (simp [ei, eb, es, ec]; done)) | exact rfl | (simp only [ei, eb, es, ec, List.map_append, List.flatMap_append, List.nil_append, List.append_nil, List.append_assoc]; done) | omega | (simp only [List.nil_append, List.length_append, List.length_cons, List.length_nil]; omega) | (simp [ei, eb, es, ec]; done) | simp [ei, eb, es, ec])) ?_)
        first | exact trivial | exact rfl
      · refine And.intro ⟨by kernel_rfl⟩ ?_
        refine ⟨(Pn.calm 0 (Pn.calm 1 (Pn.eff 2 [1] (Pn.eff 3 [0, 2, 1] (Pn.eff 4 [3, 0, 1, 2] Pn.done Pn.no) Pn.no) Pn.no))), ⟨by kernel_rfl⟩, ?_⟩
        refine And.intro ?_ trivial
        obtain ⟨v143, hv144, H⟩ := call_st H
        refine ⟨(v134.1, v143), ⟨hv144⟩, ⟨trivial⟩, ?_⟩
        refine And.intro ⟨rfl⟩ ?_
        refine And.intro ⟨rfl⟩ ?_
        refine And.intro ?_ trivial
        refine ob_app (by decide) (by first | exact ei_one | ((repeat (refine List.forall_mem_cons.2 ⟨rfl, ?_⟩)); intro y hy; cases hy; done) | (intro y hy; simp [ei, eb, es, ec] at hy; (first | (rcases hy with rfl | hy) | subst hy | skip); all_goals first | rfl | simp_all [Value.oneCell'])) H fun h145 H => ?_
        intro n146 hn147
        subst hn147
        refine And.intro ⟨rfl⟩ ?_
        refine And.intro ?_ trivial
        refine And.intro ⟨rfl⟩ ?_
        refine ob_ck H fun h148 H => ?_
        replace H := some_st H
        refine ⟨(m87, ((s86.1 ++ v143), s86.2 + v134.2.1)), ⟨H, Nat.lt_succ_self _⟩, ⟨trivial⟩, ⟨rfl⟩, ?_⟩
        repeat (refine And.intro (Ob.mk (by first | exact rfl | exact Iff.rfl | exact ⟨rfl, rfl⟩ | exact decide_eq_true_iff | (refine ⟨?_, ?_⟩ <;> first | exact rfl | (simp only [ei, eb, es, ec, List.map_append, List.flatMap_append, List.nil_append, List.append_nil, List.append_assoc]; done) | omega | (simp only [List.nil_append, List.length_append, List.length_cons, List.length_nil]; omega) | (simp [ei, eb, es, ec]; done)) | (constructor <;> first | exact rfl | (simp only [ei, eb, es, ec, List.map_append, List.flatMap_append, List.nil_append, List.append_nil, List.append_assoc]; done) | omega | (simp only [List.nil_append, List.length_append, List.length_cons, List.length_nil]; omega) | (simp [ei, eb, es, ec]; done)) | exact rfl | (simp only [ei, eb, es, ec, List.map_append, List.flatMap_append, List.nil_append, List.append_nil, List.append_assoc]; done) | omega | (simp only [List.nil_append, List.length_append, List.length_cons, List.length_nil]; omega) | (simp [ei, eb, es, ec]; done) | simp [ei, eb, es, ec])) ?_)
        first | exact trivial | exact rfl
    · replace H := some_st H
      dsimp only [stp, sm] at H
      refine ⟨s86.1, ⟨H⟩, ⟨rfl⟩, ?_⟩
      repeat (refine And.intro (Ob.mk (by first | exact rfl | exact Iff.rfl | exact ⟨rfl, rfl⟩ | exact decide_eq_true_iff | (refine ⟨?_, ?_⟩ <;> first | exact rfl | (simp only [ei, eb, es, ec, List.map_append, List.flatMap_append, List.nil_append, List.append_nil, List.append_assoc]; done) | omega | (simp only [List.nil_append, List.length_append, List.length_cons, List.length_nil]; omega) | (simp [ei, eb, es, ec]; done)) | (constructor <;> first | exact rfl | (simp only [ei, eb, es, ec, List.map_append, List.flatMap_append, List.nil_append, List.append_nil, List.append_assoc]; done) | omega | (simp only [List.nil_append, List.length_append, List.length_cons, List.length_nil]; omega) | (simp [ei, eb, es, ec]; done)) | exact rfl | (simp only [ei, eb, es, ec, List.map_append, List.flatMap_append, List.nil_append, List.append_nil, List.append_assoc]; done) | omega | (simp only [List.nil_append, List.length_append, List.length_cons, List.length_nil]; omega) | (simp [ei, eb, es, ec]; done) | simp [ei, eb, es, ec])) ?_)
      first | exact trivial | exact rfl
  · intro v82 H
    refine ob_str (l := v82) H fun h150 H => ?_
    have hfin := fin_st H
    repeat (refine And.intro (Ob.mk (by first | (rw [← hfin] <;> first | exact rfl | exact Iff.rfl | exact ⟨rfl, rfl⟩ | exact decide_eq_true_iff | (refine ⟨?_, ?_⟩ <;> first | exact rfl | (simp only [ei, eb, es, ec, List.map_append, List.flatMap_append, List.nil_append, List.append_nil, List.append_assoc]; done) | omega | (simp only [List.nil_append, List.length_append, List.length_cons, List.length_nil]; omega) | (simp [ei, eb, es, ec]; done)) | (constructor <;> first | exact rfl | (simp only [ei, eb, es, ec, List.map_append, List.flatMap_append, List.nil_append, List.append_nil, List.append_assoc]; done) | omega | (simp only [List.nil_append, List.length_append, List.length_cons, List.length_nil]; omega) | (simp [ei, eb, es, ec]; done)) | exact rfl | (simp only [ei, eb, es, ec, List.map_append, List.flatMap_append, List.nil_append, List.append_nil, List.append_assoc]; done) | omega | (simp only [List.nil_append, List.length_append, List.length_cons, List.length_nil]; omega) | (simp [ei, eb, es, ec]; done) | simp [ei, eb, es, ec]) | first | exact rfl | exact Iff.rfl | exact ⟨rfl, rfl⟩ | exact decide_eq_true_iff | (refine ⟨?_, ?_⟩ <;> first | exact rfl | (simp only [ei, eb, es, ec, List.map_append, List.flatMap_append, List.nil_append, List.append_nil, List.append_assoc]; done) | omega | (simp only [List.nil_append, List.length_append, List.length_cons, List.length_nil]; omega) | (simp [ei, eb, es, ec]; done)) | (constructor <;> first | exact rfl | (simp only [ei, eb, es, ec, List.map_append, List.flatMap_append, List.nil_append, List.append_nil, List.append_assoc]; done) | omega | (simp only [List.nil_append, List.length_append, List.length_cons, List.length_nil]; omega) | (simp [ei, eb, es, ec]; done)) | exact rfl | (simp only [ei, eb, es, ec, List.map_append, List.flatMap_append, List.nil_append, List.append_nil, List.append_assoc]; done) | omega | (simp only [List.nil_append, List.length_append, List.length_cons, List.length_nil]; omega) | (simp [ei, eb, es, ec]; done) | simp [ei, eb, es, ec])) ?_)
    first | exact trivial | exact rfl

/-- placard/placardlaw01.told -/
noncomputable def g44 (a0 : ByteArray) (a1 : Int) : Option (List Int × List Int) :=
  ck (a0.size ≤ 140737488355328) <|
  jn (α := _) (β := List Int × List Int) (fun k363 =>
      (loopO (σ := List Int × List Int × Int) (ρ := (List Int × List Int) ⊕ (List Int × List Int)) (fun s366 =>
          if s366.2.2 < ((a0.size : Nat) : Int) then
            (
              ck (0 ≤ s366.2.2 ∧ s366.2.2 ≤ ((a0.size : Nat) : Int) ∧ ((a0.size : Nat) : Int) ≤ ((a0.size : Nat) : Int)) <|
              (g15 (((bytesOf a0).drop s366.2.2.toNat).take (((a0.size : Nat) : Int).toNat - s366.2.2.toNat))).bind fun v478 =>
              if v478.2.2 = true then
                (
                  if a1 ≤ ((s366.1.length : Nat) : Int) then
                    some (.out (.inl ((s366.1, s366.2.1))))
                  else
                    (
                      ck ((s366.1.length + 1) * 4 ≤ 140737488355328) <|
                      ck ((s366.2.1.length + 1) * 8 ≤ 140737488355328) <|
                      ck (inR .i64 (s366.2.2 + 1)) <|
                      some (.go ((s366.1 ++ [65533]), (s366.2.1 ++ [s366.2.2]), s366.2.2 + 1))
                    )
                )
              else
                (
                  if a1 ≤ ((s366.1.length : Nat) : Int) then
                    some (.out (.inl ((s366.1, s366.2.1))))
                  else
                    (
                      ck ((s366.1.length + 1) * 4 ≤ 140737488355328) <|
                      ck ((s366.2.1.length + 1) * 8 ≤ 140737488355328) <|
                      ck (inR .i64 (s366.2.2 + v478.2.1)) <|
                      some (.go ((s366.1 ++ [v478.1]), (s366.2.1 ++ [s366.2.2]), s366.2.2 + v478.2.1))
                    )
                )
            )
          else
            some (.out (.inr ((s366.1, s366.2.1))))
        ) ([], [], 0)).bind fun o472 =>
      sm o472 (fun o525 =>
          k363 (o525.1, o525.2)
        ) (fun o526 =>
          k363 (o526.1, o526.2)
        )
  ) (fun v362 =>
    some (v362.1, v362.2)
  )
noncomputable def k44 : Eng.CS := { f := 44, calm := false, more := 2, ι := ByteArray × Int × (List Int × List Int), ok := fun i => g44 i.1 i.2.1 = some i.2.2, rds := fun _ => [], args := fun i => [.w (.v (.string (i.1))), .w (.v (.int .i64 (i.2.1)))], res := fun i => .tup [.own 0, .own 1], L' := fun i => [(0, .arr 21 1 i.2.2.1.length (ei .i32 i.2.2.1)), (1, .arr 3 1 i.2.2.2.length (ei .i64 i.2.2.2))], rn := [(0, 0, 21, 1), (1, 0, 3, 1)] }
set_option maxRecDepth 8000 in
set_option maxHeartbeats 4000000 in
theorem k44_ok : CSOk Try.prog k44 := by
  refine R.cspec Try.func44 nm44 rfl ?_
  rintro ⟨a0, a1, r⟩ hok q _ args hargs
  match args, hargs with
  | [_, _], hargs =>
  obtain ⟨rfl, rfl, _⟩ := hargs
  refine ⟨envC [k15] false [(44, 11)], 6, envC_ok (css_cons ⟨fun _ => k15_ok, fun h => (by cases h)⟩ (css_nil)), ?_⟩
  have H : Gives (g44 a0 a1) (fun a => a = r) := ⟨r, hok, rfl⟩
  unfold g44 at H
  clear hok
  refine ob_sb H fun h165 H q166 A160 c161 hq162 hc163 hR164 => ?_
  intro n167 hn168
  subst hn168
  refine R.cut_fam H 71 [6, 7] [] (fun v362 => []) (fun v362 => [(3, .cells 65 [.own 71]), (4, .cells 32 [.own 72]), (71, .arr 21 1 (v362.1.length) (ei .i32 (v362.1))), (72, .arr 3 1 (v362.2.length) (ei .i64 (v362.2)))]) [(0, .cells 3 [.v (.int .i64 (a1))]), (13, .cells 22 [.v (.slice (A160) (a0.size) (c161))])] 2 (fun H => ?_)
  refine And.intro ?_ ?_
  · refine R.loop_fam (bind_st H) [0, 1] [(100003, 0, 21, 1), (100004, 0, 3, 1)] (fun _ s366 => [(3, .v (.int .i64 (s366.2.2)))]) (fun _ s366 => [(3, .cells 65 [.own 25]), (4, .cells 32 [.own 26]), (25, .arr 21 1 (s366.1.length) (ei .i32 (s366.1))), (26, .arr 3 1 (s366.2.1.length) (ei .i64 (s366.2.1)))]) 2 (fun n527 H => ?_)
    refine ⟨(n527, _), ⟨H⟩, ⟨trivial⟩, ?_⟩
    repeat (refine And.intro (Ob.mk (by first | exact rfl | exact Iff.rfl | exact ⟨rfl, rfl⟩ | exact decide_eq_true_iff | (refine ⟨?_, ?_⟩ <;> first | exact rfl | (simp only [ei, eb, es, ec, List.map_append, List.flatMap_append, List.nil_append, List.append_nil, List.append_assoc]; done) | omega | (simp only [List.nil_append, List.length_append, List.length_cons, List.length_nil]; omega) | (simp [ei, eb, es, ec]; done)) | (constructor <;> first | exact rfl | (simp only [ei, eb, es, ec, List.map_append, List.flatMap_append, List.nil_append, List.append_nil, List.append_assoc]; done) | omega | (simp only [List.nil_append, List.length_append, List.length_cons, List.length_nil]; omega) | (simp [ei, eb, es, ec]; done)) | exact rfl | (simp only [ei, eb, es, ec, List.map_append, List.flatMap_append, List.nil_append, List.append_nil, List.append_assoc]; done) | omega | (simp only [List.nil_append, List.length_append, List.length_cons, List.length_nil]; omega) | (simp [ei, eb, es, ec]; done) | simp [ei, eb, es, ec])) ?_)
    rintro ⟨m0, s366⟩ H _
    obtain ⟨m367, hm0, H⟩ := IG_succ H
    dsimp only at hm0
    subst hm0
    try dsimp only at H
    refine if_st H (fun h473 H => ?_) (fun h473 H => ?_)
    · refine ob_sl hc163 H fun h474 H => ?_
      have hs475 := sl_ei hR164 (bytesOf_len a0) hc163 h474
      intro n476 hn477
      subst hn477
      obtain ⟨v478, hv479, H⟩ := call_st H
      refine ⟨((((bytesOf a0).drop s366.2.2.toNat).take (((a0.size : Nat) : Int).toNat - s366.2.2.toNat)), v478), ⟨hv479⟩, ⟨trivial⟩, ?_⟩
      refine And.intro ⟨(hs475.2.1).symm, hs475.2.2, ei_len.trans ((show _ = _ from hs475.2.1).trans (Nat.mul_one _).symm), hs475.1⟩ ?_
      refine if_st H (fun h480 H => ?_) (fun h480 H => ?_)
      · refine if_st H (fun h481 H => ?_) (fun h481 H => ?_)
        · replace H := some_st H
          dsimp only [stp, sm] at H
          refine ⟨(s366.1, s366.2.1), ⟨H⟩, ⟨rfl⟩, ?_⟩
          repeat (refine And.intro (Ob.mk (by first | exact rfl | exact Iff.rfl | exact ⟨rfl, rfl⟩ | exact decide_eq_true_iff | (refine ⟨?_, ?_⟩ <;> first | exact rfl | (simp only [ei, eb, es, ec, List.map_append, List.flatMap_append, List.nil_append, List.append_nil, List.append_assoc]; done) | omega | (simp only [List.nil_append, List.length_append, List.length_cons, List.length_nil]; omega) | (simp [ei, eb, es, ec]; done)) | (constructor <;> first | exact rfl | (simp only [ei, eb, es, ec, List.map_append, List.flatMap_append, List.nil_append, List.append_nil, List.append_assoc]; done) | omega | (simp only [List.nil_append, List.length_append, List.length_cons, List.length_nil]; omega) | (simp [ei, eb, es, ec]; done)) | exact rfl | (simp only [ei, eb, es, ec, List.map_append, List.flatMap_append, List.nil_append, List.append_nil, List.append_assoc]; done) | omega | (simp only [List.nil_append, List.length_append, List.length_cons, List.length_nil]; omega) | (simp [ei, eb, es, ec]; done) | simp [ei, eb, es, ec])) ?_)
          first | exact trivial | exact rfl
        · refine And.intro ⟨by kernel_rfl⟩ ?_
          refine ⟨(Pn.calm 0 (Pn.calm 1 (Pn.calm 4 (Pn.calm 5 (Pn.eff 2 [1] (Pn.eff 3 [0, 2, 1] (Pn.eff 6 [5] (Pn.eff 7 [4, 6, 3, 5, 0, 2, 1] (Pn.eff 8 [3, 7, 0, 1, 2, 4, 6, 5] (Pn.eff 9 [7, 8, 0, 1, 2, 3, 4, 5, 6] Pn.done Pn.no) Pn.no) Pn.no) Pn.no) (Pn.eff 6 [5] (Pn.eff 3 [0, 2, 1] (Pn.eff 7 [4, 6, 3, 5, 0, 2, 1] (Pn.eff 8 [3, 7, 0, 1, 2, 4, 6, 5] (Pn.eff 9 [7, 8, 0, 1, 2, 3, 4, 5, 6] Pn.done Pn.no) Pn.no) Pn.no) Pn.no) Pn.no)) (Pn.eff 6 [5] (Pn.eff 2 [1] (Pn.eff 3 [0, 2, 1] (Pn.eff 7 [4, 6, 3, 5, 0, 2, 1] (Pn.eff 8 [3, 7, 0, 1, 2, 4, 6, 5] (Pn.eff 9 [7, 8, 0, 1, 2, 3, 4, 5, 6] Pn.done Pn.no) Pn.no) Pn.no) Pn.no) Pn.no) Pn.no)))))), ⟨by kernel_rfl⟩, ?_⟩
          refine And.intro ?_ (And.intro ?_ trivial)
          · refine And.intro ⟨rfl⟩ ?_
            refine And.intro ?_ (And.intro ?_ trivial)
            · refine ob_app (by decide) (by first | exact ei_one | ((repeat (refine List.forall_mem_cons.2 ⟨rfl, ?_⟩)); intro y hy; cases hy; done) | (intro y hy; simp [ei, eb, es, ec] at hy; (first | (rcases hy with rfl | hy) | subst hy | skip); all_goals first | rfl | simp_all [Value.oneCell'])) H fun h482 H => ?_
              intro n483 hn484
              subst hn484
              refine And.intro ⟨rfl⟩ ?_
              refine And.intro ?_ trivial
              refine And.intro ⟨rfl⟩ ?_
              refine And.intro ?_ trivial
              refine ob_app (by decide) (by first | exact ei_one | ((repeat (refine List.forall_mem_cons.2 ⟨rfl, ?_⟩)); intro y hy; cases hy; done) | (intro y hy; simp [ei, eb, es, ec] at hy; (first | (rcases hy with rfl | hy) | subst hy | skip); all_goals first | rfl | simp_all [Value.oneCell'])) H fun h485 H => ?_
              intro n486 hn487
              subst hn487
              refine And.intro ⟨rfl⟩ ?_
              refine And.intro ?_ trivial
              refine And.intro ⟨rfl⟩ ?_
              refine And.intro ?_ trivial
              refine And.intro ⟨rfl⟩ ?_
              refine ob_ck H fun h488 H => ?_
              replace H := some_st H
              refine ⟨(m367, ((s366.1 ++ [65533]), (s366.2.1 ++ [s366.2.2]), s366.2.2 + 1)), ⟨H, Nat.lt_succ_self _⟩, ⟨trivial⟩, ⟨rfl⟩, ?_⟩
              repeat (refine And.intro (Ob.mk (by first | exact rfl | exact Iff.rfl | exact ⟨rfl, rfl⟩ | exact decide_eq_true_iff | (refine ⟨?_, ?_⟩ <;> first | exact rfl | (simp only [ei, eb, es, ec, List.map_append, List.flatMap_append, List.nil_append, List.append_nil, List.append_assoc]; done) | omega | (simp only [List.nil_append, List.length_append, List.length_cons, List.length_nil]; omega) | (simp [ei, eb, es, ec]; done)) | (constructor <;> first | exact rfl | (simp only [ei, eb, es, ec, List.map_append, List.flatMap_append, List.nil_append, List.append_nil, List.append_assoc]; done) | omega | (simp only [List.nil_append, List.length_append, List.length_cons, List.length_nil]; omega) | (simp [ei, eb, es, ec]; done)) | exact rfl | (simp only [ei, eb, es, ec, List.map_append, List.flatMap_append, List.nil_append, List.append_nil, List.append_assoc]; done) | omega | (simp only [List.nil_append, List.length_append, List.length_cons, List.length_nil]; omega) | (simp [ei, eb, es, ec]; done) | simp [ei, eb, es, ec])) ?_)
              first | exact trivial | exact rfl
            · refine And.intro ⟨rfl⟩ ?_
              refine And.intro ?_ trivial
              refine ob_app (by decide) (by first | exact ei_one | ((repeat (refine List.forall_mem_cons.2 ⟨rfl, ?_⟩)); intro y hy; cases hy; done) | (intro y hy; simp [ei, eb, es, ec] at hy; (first | (rcases hy with rfl | hy) | subst hy | skip); all_goals first | rfl | simp_all [Value.oneCell'])) H fun h489 H => ?_
              intro n490 hn491
              subst hn491
              refine And.intro ⟨rfl⟩ ?_
              refine And.intro ?_ trivial
              refine ob_app (by decide) (by first | exact ei_one | ((repeat (refine List.forall_mem_cons.2 ⟨rfl, ?_⟩)); intro y hy; cases hy; done) | (intro y hy; simp [ei, eb, es, ec] at hy; (first | (rcases hy with rfl | hy) | subst hy | skip); all_goals first | rfl | simp_all [Value.oneCell'])) H fun h492 H => ?_
              intro n493 hn494
              subst hn494
              refine And.intro ⟨rfl⟩ ?_
              refine And.intro ?_ trivial
              refine And.intro ⟨rfl⟩ ?_
              refine And.intro ?_ trivial
              refine And.intro ⟨rfl⟩ ?_
              refine ob_ck H fun h495 H => ?_
              replace H := some_st H
              refine ⟨(m367, ((s366.1 ++ [65533]), (s366.2.1 ++ [s366.2.2]), s366.2.2 + 1)), ⟨H, Nat.lt_succ_self _⟩, ⟨trivial⟩, ⟨rfl⟩, ?_⟩
              repeat (refine And.intro (Ob.mk (by first | exact rfl | exact Iff.rfl | exact ⟨rfl, rfl⟩ | exact decide_eq_true_iff | (refine ⟨?_, ?_⟩ <;> first | exact rfl | (simp only [ei, eb, es, ec, List.map_append, List.flatMap_append, List.nil_append, List.append_nil, List.append_assoc]; done) | omega | (simp only [List.nil_append, List.length_append, List.length_cons, List.length_nil]; omega) | (simp [ei, eb, es, ec]; done)) | (constructor <;> first | exact rfl | (simp only [ei, eb, es, ec, List.map_append, List.flatMap_append, List.nil_append, List.append_nil, List.append_assoc]; done) | omega | (simp only [List.nil_append, List.length_append, List.length_cons, List.length_nil]; omega) | (simp [ei, eb, es, ec]; done)) | exact rfl | (simp only [ei, eb, es, ec, List.map_append, List.flatMap_append, List.nil_append, List.append_nil, List.append_assoc]; done) | omega | (simp only [List.nil_append, List.length_append, List.length_cons, List.length_nil]; omega) | (simp [ei, eb, es, ec]; done) | simp [ei, eb, es, ec])) ?_)
              first | exact trivial | exact rfl
          · refine And.intro ⟨rfl⟩ ?_
            refine And.intro ?_ trivial
            refine And.intro ⟨rfl⟩ ?_
            refine And.intro ?_ trivial
            refine ob_app (by decide) (by first | exact ei_one | ((repeat (refine List.forall_mem_cons.2 ⟨rfl, ?_⟩)); intro y hy; cases hy; done) | (intro y hy; simp [ei, eb, es, ec] at hy; (first | (rcases hy with rfl | hy) | subst hy | skip); all_goals first | rfl | simp_all [Value.oneCell'])) H fun h496 H => ?_
            intro n497 hn498
            subst hn498
            refine And.intro ⟨rfl⟩ ?_
            refine And.intro ?_ trivial
            refine ob_app (by decide) (by first | exact ei_one | ((repeat (refine List.forall_mem_cons.2 ⟨rfl, ?_⟩)); intro y hy; cases hy; done) | (intro y hy; simp [ei, eb, es, ec] at hy; (first | (rcases hy with rfl | hy) | subst hy | skip); all_goals first | rfl | simp_all [Value.oneCell'])) H fun h499 H => ?_
            intro n500 hn501
            subst hn501
            refine And.intro ⟨rfl⟩ ?_
            refine And.intro ?_ trivial
            refine And.intro ⟨rfl⟩ ?_
            refine And.intro ?_ trivial
            refine And.intro ⟨rfl⟩ ?_
            refine ob_ck H fun h502 H => ?_
            replace H := some_st H
            refine ⟨(m367, ((s366.1 ++ [65533]), (s366.2.1 ++ [s366.2.2]), s366.2.2 + 1)), ⟨H, Nat.lt_succ_self _⟩, ⟨trivial⟩, ⟨rfl⟩, ?_⟩
            repeat (refine And.intro (Ob.mk (by first | exact rfl | exact Iff.rfl | exact ⟨rfl, rfl⟩ | exact decide_eq_true_iff | (refine ⟨?_, ?_⟩ <;> first | exact rfl | (simp only [ei, eb, es, ec, List.map_append, List.flatMap_append, List.nil_append, List.append_nil, List.append_assoc]; done) | omega | (simp only [List.nil_append, List.length_append, List.length_cons, List.length_nil]; omega) | (simp [ei, eb, es, ec]; done)) | (constructor <;> first | exact rfl | (simp only [ei, eb, es, ec, List.map_append, List.flatMap_append, List.nil_append, List.append_nil, List.append_assoc]; done) | omega | (simp only [List.nil_append, List.length_append, List.length_cons, List.length_nil]; omega) | (simp [ei, eb, es, ec]; done)) | exact rfl | (simp only [ei, eb, es, ec, List.map_append, List.flatMap_append, List.nil_append, List.append_nil, List.append_assoc]; done) | omega | (simp only [List.nil_append, List.length_append, List.length_cons, List.length_nil]; omega) | (simp [ei, eb, es, ec]; done) | simp [ei, eb, es, ec])) ?_)
            first | exact trivial | exact rfl
      · refine if_st H (fun h503 H => ?_) (fun h503 H => ?_)
        · replace H := some_st H
          dsimp only [stp, sm] at H
          refine ⟨(s366.1, s366.2.1), ⟨H⟩, ⟨rfl⟩, ?_⟩
          repeat (refine And.intro (Ob.mk (by first | exact rfl | exact Iff.rfl | exact ⟨rfl, rfl⟩ | exact decide_eq_true_iff | (refine ⟨?_, ?_⟩ <;> first | exact rfl | (simp only [ei, eb, es, ec, List.map_append, List.flatMap_append, List.nil_append, List.append_nil, List.append_assoc]; done) | omega | (simp only [List.nil_append, List.length_append, List.length_cons, List.length_nil]; omega) | (simp [ei, eb, es, ec]; done)) | (constructor <;> first | exact rfl | (simp only [ei, eb, es, ec, List.map_append, List.flatMap_append, List.nil_append, List.append_nil, List.append_assoc]; done) | omega | (simp only [List.nil_append, List.length_append, List.length_cons, List.length_nil]; omega) | (simp [ei, eb, es, ec]; done)) | exact rfl | (simp only [ei, eb, es, ec, List.map_append, List.flatMap_append, List.nil_append, List.append_nil, List.append_assoc]; done) | omega | (simp only [List.nil_append, List.length_append, List.length_cons, List.length_nil]; omega) | (simp [ei, eb, es, ec]; done) | simp [ei, eb, es, ec])) ?_)
          first | exact trivial | exact rfl
        · refine And.intro ⟨by kernel_rfl⟩ ?_
          refine ⟨(Pn.calm 0 (Pn.calm 1 (Pn.calm 4 (Pn.calm 5 (Pn.eff 2 [1] (Pn.eff 3 [0, 2, 1] (Pn.eff 6 [5] (Pn.eff 7 [4, 6, 3, 5, 0, 2, 1] (Pn.eff 8 [3, 7, 0, 1, 2, 4, 6, 5] (Pn.eff 9 [7, 8, 0, 1, 2, 3, 4, 5, 6] Pn.done Pn.no) Pn.no) Pn.no) Pn.no) (Pn.eff 6 [5] (Pn.eff 3 [0, 2, 1] (Pn.eff 7 [4, 6, 3, 5, 0, 2, 1] (Pn.eff 8 [3, 7, 0, 1, 2, 4, 6, 5] (Pn.eff 9 [7, 8, 0, 1, 2, 3, 4, 5, 6] Pn.done Pn.no) Pn.no) Pn.no) Pn.no) Pn.no)) (Pn.eff 6 [5] (Pn.eff 2 [1] (Pn.eff 3 [0, 2, 1] (Pn.eff 7 [4, 6, 3, 5, 0, 2, 1] (Pn.eff 8 [3, 7, 0, 1, 2, 4, 6, 5] (Pn.eff 9 [7, 8, 0, 1, 2, 3, 4, 5, 6] Pn.done Pn.no) Pn.no) Pn.no) Pn.no) Pn.no) Pn.no)))))), ⟨by kernel_rfl⟩, ?_⟩
          refine And.intro ?_ (And.intro ?_ trivial)
          · refine And.intro ⟨rfl⟩ ?_
            refine And.intro ?_ (And.intro ?_ trivial)
            · refine ob_app (by decide) (by first | exact ei_one | ((repeat (refine List.forall_mem_cons.2 ⟨rfl, ?_⟩)); intro y hy; cases hy; done) | (intro y hy; simp [ei, eb, es, ec] at hy; (first | (rcases hy with rfl | hy) | subst hy | skip); all_goals first | rfl | simp_all [Value.oneCell'])) H fun h504 H => ?_
              intro n505 hn506
              subst hn506
              refine And.intro ⟨rfl⟩ ?_
              refine And.intro ?_ trivial
              refine And.intro ⟨rfl⟩ ?_
              refine And.intro ?_ trivial
              refine ob_app (by decide) (by first | exact ei_one | ((repeat (refine List.forall_mem_cons.2 ⟨rfl, ?_⟩)); intro y hy; cases hy; done) | (intro y hy; simp [ei, eb, es, ec] at hy; (first | (rcases hy with rfl | hy) | subst hy | skip); all_goals first | rfl | simp_all [Value.oneCell'])) H fun h507 H => ?_
              intro n508 hn509
              subst hn509
              refine And.intro ⟨rfl⟩ ?_
              refine And.intro ?_ trivial
              refine And.intro ⟨rfl⟩ ?_
              refine And.intro ?_ trivial
              refine And.intro ⟨rfl⟩ ?_
              refine ob_ck H fun h510 H => ?_
              replace H := some_st H
              refine ⟨(m367, ((s366.1 ++ [v478.1]), (s366.2.1 ++ [s366.2.2]), s366.2.2 + v478.2.1)), ⟨H, Nat.lt_succ_self _⟩, ⟨trivial⟩, ⟨rfl⟩, ?_⟩
              repeat (refine And.intro (Ob.mk (by first | exact rfl | exact Iff.rfl | exact ⟨rfl, rfl⟩ | exact decide_eq_true_iff | (refine ⟨?_, ?_⟩ <;> first | exact rfl | (simp only [ei, eb, es, ec, List.map_append, List.flatMap_append, List.nil_append, List.append_nil, List.append_assoc]; done) | omega | (simp only [List.nil_append, List.length_append, List.length_cons, List.length_nil]; omega) | (simp [ei, eb, es, ec]; done)) | (constructor <;> first | exact rfl | (simp only [ei, eb, es, ec, List.map_append, List.flatMap_append, List.nil_append, List.append_nil, List.append_assoc]; done) | omega | (simp only [List.nil_append, List.length_append, List.length_cons, List.length_nil]; omega) | (simp [ei, eb, es, ec]; done)) | exact rfl | (simp only [ei, eb, es, ec, List.map_append, List.flatMap_append, List.nil_append, List.append_nil, List.append_assoc]; done) | omega | (simp only [List.nil_append, List.length_append, List.length_cons, List.length_nil]; omega) | (simp [ei, eb, es, ec]; done) | simp [ei, eb, es, ec])) ?_)
              first | exact trivial | exact rfl
            · refine And.intro ⟨rfl⟩ ?_
              refine And.intro ?_ trivial
              refine ob_app (by decide) (by first | exact ei_one | ((repeat (refine List.forall_mem_cons.2 ⟨rfl, ?_⟩)); intro y hy; cases hy; done) | (intro y hy; simp [ei, eb, es, ec] at hy; (first | (rcases hy with rfl | hy) | subst hy | skip); all_goals first | rfl | simp_all [Value.oneCell'])) H fun h511 H => ?_
              intro n512 hn513
              subst hn513
              refine And.intro ⟨rfl⟩ ?_
              refine And.intro ?_ trivial
              refine ob_app (by decide) (by first | exact ei_one | ((repeat (refine List.forall_mem_cons.2 ⟨rfl, ?_⟩)); intro y hy; cases hy; done) | (intro y hy; simp [ei, eb, es, ec] at hy; (first | (rcases hy with rfl | hy) | subst hy | skip); all_goals first | rfl | simp_all [Value.oneCell'])) H fun h514 H => ?_
              intro n515 hn516
              subst hn516
              refine And.intro ⟨rfl⟩ ?_
              refine And.intro ?_ trivial
              refine And.intro ⟨rfl⟩ ?_
              refine And.intro ?_ trivial
              refine And.intro ⟨rfl⟩ ?_
              refine ob_ck H fun h517 H => ?_
              replace H := some_st H
              refine ⟨(m367, ((s366.1 ++ [v478.1]), (s366.2.1 ++ [s366.2.2]), s366.2.2 + v478.2.1)), ⟨H, Nat.lt_succ_self _⟩, ⟨trivial⟩, ⟨rfl⟩, ?_⟩
              repeat (refine And.intro (Ob.mk (by first | exact rfl | exact Iff.rfl | exact ⟨rfl, rfl⟩ | exact decide_eq_true_iff | (refine ⟨?_, ?_⟩ <;> first | exact rfl | (simp only [ei, eb, es, ec, List.map_append, List.flatMap_append, List.nil_append, List.append_nil, List.append_assoc]; done) | omega | (simp only [List.nil_append, List.length_append, List.length_cons, List.length_nil]; omega) | (simp [ei, eb, es, ec]; done)) | (constructor <;> first | exact rfl | (simp only [ei, eb, es, ec, List.map_append, List.flatMap_append, List.nil_append, List.append_nil, List.append_assoc]; done) | omega | (simp only [List.nil_append, List.length_append, List.length_cons, List.length_nil]; omega) | (simp [ei, eb, es, ec]; done)) | exact rfl | (simp only [ei, eb, es, ec, List.map_append, List.flatMap_append, List.nil_append, List.append_nil, List.append_assoc]; done) | omega | (simp only [List.nil_append, List.length_append, List.length_cons, List.length_nil]; omega) | (simp [ei, eb, es, ec]; done) | simp [ei, eb, es, ec])) ?_)
              first | exact trivial | exact rfl
          · refine And.intro ⟨rfl⟩ ?_
            refine And.intro ?_ trivial
            refine And.intro ⟨rfl⟩ ?_
            refine And.intro ?_ trivial
            refine ob_app (by decide) (by first | exact ei_one | ((repeat (refine List.forall_mem_cons.2 ⟨rfl, ?_⟩)); intro y hy; cases hy; done) | (intro y hy; simp [ei, eb, es, ec] at hy; (first | (rcases hy with rfl | hy) | subst hy | skip); all_goals first | rfl | simp_all [Value.oneCell'])) H fun h518 H => ?_
            intro n519 hn520
            subst hn520
            refine And.intro ⟨rfl⟩ ?_
            refine And.intro ?_ trivial
            refine ob_app (by decide) (by first | exact ei_one | ((repeat (refine List.forall_mem_cons.2 ⟨rfl, ?_⟩)); intro y hy; cases hy; done) | (intro y hy; simp [ei, eb, es, ec] at hy; (first | (rcases hy with rfl | hy) | subst hy | skip); all_goals first | rfl | simp_all [Value.oneCell'])) H fun h521 H => ?_
            intro n522 hn523
            subst hn523
            refine And.intro ⟨rfl⟩ ?_
            refine And.intro ?_ trivial
            refine And.intro ⟨rfl⟩ ?_
            refine And.intro ?_ trivial
            refine And.intro ⟨rfl⟩ ?_
            refine ob_ck H fun h524 H => ?_
            replace H := some_st H
            refine ⟨(m367, ((s366.1 ++ [v478.1]), (s366.2.1 ++ [s366.2.2]), s366.2.2 + v478.2.1)), ⟨H, Nat.lt_succ_self _⟩, ⟨trivial⟩, ⟨rfl⟩, ?_⟩
            repeat (refine And.intro (Ob.mk (by first | exact rfl | exact Iff.rfl | exact ⟨rfl, rfl⟩ | exact decide_eq_true_iff | (refine ⟨?_, ?_⟩ <;> first | exact rfl | (simp only [ei, eb, es, ec, List.map_append, List.flatMap_append, List.nil_append, List.append_nil, List.append_assoc]; done) | omega | (simp only [List.nil_append, List.length_append, List.length_cons, List.length_nil]; omega) | (simp [ei, eb, es, ec]; done)) | (constructor <;> first | exact rfl | (simp only [ei, eb, es, ec, List.map_append, List.flatMap_append, List.nil_append, List.append_nil, List.append_assoc]; done) | omega | (simp only [List.nil_append, List.length_append, List.length_cons, List.length_nil]; omega) | (simp [ei, eb, es, ec]; done)) | exact rfl | (simp only [ei, eb, es, ec, List.map_append, List.flatMap_append, List.nil_append, List.append_nil, List.append_assoc]; done) | omega | (simp only [List.nil_append, List.length_append, List.length_cons, List.length_nil]; omega) | (simp [ei, eb, es, ec]; done) | simp [ei, eb, es, ec])) ?_)
            first | exact trivial | exact rfl
    · replace H := some_st H
      dsimp only [stp, sm] at H
      refine ⟨(s366.1, s366.2.1), ⟨H⟩, ⟨rfl⟩, ?_⟩
      repeat (refine And.intro (Ob.mk (by first | exact rfl | exact Iff.rfl | exact ⟨rfl, rfl⟩ | exact decide_eq_true_iff | (refine ⟨?_, ?_⟩ <;> first | exact rfl | (simp only [ei, eb, es, ec, List.map_append, List.flatMap_append, List.nil_append, List.append_nil, List.append_assoc]; done) | omega | (simp only [List.nil_append, List.length_append, List.length_cons, List.length_nil]; omega) | (simp [ei, eb, es, ec]; done)) | (constructor <;> first | exact rfl | (simp only [ei, eb, es, ec, List.map_append, List.flatMap_append, List.nil_append, List.append_nil, List.append_assoc]; done) | omega | (simp only [List.nil_append, List.length_append, List.length_cons, List.length_nil]; omega) | (simp [ei, eb, es, ec]; done)) | exact rfl | (simp only [ei, eb, es, ec, List.map_append, List.flatMap_append, List.nil_append, List.append_nil, List.append_assoc]; done) | omega | (simp only [List.nil_append, List.length_append, List.length_cons, List.length_nil]; omega) | (simp [ei, eb, es, ec]; done) | simp [ei, eb, es, ec])) ?_)
      first | exact trivial | exact rfl
  · intro v362 H
    refine And.intro ⟨by kernel_rfl⟩ ?_
    have hfin := fin_st H
    repeat (refine And.intro (Ob.mk (by first | (rw [← hfin] <;> first | exact rfl | exact Iff.rfl | exact ⟨rfl, rfl⟩ | exact decide_eq_true_iff | (refine ⟨?_, ?_⟩ <;> first | exact rfl | (simp only [ei, eb, es, ec, List.map_append, List.flatMap_append, List.nil_append, List.append_nil, List.append_assoc]; done) | omega | (simp only [List.nil_append, List.length_append, List.length_cons, List.length_nil]; omega) | (simp [ei, eb, es, ec]; done)) | (constructor <;> first | exact rfl | (simp only [ei, eb, es, ec, List.map_append, List.flatMap_append, List.nil_append, List.append_nil, List.append_assoc]; done) | omega | (simp only [List.nil_append, List.length_append, List.length_cons, List.length_nil]; omega) | (simp [ei, eb, es, ec]; done)) | exact rfl | (simp only [ei, eb, es, ec, List.map_append, List.flatMap_append, List.nil_append, List.append_nil, List.append_assoc]; done) | omega | (simp only [List.nil_append, List.length_append, List.length_cons, List.length_nil]; omega) | (simp [ei, eb, es, ec]; done) | simp [ei, eb, es, ec]) | first | exact rfl | exact Iff.rfl | exact ⟨rfl, rfl⟩ | exact decide_eq_true_iff | (refine ⟨?_, ?_⟩ <;> first | exact rfl | (simp only [ei, eb, es, ec, List.map_append, List.flatMap_append, List.nil_append, List.append_nil, List.append_assoc]; done) | omega | (simp only [List.nil_append, List.length_append, List.length_cons, List.length_nil]; omega) | (simp [ei, eb, es, ec]; done)) | (constructor <;> first | exact rfl | (simp only [ei, eb, es, ec, List.map_append, List.flatMap_append, List.nil_append, List.append_nil, List.append_assoc]; done) | omega | (simp only [List.nil_append, List.length_append, List.length_cons, List.length_nil]; omega) | (simp [ei, eb, es, ec]; done)) | exact rfl | (simp only [ei, eb, es, ec, List.map_append, List.flatMap_append, List.nil_append, List.append_nil, List.append_assoc]; done) | omega | (simp only [List.nil_append, List.length_append, List.length_cons, List.length_nil]; omega) | (simp [ei, eb, es, ec]; done) | simp [ei, eb, es, ec])) ?_)
    first | exact trivial | exact rfl

/-- placard/runes.Count -/
noncomputable def g47 (a0 : ByteArray) : Option (Int) :=
  jn (α := _) (β := Int) (fun k592 =>
      ck (a0.size ≤ 140737488355328) <|
      (loopO (σ := Int × Int) (ρ := Int) (fun s604 =>
          if s604.2 < ((a0.size : Nat) : Int) then
            (
              ck (0 ≤ s604.2 ∧ s604.2 ≤ ((a0.size : Nat) : Int) ∧ ((a0.size : Nat) : Int) ≤ ((a0.size : Nat) : Int)) <|
              (g15 (((bytesOf a0).drop s604.2.toNat).take (((a0.size : Nat) : Int).toNat - s604.2.toNat))).bind fun v636 =>
              if v636.2.2 = true then
                (
                  ck (inR .i64 (s604.1 + 1)) <|
                  ck (inR .i64 (s604.2 + 1)) <|
                  some (.go (s604.1 + 1, s604.2 + 1))
                )
              else
                (
                  ck (inR .i64 (s604.1 + 1)) <|
                  ck (inR .i64 (s604.2 + v636.2.1)) <|
                  some (.go (s604.1 + 1, s604.2 + v636.2.1))
                )
            )
          else
            some (.out s604.1)
        ) (0, 0)).bind fun o630 =>
        k592 o630
  ) (fun v591 =>
    some v591
  )
noncomputable def k47 : Eng.CS := { f := 47, calm := true, more := 0, ι := ByteArray × Int, ok := fun i => g47 i.1 = some i.2, rds := fun _ => [], args := fun i => [.w (.v (.string (i.1)))], res := fun i => .v (.int .i64 (i.2)) }
set_option maxRecDepth 8000 in
set_option maxHeartbeats 4000000 in
theorem k47_ok : CalmOk Try.prog k47 := by
  refine R.calmspec Try.func47 nm47 rfl ?_
  rintro ⟨a0, r⟩ hok q _ args hargs
  match args, hargs with
  | [_], hargs =>
  obtain ⟨rfl, _⟩ := hargs
  refine ⟨envC [k15] false [(47, 4)], 6, envC_ok (css_cons ⟨fun _ => k15_ok, fun h => (by cases h)⟩ (css_nil)), rfl, (by intro x hx; simp only [List.mem_cons, List.not_mem_nil, or_false] at hx; rcases hx with rfl <;> rfl), ?_⟩
  have H : Gives (g47 a0) (fun a => a = r) := ⟨r, hok, rfl⟩
  unfold g47 at H
  clear hok
  refine R.cut_famG H 23 [3] [] [] (fun v591 => []) (fun v591 => [(1, .cells 3 [.v (.int .i64 (v591))])]) [] 0 (fun H => ?_)
  refine And.intro ?_ ?_
  · refine ob_sb H fun h598 H q599 A593 c594 hq595 hc596 hR597 => ?_
    intro n600 hn601
    subst hn601
    refine R.loop_fam (bind_st H) [0, 1] [] (fun _ s604 => [(3, .v (.int .i64 (s604.2)))]) (fun _ s604 => [(1, .cells 3 [.v (.int .i64 (s604.1))])]) 0 (fun n643 H => ?_)
    refine ⟨(n643, _), ⟨H⟩, ⟨trivial⟩, ?_⟩
    repeat (refine And.intro (Ob.mk (by first | exact rfl | exact Iff.rfl | exact ⟨rfl, rfl⟩ | exact decide_eq_true_iff | (refine ⟨?_, ?_⟩ <;> first | exact rfl | (simp only [ei, eb, es, ec, List.map_append, List.flatMap_append, List.nil_append, List.append_nil, List.append_assoc]; done) | omega | (simp only [List.nil_append, List.length_append, List.length_cons, List.length_nil]; omega) | (simp [ei, eb, es, ec]; done)) | (constructor <;> first | exact rfl | (simp only [ei, eb, es, ec, List.map_append, List.flatMap_append, List.nil_append, List.append_nil, List.append_assoc]; done) | omega | (simp only [List.nil_append, List.length_append, List.length_cons, List.length_nil]; omega) | (simp [ei, eb, es, ec]; done)) | exact rfl | (simp only [ei, eb, es, ec, List.map_append, List.flatMap_append, List.nil_append, List.append_nil, List.append_assoc]; done) | omega | (simp only [List.nil_append, List.length_append, List.length_cons, List.length_nil]; omega) | (simp [ei, eb, es, ec]; done) | simp [ei, eb, es, ec])) ?_)
    rintro ⟨m0, s604⟩ H _
    obtain ⟨m605, hm0, H⟩ := IG_succ H
    dsimp only at hm0
    subst hm0
    try dsimp only at H
    refine if_st H (fun h631 H => ?_) (fun h631 H => ?_)
    · refine ob_sl hc596 H fun h632 H => ?_
      have hs633 := sl_ei hR597 (bytesOf_len a0) hc596 h632
      intro n634 hn635
      subst hn635
      obtain ⟨v636, hv637, H⟩ := call_st H
      refine ⟨((((bytesOf a0).drop s604.2.toNat).take (((a0.size : Nat) : Int).toNat - s604.2.toNat)), v636), ⟨hv637⟩, ⟨trivial⟩, ?_⟩
      refine And.intro ⟨(hs633.2.1).symm, hs633.2.2, ei_len.trans ((show _ = _ from hs633.2.1).trans (Nat.mul_one _).symm), hs633.1⟩ ?_
      refine if_st H (fun h638 H => ?_) (fun h638 H => ?_)
      · refine ob_ck H fun h639 H => ?_
        refine ob_ck H fun h640 H => ?_
        replace H := some_st H
        refine ⟨(m605, (s604.1 + 1, s604.2 + 1)), ⟨H, Nat.lt_succ_self _⟩, ⟨trivial⟩, ⟨rfl⟩, ?_⟩
        repeat (refine And.intro (Ob.mk (by first | exact rfl | exact Iff.rfl | exact ⟨rfl, rfl⟩ | exact decide_eq_true_iff | (refine ⟨?_, ?_⟩ <;> first | exact rfl | (simp only [ei, eb, es, ec, List.map_append, List.flatMap_append, List.nil_append, List.append_nil, List.append_assoc]; done) | omega | (simp only [List.nil_append, List.length_append, List.length_cons, List.length_nil]; omega) | (simp [ei, eb, es, ec]; done)) | (constructor <;> first | exact rfl | (simp only [ei, eb, es, ec, List.map_append, List.flatMap_append, List.nil_append, List.append_nil, List.append_assoc]; done) | omega | (simp only [List.nil_append, List.length_append, List.length_cons, List.length_nil]; omega) | (simp [ei, eb, es, ec]; done)) | exact rfl | (simp only [ei, eb, es, ec, List.map_append, List.flatMap_append, List.nil_append, List.append_nil, List.append_assoc]; done) | omega | (simp only [List.nil_append, List.length_append, List.length_cons, List.length_nil]; omega) | (simp [ei, eb, es, ec]; done) | simp [ei, eb, es, ec])) ?_)
        first | exact trivial | exact rfl
      · refine ob_ck H fun h641 H => ?_
        refine ob_ck H fun h642 H => ?_
        replace H := some_st H
        refine ⟨(m605, (s604.1 + 1, s604.2 + v636.2.1)), ⟨H, Nat.lt_succ_self _⟩, ⟨trivial⟩, ⟨rfl⟩, ?_⟩
        repeat (refine And.intro (Ob.mk (by first | exact rfl | exact Iff.rfl | exact ⟨rfl, rfl⟩ | exact decide_eq_true_iff | (refine ⟨?_, ?_⟩ <;> first | exact rfl | (simp only [ei, eb, es, ec, List.map_append, List.flatMap_append, List.nil_append, List.append_nil, List.append_assoc]; done) | omega | (simp only [List.nil_append, List.length_append, List.length_cons, List.length_nil]; omega) | (simp [ei, eb, es, ec]; done)) | (constructor <;> first | exact rfl | (simp only [ei, eb, es, ec, List.map_append, List.flatMap_append, List.nil_append, List.append_nil, List.append_assoc]; done) | omega | (simp only [List.nil_append, List.length_append, List.length_cons, List.length_nil]; omega) | (simp [ei, eb, es, ec]; done)) | exact rfl | (simp only [ei, eb, es, ec, List.map_append, List.flatMap_append, List.nil_append, List.append_nil, List.append_assoc]; done) | omega | (simp only [List.nil_append, List.length_append, List.length_cons, List.length_nil]; omega) | (simp [ei, eb, es, ec]; done) | simp [ei, eb, es, ec])) ?_)
        first | exact trivial | exact rfl
    · replace H := some_st H
      dsimp only [stp, sm] at H
      refine ⟨s604.1, ⟨H⟩, ⟨fun _ _ _ h => (hq595 _ _ _ h)⟩, ?_⟩
      repeat (refine And.intro (Ob.mk (by first | exact rfl | exact Iff.rfl | exact ⟨rfl, rfl⟩ | exact decide_eq_true_iff | (refine ⟨?_, ?_⟩ <;> first | exact rfl | (simp only [ei, eb, es, ec, List.map_append, List.flatMap_append, List.nil_append, List.append_nil, List.append_assoc]; done) | omega | (simp only [List.nil_append, List.length_append, List.length_cons, List.length_nil]; omega) | (simp [ei, eb, es, ec]; done)) | (constructor <;> first | exact rfl | (simp only [ei, eb, es, ec, List.map_append, List.flatMap_append, List.nil_append, List.append_nil, List.append_assoc]; done) | omega | (simp only [List.nil_append, List.length_append, List.length_cons, List.length_nil]; omega) | (simp [ei, eb, es, ec]; done)) | exact rfl | (simp only [ei, eb, es, ec, List.map_append, List.flatMap_append, List.nil_append, List.append_nil, List.append_assoc]; done) | omega | (simp only [List.nil_append, List.length_append, List.length_cons, List.length_nil]; omega) | (simp [ei, eb, es, ec]; done) | simp [ei, eb, es, ec])) ?_)
      first | exact trivial | exact rfl
  · intro q590 hq589 v591 H
    have hfin := fin_st H
    repeat (refine And.intro (Ob.mk (by first | (rw [← hfin] <;> first | exact rfl | exact Iff.rfl | exact ⟨rfl, rfl⟩ | exact decide_eq_true_iff | (refine ⟨?_, ?_⟩ <;> first | exact rfl | (simp only [ei, eb, es, ec, List.map_append, List.flatMap_append, List.nil_append, List.append_nil, List.append_assoc]; done) | omega | (simp only [List.nil_append, List.length_append, List.length_cons, List.length_nil]; omega) | (simp [ei, eb, es, ec]; done)) | (constructor <;> first | exact rfl | (simp only [ei, eb, es, ec, List.map_append, List.flatMap_append, List.nil_append, List.append_nil, List.append_assoc]; done) | omega | (simp only [List.nil_append, List.length_append, List.length_cons, List.length_nil]; omega) | (simp [ei, eb, es, ec]; done)) | exact rfl | (simp only [ei, eb, es, ec, List.map_append, List.flatMap_append, List.nil_append, List.append_nil, List.append_assoc]; done) | omega | (simp only [List.nil_append, List.length_append, List.length_cons, List.length_nil]; omega) | (simp [ei, eb, es, ec]; done) | simp [ei, eb, es, ec]) | first | exact rfl | exact Iff.rfl | exact ⟨rfl, rfl⟩ | exact decide_eq_true_iff | (refine ⟨?_, ?_⟩ <;> first | exact rfl | (simp only [ei, eb, es, ec, List.map_append, List.flatMap_append, List.nil_append, List.append_nil, List.append_assoc]; done) | omega | (simp only [List.nil_append, List.length_append, List.length_cons, List.length_nil]; omega) | (simp [ei, eb, es, ec]; done)) | (constructor <;> first | exact rfl | (simp only [ei, eb, es, ec, List.map_append, List.flatMap_append, List.nil_append, List.append_nil, List.append_assoc]; done) | omega | (simp only [List.nil_append, List.length_append, List.length_cons, List.length_nil]; omega) | (simp [ei, eb, es, ec]; done)) | exact rfl | (simp only [ei, eb, es, ec, List.map_append, List.flatMap_append, List.nil_append, List.append_nil, List.append_assoc]; done) | omega | (simp only [List.nil_append, List.length_append, List.length_cons, List.length_nil]; omega) | (simp [ei, eb, es, ec]; done) | simp [ei, eb, es, ec])) ?_)
    first | exact trivial | exact rfl

/-- placard/runes.Valid -/
noncomputable def g48 (a0 : ByteArray) : Option (Bool) :=
  ck (a0.size ≤ 140737488355328) <|
  jn (α := _) (β := Unit) (fun k711 =>
      (loopO (σ := Int) (ρ := (Unit) ⊕ (Unit)) (fun s714 =>
          if s714 < ((a0.size : Nat) : Int) then
            (
              ck (0 ≤ s714 ∧ s714 ≤ ((a0.size : Nat) : Int) ∧ ((a0.size : Nat) : Int) ≤ ((a0.size : Nat) : Int)) <|
              (g15 (((bytesOf a0).drop s714.toNat).take (((a0.size : Nat) : Int).toNat - s714.toNat))).bind fun v750 =>
              if v750.2.2 = true then
                some (.out (.inl (())))
              else
                (
                  if ¬ v750.1 = 65533 then
                    (
                      ck (inR .i64 (s714 + v750.2.1)) <|
                      some (.go (s714 + v750.2.1))
                    )
                  else
                    (
                      (g17 65533).bind fun v755 =>
                      if ¬ v750.2.1 = ((v755.length : Nat) : Int) then
                        some (.out (.inl (())))
                      else
                        (
                          ck (inR .i64 (s714 + v750.2.1)) <|
                          some (.go (s714 + v750.2.1))
                        )
                    )
                )
            )
          else
            some (.out (.inr (())))
        ) 0).bind fun o744 =>
      sm o744 (fun o759 =>
          some false
        ) (fun o760 =>
          k711 ()
        )
  ) (fun v710 =>
    some true
  )
noncomputable def k48 : Eng.CS := { f := 48, calm := true, more := 0, ι := ByteArray × Bool, ok := fun i => g48 i.1 = some i.2, rds := fun _ => [], args := fun i => [.w (.v (.string (i.1)))], res := fun i => bS i.2 }
set_option maxRecDepth 8000 in
set_option maxHeartbeats 4000000 in
theorem k48_ok : CalmOk Try.prog k48 := by
  refine R.calmspec Try.func48 nm48 rfl ?_
  rintro ⟨a0, r⟩ hok q _ args hargs
  match args, hargs with
  | [_], hargs =>
  obtain ⟨rfl, _⟩ := hargs
  refine ⟨envC [k15, k17] false [(48, 12)], 6, envC_ok (css_cons ⟨fun _ => k15_ok, fun h => (by cases h)⟩ (css_cons ⟨fun h => (by cases h), fun _ => k17_ok⟩ (css_nil))), rfl, (by intro x hx; simp only [List.mem_cons, List.not_mem_nil, or_false] at hx; rcases hx with rfl <;> rfl), ?_⟩
  have H : Gives (g48 a0) (fun a => a = r) := ⟨r, hok, rfl⟩
  unfold g48 at H
  clear hok
  refine ob_sb H fun h649 H q650 A644 c645 hq646 hc647 hR648 => ?_
  intro n651 hn652
  subst hn652
  refine R.cut_fam H 11 [] [] (fun v710 => []) (fun v710 => []) [] 0 (fun H => ?_)
  refine And.intro ?_ ?_
  · refine R.loop_fam (bind_st H) [3] [] (fun _ s714 => [(4, .v (.int .i64 (s714)))]) (fun _ s714 => []) 0 (fun n761 H => ?_)
    refine ⟨(n761, _), ⟨H⟩, ⟨trivial⟩, ?_⟩
    repeat (refine And.intro (Ob.mk (by first | exact rfl | exact Iff.rfl | exact ⟨rfl, rfl⟩ | exact decide_eq_true_iff | (refine ⟨?_, ?_⟩ <;> first | exact rfl | (simp only [ei, eb, es, ec, List.map_append, List.flatMap_append, List.nil_append, List.append_nil, List.append_assoc]; done) | omega | (simp only [List.nil_append, List.length_append, List.length_cons, List.length_nil]; omega) | (simp [ei, eb, es, ec]; done)) | (constructor <;> first | exact rfl | (simp only [ei, eb, es, ec, List.map_append, List.flatMap_append, List.nil_append, List.append_nil, List.append_assoc]; done) | omega | (simp only [List.nil_append, List.length_append, List.length_cons, List.length_nil]; omega) | (simp [ei, eb, es, ec]; done)) | exact rfl | (simp only [ei, eb, es, ec, List.map_append, List.flatMap_append, List.nil_append, List.append_nil, List.append_assoc]; done) | omega | (simp only [List.nil_append, List.length_append, List.length_cons, List.length_nil]; omega) | (simp [ei, eb, es, ec]; done) | simp [ei, eb, es, ec])) ?_)
    rintro ⟨m0, s714⟩ H _
    obtain ⟨m715, hm0, H⟩ := IG_succ H
    dsimp only at hm0
    subst hm0
    try dsimp only at H
    refine if_st H (fun h745 H => ?_) (fun h745 H => ?_)
    · refine ob_sl hc647 H fun h746 H => ?_
      have hs747 := sl_ei hR648 (bytesOf_len a0) hc647 h746
      intro n748 hn749
      subst hn749
      obtain ⟨v750, hv751, H⟩ := call_st H
      refine ⟨((((bytesOf a0).drop s714.toNat).take (((a0.size : Nat) : Int).toNat - s714.toNat)), v750), ⟨hv751⟩, ⟨trivial⟩, ?_⟩
      refine And.intro ⟨(hs747.2.1).symm, hs747.2.2, ei_len.trans ((show _ = _ from hs747.2.1).trans (Nat.mul_one _).symm), hs747.1⟩ ?_
      refine if_st H (fun h752 H => ?_) (fun h752 H => ?_)
      · replace H := some_st H
        dsimp only [stp, sm] at H
        have hfin := fin_st H
        repeat (refine And.intro (Ob.mk (by first | (rw [← hfin] <;> first | exact rfl | exact Iff.rfl | exact ⟨rfl, rfl⟩ | exact decide_eq_true_iff | (refine ⟨?_, ?_⟩ <;> first | exact rfl | (simp only [ei, eb, es, ec, List.map_append, List.flatMap_append, List.nil_append, List.append_nil, List.append_assoc]; done) | omega | (simp only [List.nil_append, List.length_append, List.length_cons, List.length_nil]; omega) | (simp [ei, eb, es, ec]; done)) | (constructor <;> first | exact rfl | (simp only [ei, eb, es, ec, List.map_append, List.flatMap_append, List.nil_append, List.append_nil, List.append_assoc]; done) | omega | (simp only [List.nil_append, List.length_append, List.length_cons, List.length_nil]; omega) | (simp [ei, eb, es, ec]; done)) | exact rfl | (simp only [ei, eb, es, ec, List.map_append, List.flatMap_append, List.nil_append, List.append_nil, List.append_assoc]; done) | omega | (simp only [List.nil_append, List.length_append, List.length_cons, List.length_nil]; omega) | (simp [ei, eb, es, ec]; done) | simp [ei, eb, es, ec]) | first | exact rfl | exact Iff.rfl | exact ⟨rfl, rfl⟩ | exact decide_eq_true_iff | (refine ⟨?_, ?_⟩ <;> first | exact rfl | (simp only [ei, eb, es, ec, List.map_append, List.flatMap_append, List.nil_append, List.append_nil, List.append_assoc]; done) | omega | (simp only [List.nil_append, List.length_append, List.length_cons, List.length_nil]; omega) | (simp [ei, eb, es, ec]; done)) | (constructor <;> first | exact rfl | (simp only [ei, eb, es, ec, List.map_append, List.flatMap_append, List.nil_append, List.append_nil, List.append_assoc]; done) | omega | (simp only [List.nil_append, List.length_append, List.length_cons, List.length_nil]; omega) | (simp [ei, eb, es, ec]; done)) | exact rfl | (simp only [ei, eb, es, ec, List.map_append, List.flatMap_append, List.nil_append, List.append_nil, List.append_assoc]; done) | omega | (simp only [List.nil_append, List.length_append, List.length_cons, List.length_nil]; omega) | (simp [ei, eb, es, ec]; done) | simp [ei, eb, es, ec])) ?_)
        first | exact trivial | exact rfl
      · refine if_st H (fun h753 H => ?_) (fun h753 H => ?_)
        · refine ob_ck H fun h754 H => ?_
          replace H := some_st H
          refine ⟨(m715, s714 + v750.2.1), ⟨H, Nat.lt_succ_self _⟩, ⟨trivial⟩, ⟨rfl⟩, ?_⟩
          repeat (refine And.intro (Ob.mk (by first | exact rfl | exact Iff.rfl | exact ⟨rfl, rfl⟩ | exact decide_eq_true_iff | (refine ⟨?_, ?_⟩ <;> first | exact rfl | (simp only [ei, eb, es, ec, List.map_append, List.flatMap_append, List.nil_append, List.append_nil, List.append_assoc]; done) | omega | (simp only [List.nil_append, List.length_append, List.length_cons, List.length_nil]; omega) | (simp [ei, eb, es, ec]; done)) | (constructor <;> first | exact rfl | (simp only [ei, eb, es, ec, List.map_append, List.flatMap_append, List.nil_append, List.append_nil, List.append_assoc]; done) | omega | (simp only [List.nil_append, List.length_append, List.length_cons, List.length_nil]; omega) | (simp [ei, eb, es, ec]; done)) | exact rfl | (simp only [ei, eb, es, ec, List.map_append, List.flatMap_append, List.nil_append, List.append_nil, List.append_assoc]; done) | omega | (simp only [List.nil_append, List.length_append, List.length_cons, List.length_nil]; omega) | (simp [ei, eb, es, ec]; done) | simp [ei, eb, es, ec])) ?_)
          first | exact trivial | exact rfl
        · obtain ⟨v755, hv756, H⟩ := call_st H
          refine ⟨(65533, v755), ⟨hv756⟩, ⟨trivial⟩, ?_⟩
          refine And.intro ⟨rfl⟩ ?_
          refine if_st H (fun h757 H => ?_) (fun h757 H => ?_)
          · replace H := some_st H
            dsimp only [stp, sm] at H
            have hfin := fin_st H
            repeat (refine And.intro (Ob.mk (by first | (rw [← hfin] <;> first | exact rfl | exact Iff.rfl | exact ⟨rfl, rfl⟩ | exact decide_eq_true_iff | (refine ⟨?_, ?_⟩ <;> first | exact rfl | (simp only [ei, eb, es, ec, List.map_append, List.flatMap_append, List.nil_append, List.append_nil, List.append_assoc]; done) | omega | (simp only [List.nil_append, List.length_append, List.length_cons, List.length_nil]; omega) | (simp [ei, eb, es, ec]; done)) | (constructor <;> first | exact rfl | (simp only [ei, eb, es, ec, List.map_append, List.flatMap_append, List.nil_append, List.append_nil, List.append_assoc]; done) | omega | (simp only [List.nil_append, List.length_append, List.length_cons, List.length_nil]; omega) | (simp [ei, eb, es, ec]; done)) | exact rfl | (simp only [ei, eb, es, ec, List.map_append, List.flatMap_append, List.nil_append, List.append_nil, List.append_assoc]; done) | omega | (simp only [List.nil_append, List.length_append, List.length_cons, List.length_nil]; omega) | (simp [ei, eb, es, ec]; done) | simp [ei, eb, es, ec]) | first | exact rfl | exact Iff.rfl | exact ⟨rfl, rfl⟩ | exact decide_eq_true_iff | (refine ⟨?_, ?_⟩ <;> first | exact rfl | (simp only [ei, eb, es, ec, List.map_append, List.flatMap_append, List.nil_append, List.append_nil, List.append_assoc]; done) | omega | (simp only [List.nil_append, List.length_append, List.length_cons, List.length_nil]; omega) | (simp [ei, eb, es, ec]; done)) | (constructor <;> first | exact rfl | (simp only [ei, eb, es, ec, List.map_append, List.flatMap_append, List.nil_append, List.append_nil, List.append_assoc]; done) | omega | (simp only [List.nil_append, List.length_append, List.length_cons, List.length_nil]; omega) | (simp [ei, eb, es, ec]; done)) | exact rfl | (simp only [ei, eb, es, ec, List.map_append, List.flatMap_append, List.nil_append, List.append_nil, List.append_assoc]; done) | omega | (simp only [List.nil_append, List.length_append, List.length_cons, List.length_nil]; omega) | (simp [ei, eb, es, ec]; done) | simp [ei, eb, es, ec])) ?_)
            first | exact trivial | exact rfl
          · refine ob_ck H fun h758 H => ?_
            replace H := some_st H
            refine ⟨(m715, s714 + v750.2.1), ⟨H, Nat.lt_succ_self _⟩, ⟨trivial⟩, ⟨rfl⟩, ?_⟩
            repeat (refine And.intro (Ob.mk (by first | exact rfl | exact Iff.rfl | exact ⟨rfl, rfl⟩ | exact decide_eq_true_iff | (refine ⟨?_, ?_⟩ <;> first | exact rfl | (simp only [ei, eb, es, ec, List.map_append, List.flatMap_append, List.nil_append, List.append_nil, List.append_assoc]; done) | omega | (simp only [List.nil_append, List.length_append, List.length_cons, List.length_nil]; omega) | (simp [ei, eb, es, ec]; done)) | (constructor <;> first | exact rfl | (simp only [ei, eb, es, ec, List.map_append, List.flatMap_append, List.nil_append, List.append_nil, List.append_assoc]; done) | omega | (simp only [List.nil_append, List.length_append, List.length_cons, List.length_nil]; omega) | (simp [ei, eb, es, ec]; done)) | exact rfl | (simp only [ei, eb, es, ec, List.map_append, List.flatMap_append, List.nil_append, List.append_nil, List.append_assoc]; done) | omega | (simp only [List.nil_append, List.length_append, List.length_cons, List.length_nil]; omega) | (simp [ei, eb, es, ec]; done) | simp [ei, eb, es, ec])) ?_)
            first | exact trivial | exact rfl
    · replace H := some_st H
      dsimp only [stp, sm] at H
      refine ⟨(), ⟨H⟩, ⟨rfl⟩, ?_⟩
      repeat (refine And.intro (Ob.mk (by first | exact rfl | exact Iff.rfl | exact ⟨rfl, rfl⟩ | exact decide_eq_true_iff | (refine ⟨?_, ?_⟩ <;> first | exact rfl | (simp only [ei, eb, es, ec, List.map_append, List.flatMap_append, List.nil_append, List.append_nil, List.append_assoc]; done) | omega | (simp only [List.nil_append, List.length_append, List.length_cons, List.length_nil]; omega) | (simp [ei, eb, es, ec]; done)) | (constructor <;> first | exact rfl | (simp only [ei, eb, es, ec, List.map_append, List.flatMap_append, List.nil_append, List.append_nil, List.append_assoc]; done) | omega | (simp only [List.nil_append, List.length_append, List.length_cons, List.length_nil]; omega) | (simp [ei, eb, es, ec]; done)) | exact rfl | (simp only [ei, eb, es, ec, List.map_append, List.flatMap_append, List.nil_append, List.append_nil, List.append_assoc]; done) | omega | (simp only [List.nil_append, List.length_append, List.length_cons, List.length_nil]; omega) | (simp [ei, eb, es, ec]; done) | simp [ei, eb, es, ec])) ?_)
      first | exact trivial | exact rfl
  · intro v710 H
    have hfin := fin_st H
    repeat (refine And.intro (Ob.mk (by first | (rw [← hfin] <;> first | exact rfl | exact Iff.rfl | exact ⟨rfl, rfl⟩ | exact decide_eq_true_iff | (refine ⟨?_, ?_⟩ <;> first | exact rfl | (simp only [ei, eb, es, ec, List.map_append, List.flatMap_append, List.nil_append, List.append_nil, List.append_assoc]; done) | omega | (simp only [List.nil_append, List.length_append, List.length_cons, List.length_nil]; omega) | (simp [ei, eb, es, ec]; done)) | (constructor <;> first | exact rfl | (simp only [ei, eb, es, ec, List.map_append, List.flatMap_append, List.nil_append, List.append_nil, List.append_assoc]; done) | omega | (simp only [List.nil_append, List.length_append, List.length_cons, List.length_nil]; omega) | (simp [ei, eb, es, ec]; done)) | exact rfl | (simp only [ei, eb, es, ec, List.map_append, List.flatMap_append, List.nil_append, List.append_nil, List.append_assoc]; done) | omega | (simp only [List.nil_append, List.length_append, List.length_cons, List.length_nil]; omega) | (simp [ei, eb, es, ec]; done) | simp [ei, eb, es, ec]) | first | exact rfl | exact Iff.rfl | exact ⟨rfl, rfl⟩ | exact decide_eq_true_iff | (refine ⟨?_, ?_⟩ <;> first | exact rfl | (simp only [ei, eb, es, ec, List.map_append, List.flatMap_append, List.nil_append, List.append_nil, List.append_assoc]; done) | omega | (simp only [List.nil_append, List.length_append, List.length_cons, List.length_nil]; omega) | (simp [ei, eb, es, ec]; done)) | (constructor <;> first | exact rfl | (simp only [ei, eb, es, ec, List.map_append, List.flatMap_append, List.nil_append, List.append_nil, List.append_assoc]; done) | omega | (simp only [List.nil_append, List.length_append, List.length_cons, List.length_nil]; omega) | (simp [ei, eb, es, ec]; done)) | exact rfl | (simp only [ei, eb, es, ec, List.map_append, List.flatMap_append, List.nil_append, List.append_nil, List.append_assoc]; done) | omega | (simp only [List.nil_append, List.length_append, List.length_cons, List.length_nil]; omega) | (simp [ei, eb, es, ec]; done) | simp [ei, eb, es, ec])) ?_)
    first | exact trivial | exact rfl

/-- placard/placardref01.Valid -/
noncomputable def g49 (a0 : ByteArray) : Option (Bool) :=
  ck (a0.size ≤ 140737488355328) <|
  jn (α := _) (β := List Int × List Int) (fun k992 =>
      (loopO (σ := List Int × List Int × Int) (ρ := List Int × List Int) (fun s995 =>
          if s995.2.2 < ((a0.size : Nat) : Int) then
            (
              ck (0 ≤ s995.2.2 ∧ s995.2.2 ≤ ((a0.size : Nat) : Int) ∧ ((a0.size : Nat) : Int) ≤ ((a0.size : Nat) : Int)) <|
              (g16 (((bytesOf a0).drop s995.2.2.toNat).take (((a0.size : Nat) : Int).toNat - s995.2.2.toNat))).bind fun v1047 =>
              if v1047.2.2 = true then
                (
                  ck ((s995.1.length + 1) * 4 ≤ 140737488355328) <|
                  ck ((s995.2.1.length + 1) * 8 ≤ 140737488355328) <|
                  ck (inR .i64 (s995.2.2 + 1)) <|
                  some (.go ((s995.1 ++ [65533]), (s995.2.1 ++ [s995.2.2]), s995.2.2 + 1))
                )
              else
                (
                  ck ((s995.1.length + 1) * 4 ≤ 140737488355328) <|
                  ck ((s995.2.1.length + 1) * 8 ≤ 140737488355328) <|
                  ck (inR .i64 (s995.2.2 + v1047.2.1)) <|
                  some (.go ((s995.1 ++ [v1047.1]), (s995.2.1 ++ [s995.2.2]), s995.2.2 + v1047.2.1))
                )
            )
          else
            some (.out (s995.1, s995.2.1))
        ) ([], [], 0)).bind fun o1041 =>
        k992 (o1041.1, o1041.2)
  ) (fun v991 =>
    jn (α := _) (β := List Int) (fun k1103 =>
        (loopO (σ := List Int × Int) (ρ := List Int) (fun s1106 =>
            if s1106.2 < ((v991.1.length : Nat) : Int) then
              (
                ck (0 ≤ s1106.2 ∧ s1106.2 < ((v991.1.length : Nat) : Int)) <|
                (g18 (v991.1.getD s1106.2.toNat 0)).bind fun v1127 =>
                ck ((s1106.1.length + v1127.length) * 1 ≤ 140737488355328) <|
                ck (inR .i64 (s1106.2 + 1)) <|
                some (.go ((s1106.1 ++ v1127), s1106.2 + 1))
              )
            else
              some (.out s1106.1)
          ) ([], 0)).bind fun o1124 =>
          k1103 o1124
    ) (fun v1102 =>
      ck (isBytes v1102) <|
      some (decide ((strOf v1102).data.toList = a0.data.toList))
    )
  )
noncomputable def k49 : Eng.CS := { f := 49, calm := true, more := 0, ι := ByteArray × Bool, ok := fun i => g49 i.1 = some i.2, rds := fun _ => [], args := fun i => [.w (.v (.string (i.1)))], res := fun i => bS i.2 }
set_option maxRecDepth 8000 in
set_option maxHeartbeats 4000000 in
theorem k49_ok : CalmOk Try.prog k49 := by
  refine R.calmspec Try.func49 nm49 rfl ?_
  rintro ⟨a0, r⟩ hok q _ args hargs
  match args, hargs with
  | [_], hargs =>
  obtain ⟨rfl, _⟩ := hargs
  refine ⟨envC [k16, k18] false [(43, 10), (46, 7)], 6, envC_ok (css_cons ⟨fun _ => k16_ok, fun h => (by cases h)⟩ (css_cons ⟨fun h => (by cases h), fun _ => k18_ok⟩ (css_nil))), rfl, (by intro x hx; simp only [List.mem_cons, List.not_mem_nil, or_false] at hx; rcases hx with rfl <;> rfl), ?_⟩
  have H : Gives (g49 a0) (fun a => a = r) := ⟨r, hok, rfl⟩
  unfold g49 at H
  clear hok
  refine ob_sb H fun h767 H q768 A762 c763 hq764 hc765 hR766 => ?_
  intro n769 hn770
  subst hn770
  refine R.cut_fam H 33 [] [] (fun v991 => [(4, .own 33), (5, .own 34)]) (fun v991 => [(33, .arr 21 1 (v991.1.length) (ei .i32 (v991.1))), (34, .arr 3 1 (v991.2.length) (ei .i64 (v991.2)))]) [] 2 (fun H => ?_)
  refine And.intro ?_ ?_
  · refine R.loop_fam (bind_st H) [0] [(4, 0, 21, 1), (5, 0, 3, 1)] (fun _ s995 => [(4, .own 23), (5, .own 24), (6, .v (.int .i64 (s995.2.2)))]) (fun _ s995 => [(23, .arr 21 1 (s995.1.length) (ei .i32 (s995.1))), (24, .arr 3 1 (s995.2.1.length) (ei .i64 (s995.2.1)))]) 2 (fun n1064 H => ?_)
    refine ⟨(n1064, _), ⟨H⟩, ⟨trivial⟩, ?_⟩
    repeat (refine And.intro (Ob.mk (by first | exact rfl | exact Iff.rfl | exact ⟨rfl, rfl⟩ | exact decide_eq_true_iff | (refine ⟨?_, ?_⟩ <;> first | exact rfl | (simp only [ei, eb, es, ec, List.map_append, List.flatMap_append, List.nil_append, List.append_nil, List.append_assoc]; done) | omega | (simp only [List.nil_append, List.length_append, List.length_cons, List.length_nil]; omega) | (simp [ei, eb, es, ec]; done)) | (constructor <;> first | exact rfl | (simp only [ei, eb, es, ec, List.map_append, List.flatMap_append, List.nil_append, List.append_nil, List.append_assoc]; done) | omega | (simp only [List.nil_append, List.length_append, List.length_cons, List.length_nil]; omega) | (simp [ei, eb, es, ec]; done)) | exact rfl | (simp only [ei, eb, es, ec, List.map_append, List.flatMap_append, List.nil_append, List.append_nil, List.append_assoc]; done) | omega | (simp only [List.nil_append, List.length_append, List.length_cons, List.length_nil]; omega) | (simp [ei, eb, es, ec]; done) | simp [ei, eb, es, ec])) ?_)
    rintro ⟨m0, s995⟩ H _
    obtain ⟨m996, hm0, H⟩ := IG_succ H
    dsimp only at hm0
    subst hm0
    try dsimp only at H
    refine if_st H (fun h1042 H => ?_) (fun h1042 H => ?_)
    · refine ob_sl hc765 H fun h1043 H => ?_
      have hs1044 := sl_ei hR766 (bytesOf_len a0) hc765 h1043
      intro n1045 hn1046
      subst hn1046
      obtain ⟨v1047, hv1048, H⟩ := call_st H
      refine ⟨((((bytesOf a0).drop s995.2.2.toNat).take (((a0.size : Nat) : Int).toNat - s995.2.2.toNat)), v1047), ⟨hv1048⟩, ⟨trivial⟩, ?_⟩
      refine And.intro ⟨(hs1044.2.1).symm, hs1044.2.2, ei_len.trans ((show _ = _ from hs1044.2.1).trans (Nat.mul_one _).symm), hs1044.1⟩ ?_
      refine if_st H (fun h1049 H => ?_) (fun h1049 H => ?_)
      · refine ob_app (by decide) (by first | exact ei_one | ((repeat (refine List.forall_mem_cons.2 ⟨rfl, ?_⟩)); intro y hy; cases hy; done) | (intro y hy; simp [ei, eb, es, ec] at hy; (first | (rcases hy with rfl | hy) | subst hy | skip); all_goals first | rfl | simp_all [Value.oneCell'])) H fun h1050 H => ?_
        intro n1051 hn1052
        subst hn1052
        refine ob_app (by decide) (by first | exact ei_one | ((repeat (refine List.forall_mem_cons.2 ⟨rfl, ?_⟩)); intro y hy; cases hy; done) | (intro y hy; simp [ei, eb, es, ec] at hy; (first | (rcases hy with rfl | hy) | subst hy | skip); all_goals first | rfl | simp_all [Value.oneCell'])) H fun h1053 H => ?_
        intro n1054 hn1055
        subst hn1055
        refine ob_ck H fun h1056 H => ?_
        replace H := some_st H
        refine ⟨(m996, ((s995.1 ++ [65533]), (s995.2.1 ++ [s995.2.2]), s995.2.2 + 1)), ⟨H, Nat.lt_succ_self _⟩, ⟨trivial⟩, ⟨rfl⟩, ?_⟩
        repeat (refine And.intro (Ob.mk (by first | exact rfl | exact Iff.rfl | exact ⟨rfl, rfl⟩ | exact decide_eq_true_iff | (refine ⟨?_, ?_⟩ <;> first | exact rfl | (simp only [ei, eb, es, ec, List.map_append, List.flatMap_append, List.nil_append, List.append_nil, List.append_assoc]; done) | omega | (simp only [List.nil_append, List.length_append, List.length_cons, List.length_nil]; omega) | (simp [ei, eb, es, ec]; done)) | (constructor <;> first | exact rfl | (simp only [ei, eb, es, ec, List.map_append, List.flatMap_append, List.nil_append, List.append_nil, List.append_assoc]; done) | omega | (simp only [List.nil_append, List.length_append, List.length_cons, List.length_nil]; omega) | (simp [ei, eb, es, ec]; done)) | exact rfl | (simp only [ei, eb, es, ec, List.map_append, List.flatMap_append, List.nil_append, List.append_nil, List.append_assoc]; done) | omega | (simp only [List.nil_append, List.length_append, List.length_cons, List.length_nil]; omega) | (simp [ei, eb, es, ec]; done) | simp [ei, eb, es, ec])) ?_)
        first | exact trivial | exact rfl
      · refine ob_app (by decide) (by first | exact ei_one | ((repeat (refine List.forall_mem_cons.2 ⟨rfl, ?_⟩)); intro y hy; cases hy; done) | (intro y hy; simp [ei, eb, es, ec] at hy; (first | (rcases hy with rfl | hy) | subst hy | skip); all_goals first | rfl | simp_all [Value.oneCell'])) H fun h1057 H => ?_
        intro n1058 hn1059
        subst hn1059
        refine ob_app (by decide) (by first | exact ei_one | ((repeat (refine List.forall_mem_cons.2 ⟨rfl, ?_⟩)); intro y hy; cases hy; done) | (intro y hy; simp [ei, eb, es, ec] at hy; (first | (rcases hy with rfl | hy) | subst hy | skip); all_goals first | rfl | simp_all [Value.oneCell'])) H fun h1060 H => ?_
        intro n1061 hn1062
        subst hn1062
        refine ob_ck H fun h1063 H => ?_
        replace H := some_st H
        refine ⟨(m996, ((s995.1 ++ [v1047.1]), (s995.2.1 ++ [s995.2.2]), s995.2.2 + v1047.2.1)), ⟨H, Nat.lt_succ_self _⟩, ⟨trivial⟩, ⟨rfl⟩, ?_⟩
        repeat (refine And.intro (Ob.mk (by first | exact rfl | exact Iff.rfl | exact ⟨rfl, rfl⟩ | exact decide_eq_true_iff | (refine ⟨?_, ?_⟩ <;> first | exact rfl | (simp only [ei, eb, es, ec, List.map_append, List.flatMap_append, List.nil_append, List.append_nil, List.append_assoc]; done) | omega | (simp only [List.nil_append, List.length_append, List.length_cons, List.length_nil]; omega) | (simp [ei, eb, es, ec]; done)) | (constructor <;> first | exact rfl | (simp only [ei, eb, es, ec, List.map_append, List.flatMap_append, List.nil_append, List.append_nil, List.append_assoc]; done) | omega | (simp only [List.nil_append, List.length_append, List.length_cons, List.length_nil]; omega) | (simp [ei, eb, es, ec]; done)) | exact rfl | (simp only [ei, eb, es, ec, List.map_append, List.flatMap_append, List.nil_append, List.append_nil, List.append_assoc]; done) | omega | (simp only [List.nil_append, List.length_append, List.length_cons, List.length_nil]; omega) | (simp [ei, eb, es, ec]; done) | simp [ei, eb, es, ec])) ?_)
        first | exact trivial | exact rfl
    · replace H := some_st H
      dsimp only [stp, sm] at H
      refine ⟨(s995.1, s995.2.1), ⟨H⟩, ⟨rfl⟩, ?_⟩
      repeat (refine And.intro (Ob.mk (by first | exact rfl | exact Iff.rfl | exact ⟨rfl, rfl⟩ | exact decide_eq_true_iff | (refine ⟨?_, ?_⟩ <;> first | exact rfl | (simp only [ei, eb, es, ec, List.map_append, List.flatMap_append, List.nil_append, List.append_nil, List.append_assoc]; done) | omega | (simp only [List.nil_append, List.length_append, List.length_cons, List.length_nil]; omega) | (simp [ei, eb, es, ec]; done)) | (constructor <;> first | exact rfl | (simp only [ei, eb, es, ec, List.map_append, List.flatMap_append, List.nil_append, List.append_nil, List.append_assoc]; done) | omega | (simp only [List.nil_append, List.length_append, List.length_cons, List.length_nil]; omega) | (simp [ei, eb, es, ec]; done)) | exact rfl | (simp only [ei, eb, es, ec, List.map_append, List.flatMap_append, List.nil_append, List.append_nil, List.append_assoc]; done) | omega | (simp only [List.nil_append, List.length_append, List.length_cons, List.length_nil]; omega) | (simp [ei, eb, es, ec]; done) | simp [ei, eb, es, ec])) ?_)
      first | exact trivial | exact rfl
  · intro v991 H
    refine R.cut_fam H 49 [] [] (fun v1102 => [(3, .own 49)]) (fun v1102 => [(49, .arr 5 1 (v1102.length) (ei .u8 (v1102)))]) [(33, .arr 21 1 (v991.1.length) (ei .i32 (v991.1))), (34, .arr 3 1 (v991.2.length) (ei .i64 (v991.2)))] 1 (fun H => ?_)
    refine And.intro ?_ ?_
    · refine R.loop_fam (bind_st H) [4] [(3, 0, 5, 1)] (fun _ s1106 => [(3, .own 41), (6, .v (.int .i64 (s1106.2)))]) (fun _ s1106 => [(41, .arr 5 1 (s1106.1.length) (ei .u8 (s1106.1)))]) 1 (fun n1133 H => ?_)
      refine ⟨(n1133, _), ⟨H⟩, ⟨trivial⟩, ?_⟩
      repeat (refine And.intro (Ob.mk (by first | exact rfl | exact Iff.rfl | exact ⟨rfl, rfl⟩ | exact decide_eq_true_iff | (refine ⟨?_, ?_⟩ <;> first | exact rfl | (simp only [ei, eb, es, ec, List.map_append, List.flatMap_append, List.nil_append, List.append_nil, List.append_assoc]; done) | omega | (simp only [List.nil_append, List.length_append, List.length_cons, List.length_nil]; omega) | (simp [ei, eb, es, ec]; done)) | (constructor <;> first | exact rfl | (simp only [ei, eb, es, ec, List.map_append, List.flatMap_append, List.nil_append, List.append_nil, List.append_assoc]; done) | omega | (simp only [List.nil_append, List.length_append, List.length_cons, List.length_nil]; omega) | (simp [ei, eb, es, ec]; done)) | exact rfl | (simp only [ei, eb, es, ec, List.map_append, List.flatMap_append, List.nil_append, List.append_nil, List.append_assoc]; done) | omega | (simp only [List.nil_append, List.length_append, List.length_cons, List.length_nil]; omega) | (simp [ei, eb, es, ec]; done) | simp [ei, eb, es, ec])) ?_)
      rintro ⟨m0, s1106⟩ H _
      obtain ⟨m1107, hm0, H⟩ := IG_succ H
      dsimp only at hm0
      subst hm0
      try dsimp only at H
      refine if_st H (fun h1125 H => ?_) (fun h1125 H => ?_)
      · refine ob_ck H fun h1126 H => ?_
        refine ld_int (e := v991.1.getD s1106.2.toNat 0) (own_get (ys := ei .i32 v991.1) (by first | rfl | simp [ei, eb, es, ec]) (ei_get (l := v991.1) (by first | exact tn h1126 | (have := tn h1126; simp at this ⊢; omega) | (have := tn h1126; simp; omega)))) ?_
        obtain ⟨v1127, hv1128, H⟩ := call_st H
        refine ⟨(v991.1.getD s1106.2.toNat 0, v1127), ⟨hv1128⟩, ⟨trivial⟩, ?_⟩
        refine And.intro ⟨rfl⟩ ?_
        refine ob_app (by decide) (by first | exact ei_one | ((repeat (refine List.forall_mem_cons.2 ⟨rfl, ?_⟩)); intro y hy; cases hy; done) | (intro y hy; simp [ei, eb, es, ec] at hy; (first | (rcases hy with rfl | hy) | subst hy | skip); all_goals first | rfl | simp_all [Value.oneCell'])) H fun h1129 H => ?_
        intro n1130 hn1131
        subst hn1131
        refine ob_ck H fun h1132 H => ?_
        replace H := some_st H
        refine ⟨(m1107, ((s1106.1 ++ v1127), s1106.2 + 1)), ⟨H, Nat.lt_succ_self _⟩, ⟨trivial⟩, ⟨rfl⟩, ?_⟩
        repeat (refine And.intro (Ob.mk (by first | exact rfl | exact Iff.rfl | exact ⟨rfl, rfl⟩ | exact decide_eq_true_iff | (refine ⟨?_, ?_⟩ <;> first | exact rfl | (simp only [ei, eb, es, ec, List.map_append, List.flatMap_append, List.nil_append, List.append_nil, List.append_assoc]; done) | omega | (simp only [List.nil_append, List.length_append, List.length_cons, List.length_nil]; omega) | (simp [ei, eb, es, ec]; done)) | (constructor <;> first | exact rfl | (simp only [ei, eb, es, ec, List.map_append, List.flatMap_append, List.nil_append, List.append_nil, List.append_assoc]; done) | omega | (simp only [List.nil_append, List.length_append, List.length_cons, List.length_nil]; omega) | (simp [ei, eb, es, ec]; done)) | exact rfl | (simp only [ei, eb, es, ec, List.map_append, List.flatMap_append, List.nil_append, List.append_nil, List.append_assoc]; done) | omega | (simp only [List.nil_append, List.length_append, List.length_cons, List.length_nil]; omega) | (simp [ei, eb, es, ec]; done) | simp [ei, eb, es, ec])) ?_)
        first | exact trivial | exact rfl
      · replace H := some_st H
        dsimp only [stp, sm] at H
        refine ⟨s1106.1, ⟨H⟩, ⟨rfl⟩, ?_⟩
        repeat (refine And.intro (Ob.mk (by first | exact rfl | exact Iff.rfl | exact ⟨rfl, rfl⟩ | exact decide_eq_true_iff | (refine ⟨?_, ?_⟩ <;> first | exact rfl | (simp only [ei, eb, es, ec, List.map_append, List.flatMap_append, List.nil_append, List.append_nil, List.append_assoc]; done) | omega | (simp only [List.nil_append, List.length_append, List.length_cons, List.length_nil]; omega) | (simp [ei, eb, es, ec]; done)) | (constructor <;> first | exact rfl | (simp only [ei, eb, es, ec, List.map_append, List.flatMap_append, List.nil_append, List.append_nil, List.append_assoc]; done) | omega | (simp only [List.nil_append, List.length_append, List.length_cons, List.length_nil]; omega) | (simp [ei, eb, es, ec]; done)) | exact rfl | (simp only [ei, eb, es, ec, List.map_append, List.flatMap_append, List.nil_append, List.append_nil, List.append_assoc]; done) | omega | (simp only [List.nil_append, List.length_append, List.length_cons, List.length_nil]; omega) | (simp [ei, eb, es, ec]; done) | simp [ei, eb, es, ec])) ?_)
        first | exact trivial | exact rfl
    · intro v1102 H
      refine ob_str (l := v1102) H fun h1134 H => ?_
      have hfin := fin_st H
      repeat (refine And.intro (Ob.mk (by first | (rw [← hfin] <;> first | exact rfl | exact Iff.rfl | exact ⟨rfl, rfl⟩ | exact decide_eq_true_iff | (refine ⟨?_, ?_⟩ <;> first | exact rfl | (simp only [ei, eb, es, ec, List.map_append, List.flatMap_append, List.nil_append, List.append_nil, List.append_assoc]; done) | omega | (simp only [List.nil_append, List.length_append, List.length_cons, List.length_nil]; omega) | (simp [ei, eb, es, ec]; done)) | (constructor <;> first | exact rfl | (simp only [ei, eb, es, ec, List.map_append, List.flatMap_append, List.nil_append, List.append_nil, List.append_assoc]; done) | omega | (simp only [List.nil_append, List.length_append, List.length_cons, List.length_nil]; omega) | (simp [ei, eb, es, ec]; done)) | exact rfl | (simp only [ei, eb, es, ec, List.map_append, List.flatMap_append, List.nil_append, List.append_nil, List.append_assoc]; done) | omega | (simp only [List.nil_append, List.length_append, List.length_cons, List.length_nil]; omega) | (simp [ei, eb, es, ec]; done) | simp [ei, eb, es, ec]) | first | exact rfl | exact Iff.rfl | exact ⟨rfl, rfl⟩ | exact decide_eq_true_iff | (refine ⟨?_, ?_⟩ <;> first | exact rfl | (simp only [ei, eb, es, ec, List.map_append, List.flatMap_append, List.nil_append, List.append_nil, List.append_assoc]; done) | omega | (simp only [List.nil_append, List.length_append, List.length_cons, List.length_nil]; omega) | (simp [ei, eb, es, ec]; done)) | (constructor <;> first | exact rfl | (simp only [ei, eb, es, ec, List.map_append, List.flatMap_append, List.nil_append, List.append_nil, List.append_assoc]; done) | omega | (simp only [List.nil_append, List.length_append, List.length_cons, List.length_nil]; omega) | (simp [ei, eb, es, ec]; done)) | exact rfl | (simp only [ei, eb, es, ec, List.map_append, List.flatMap_append, List.nil_append, List.append_nil, List.append_assoc]; done) | omega | (simp only [List.nil_append, List.length_append, List.length_cons, List.length_nil]; omega) | (simp [ei, eb, es, ec]; done) | simp [ei, eb, es, ec])) ?_)
      first | exact trivial | exact rfl

/-- placard/placardlaw01.RunesText -/
noncomputable def g11 (a0 : List Int) (a1 : Int) : Option (Bool) :=
  ck (0 ≤ (0 : Int) ∧ (0 : Int) ≤ gmin ((a0.length : Nat) : Int) 400 ∧ gmin ((a0.length : Nat) : Int) 400 ≤ ((a0.length : Nat) : Int)) <|
  jn (α := _) (β := List Int × List Int) (fun k1364 =>
      (loopO (σ := List Int × List Int × Int) (ρ := List Int × List Int) (fun s1367 =>
          if s1367.2.2 < (((gmin ((a0.length : Nat) : Int) 400).toNat - (0 : Int).toNat : Nat) : Int) then
            (
              ck (0 ≤ s1367.2.2 ∧ s1367.2.2 ≤ (((gmin ((a0.length : Nat) : Int) 400).toNat - (0 : Int).toNat : Nat) : Int) ∧ (((gmin ((a0.length : Nat) : Int) 400).toNat - (0 : Int).toNat : Nat) : Int) ≤ (((gmin ((a0.length : Nat) : Int) 400).toNat - (0 : Int).toNat : Nat) : Int)) <|
              (g16 ((((a0.drop (0 : Int).toNat).take ((gmin ((a0.length : Nat) : Int) 400).toNat - (0 : Int).toNat)).drop s1367.2.2.toNat).take ((((gmin ((a0.length : Nat) : Int) 400).toNat - (0 : Int).toNat : Nat) : Int).toNat - s1367.2.2.toNat))).bind fun v1419 =>
              if v1419.2.2 = true then
                (
                  ck ((s1367.1.length + 1) * 4 ≤ 140737488355328) <|
                  ck ((s1367.2.1.length + 1) * 8 ≤ 140737488355328) <|
                  ck (inR .i64 (s1367.2.2 + 1)) <|
                  some (.go ((s1367.1 ++ [65533]), (s1367.2.1 ++ [s1367.2.2]), s1367.2.2 + 1))
                )
              else
                (
                  ck ((s1367.1.length + 1) * 4 ≤ 140737488355328) <|
                  ck ((s1367.2.1.length + 1) * 8 ≤ 140737488355328) <|
                  ck (inR .i64 (s1367.2.2 + v1419.2.1)) <|
                  some (.go ((s1367.1 ++ [v1419.1]), (s1367.2.1 ++ [s1367.2.2]), s1367.2.2 + v1419.2.1))
                )
            )
          else
            some (.out (s1367.1, s1367.2.1))
        ) ([], [], 0)).bind fun o1413 =>
        k1364 (o1413.1, o1413.2)
  ) (fun v1363 =>
    ck (isBytes ((a0.drop (0 : Int).toNat).take ((gmin ((a0.length : Nat) : Int) 400).toNat - (0 : Int).toNat))) <|
    ck (inR .i64 a1) <|
    (g44 (strOf ((a0.drop (0 : Int).toNat).take ((gmin ((a0.length : Nat) : Int) 400).toNat - (0 : Int).toNat))) a1).bind fun v1439 =>
    ck (isBytes ((a0.drop (0 : Int).toNat).take ((gmin ((a0.length : Nat) : Int) 400).toNat - (0 : Int).toNat))) <|
    ck (inR .i64 ((((gmin ((a0.length : Nat) : Int) 400).toNat - (0 : Int).toNat : Nat) : Int) + 1)) <|
    (g44 (strOf ((a0.drop (0 : Int).toNat).take ((gmin ((a0.length : Nat) : Int) 400).toNat - (0 : Int).toNat))) ((((gmin ((a0.length : Nat) : Int) 400).toNat - (0 : Int).toNat : Nat) : Int) + 1)).bind fun v1443 =>
    (g32 ((a0.drop (0 : Int).toNat).take ((gmin ((a0.length : Nat) : Int) 400).toNat - (0 : Int).toNat))).bind fun v1445 =>
    jn (α := _) (β := Bool) (fun k3023 =>
        ck (inR .i64 a1) <|
        if ¬ ((v1439.1.length : Nat) : Int) = (gmin ((v1363.1.length : Nat) : Int) a1) then
          k3023 true
        else
          (
            if ¬ ((v1439.2.length : Nat) : Int) = (gmin ((v1363.1.length : Nat) : Int) a1) then
              k3023 true
            else
              (
                if ((v1363.1.length : Nat) : Int) < (gmin ((v1363.1.length : Nat) : Int) a1) then
                  k3023 true
                else
                  (
                    if ((v1363.2.length : Nat) : Int) < (gmin ((v1363.1.length : Nat) : Int) a1) then
                      k3023 true
                    else
                      (
                        jn (α := _) (β := Unit) (fun k3062 =>
                            (loopO (σ := Int) (ρ := (Unit) ⊕ (Unit)) (fun s3065 =>
                                if s3065 < (gmin ((v1363.1.length : Nat) : Int) a1) then
                                  (
                                    ck (0 ≤ s3065 ∧ s3065 < ((v1439.1.length : Nat) : Int)) <|
                                    ck (0 ≤ s3065 ∧ s3065 < ((v1363.1.length : Nat) : Int)) <|
                                    if ¬ (v1439.1.getD s3065.toNat 0) = (v1363.1.getD s3065.toNat 0) then
                                      some (.out (.inl (())))
                                    else
                                      (
                                        ck (0 ≤ s3065 ∧ s3065 < ((v1439.2.length : Nat) : Int)) <|
                                        ck (0 ≤ s3065 ∧ s3065 < ((v1363.2.length : Nat) : Int)) <|
                                        if ¬ (v1439.2.getD s3065.toNat 0) = (v1363.2.getD s3065.toNat 0) then
                                          some (.out (.inl (())))
                                        else
                                          (
                                            ck (inR .i64 (s3065 + 1)) <|
                                            some (.go (s3065 + 1))
                                          )
                                      )
                                  )
                                else
                                  some (.out (.inr (())))
                              ) 0).bind fun o3083 =>
                            sm o3083 (fun o3092 =>
                                k3023 true
                              ) (fun o3093 =>
                                k3062 ()
                              )
                        ) (fun v3061 =>
                          if ¬ ((v1443.1.length : Nat) : Int) = ((v1363.1.length : Nat) : Int) then
                            k3023 true
                          else
                            (
                              if ¬ ((v1443.2.length : Nat) : Int) = ((v1363.1.length : Nat) : Int) then
                                k3023 true
                              else
                                (
                                  if ((v1363.1.length : Nat) : Int) < ((v1363.1.length : Nat) : Int) then
                                    k3023 true
                                  else
                                    (
                                      if ((v1363.2.length : Nat) : Int) < ((v1363.1.length : Nat) : Int) then
                                        k3023 true
                                      else
                                        (
                                          jn (α := _) (β := Unit) (fun k3132 =>
                                              (loopO (σ := Int) (ρ := (Unit) ⊕ (Unit)) (fun s3135 =>
                                                  if s3135 < ((v1363.1.length : Nat) : Int) then
                                                    (
                                                      ck (0 ≤ s3135 ∧ s3135 < ((v1443.1.length : Nat) : Int)) <|
                                                      ck (0 ≤ s3135 ∧ s3135 < ((v1363.1.length : Nat) : Int)) <|
                                                      if ¬ (v1443.1.getD s3135.toNat 0) = (v1363.1.getD s3135.toNat 0) then
                                                        some (.out (.inl (())))
                                                      else
                                                        (
                                                          ck (0 ≤ s3135 ∧ s3135 < ((v1443.2.length : Nat) : Int)) <|
                                                          ck (0 ≤ s3135 ∧ s3135 < ((v1363.2.length : Nat) : Int)) <|
                                                          if ¬ (v1443.2.getD s3135.toNat 0) = (v1363.2.getD s3135.toNat 0) then
                                                            some (.out (.inl (())))
                                                          else
                                                            (
                                                              ck (inR .i64 (s3135 + 1)) <|
                                                              some (.go (s3135 + 1))
                                                            )
                                                        )
                                                    )
                                                  else
                                                    some (.out (.inr (())))
                                                ) 0).bind fun o3153 =>
                                              sm o3153 (fun o3162 =>
                                                  k3023 true
                                                ) (fun o3163 =>
                                                  k3132 ()
                                                )
                                          ) (fun v3131 =>
                                            jn (α := _) (β := List Int × List Int) (fun k3238 =>
                                                (loopO (σ := List Int × List Int × Int) (ρ := List Int × List Int) (fun s3241 =>
                                                    if s3241.2.2 < (((gmin ((a0.length : Nat) : Int) 400).toNat - (0 : Int).toNat : Nat) : Int) then
                                                      (
                                                        ck (0 ≤ s3241.2.2 ∧ s3241.2.2 ≤ (((gmin ((a0.length : Nat) : Int) 400).toNat - (0 : Int).toNat : Nat) : Int) ∧ (((gmin ((a0.length : Nat) : Int) 400).toNat - (0 : Int).toNat : Nat) : Int) ≤ (((gmin ((a0.length : Nat) : Int) 400).toNat - (0 : Int).toNat : Nat) : Int)) <|
                                                        (g16 ((((a0.drop (0 : Int).toNat).take ((gmin ((a0.length : Nat) : Int) 400).toNat - (0 : Int).toNat)).drop s3241.2.2.toNat).take ((((gmin ((a0.length : Nat) : Int) 400).toNat - (0 : Int).toNat : Nat) : Int).toNat - s3241.2.2.toNat))).bind fun v3293 =>
                                                        if v3293.2.2 = true then
                                                          (
                                                            ck ((s3241.1.length + 1) * 4 ≤ 140737488355328) <|
                                                            ck ((s3241.2.1.length + 1) * 8 ≤ 140737488355328) <|
                                                            ck (inR .i64 (s3241.2.2 + 1)) <|
                                                            some (.go ((s3241.1 ++ [65533]), (s3241.2.1 ++ [s3241.2.2]), s3241.2.2 + 1))
                                                          )
                                                        else
                                                          (
                                                            ck ((s3241.1.length + 1) * 4 ≤ 140737488355328) <|
                                                            ck ((s3241.2.1.length + 1) * 8 ≤ 140737488355328) <|
                                                            ck (inR .i64 (s3241.2.2 + v3293.2.1)) <|
                                                            some (.go ((s3241.1 ++ [v3293.1]), (s3241.2.1 ++ [s3241.2.2]), s3241.2.2 + v3293.2.1))
                                                          )
                                                      )
                                                    else
                                                      some (.out (s3241.1, s3241.2.1))
                                                  ) ([], [], 0)).bind fun o3287 =>
                                                  k3238 (o3287.1, o3287.2)
                                            ) (fun v3237 =>
                                              jn (α := _) (β := List Int) (fun k3342 =>
                                                  (loopO (σ := List Int × Int) (ρ := List Int) (fun s3345 =>
                                                      if s3345.2 < ((v3237.1.length : Nat) : Int) then
                                                        (
                                                          ck (0 ≤ s3345.2 ∧ s3345.2 < ((v3237.1.length : Nat) : Int)) <|
                                                          (g18 (v3237.1.getD s3345.2.toNat 0)).bind fun v3366 =>
                                                          ck ((s3345.1.length + v3366.length) * 1 ≤ 140737488355328) <|
                                                          ck (inR .i64 (s3345.2 + 1)) <|
                                                          some (.go ((s3345.1 ++ v3366), s3345.2 + 1))
                                                        )
                                                      else
                                                        some (.out s3345.1)
                                                    ) ([], 0)).bind fun o3363 =>
                                                    k3342 o3363
                                              ) (fun v3341 =>
                                                ck (isBytes v3341) <|
                                                k3023 (decide (¬ (v1445.data.toList = (strOf v3341).data.toList)))
                                              )
                                            )
                                          )
                                        )
                                    )
                                )
                            )
                        )
                      )
                  )
              )
          )
    ) (fun v3022 =>
      if v3022 = true then
        some false
      else
        (
          ck (isBytes ((a0.drop (0 : Int).toNat).take ((gmin ((a0.length : Nat) : Int) 400).toNat - (0 : Int).toNat))) <|
          (g47 (strOf ((a0.drop (0 : Int).toNat).take ((gmin ((a0.length : Nat) : Int) 400).toNat - (0 : Int).toNat)))).bind fun v3376 =>
          if v3376 = ((v1363.1.length : Nat) : Int) then
            (
              ck (isBytes ((a0.drop (0 : Int).toNat).take ((gmin ((a0.length : Nat) : Int) 400).toNat - (0 : Int).toNat))) <|
              (g48 (strOf ((a0.drop (0 : Int).toNat).take ((gmin ((a0.length : Nat) : Int) 400).toNat - (0 : Int).toNat)))).bind fun v3380 =>
              ck (isBytes ((a0.drop (0 : Int).toNat).take ((gmin ((a0.length : Nat) : Int) 400).toNat - (0 : Int).toNat))) <|
              (g49 (strOf ((a0.drop (0 : Int).toNat).take ((gmin ((a0.length : Nat) : Int) 400).toNat - (0 : Int).toNat)))).bind fun v3383 =>
              if (v3380 = true) ↔ (v3383 = true) then
                (
                  (g48 v1445).bind fun v3386 =>
                  if v3386 = true then
                    (
                      (g20).bind fun v3389 =>
                      some v3389
                    )
                  else
                    some false
                )
              else
                some false
            )
          else
            some false
        )
    )
  )
noncomputable def k11 : Eng.CS := { f := 11, calm := true, more := 0, ι := (List Int) × Int × Bool, ok := fun i => g11 i.1 i.2.1 = some i.2.2, rds := fun _ => [], args := fun i => [.sl 1 i.1.length (ei .u8 i.1), .w (.v (.int .u8 (i.2.1)))], res := fun i => bS i.2.2 }
set_option maxRecDepth 8000 in
set_option maxHeartbeats 4000000 in
theorem k11_ok : CalmOk Try.prog k11 := by
  refine R.calmspec Try.func11 nm11 rfl ?_
  rintro ⟨a0, a1, r⟩ hok q _ args hargs
  match args, hargs with
  | [_, _], hargs =>
  obtain ⟨⟨A0, cp0, rfl, hc0, _, hR0⟩, rfl, _⟩ := hargs
  refine ⟨envC [k16, k18, k20, k32, k44, k47, k48, k49] false [(11, 7), (43, 10), (45, 8), (46, 7)], 6, envC_ok (css_cons ⟨fun _ => k16_ok, fun h => (by cases h)⟩ (css_cons ⟨fun h => (by cases h), fun _ => k18_ok⟩ (css_cons ⟨fun _ => k20_ok, fun h => (by cases h)⟩ (css_cons ⟨fun _ => k32_ok, fun h => (by cases h)⟩ (css_cons ⟨fun h => (by cases h), fun _ => k44_ok⟩ (css_cons ⟨fun _ => k47_ok, fun h => (by cases h)⟩ (css_cons ⟨fun _ => k48_ok, fun h => (by cases h)⟩ (css_cons ⟨fun _ => k49_ok, fun h => (by cases h)⟩ (css_nil))))))))), rfl, (by intro x hx; simp only [List.mem_cons, List.not_mem_nil, or_false] at hx; rcases hx with rfl | rfl <;> rfl), ?_⟩
  have H : Gives (g11 a0 a1) (fun a => a = r) := ⟨r, hok, rfl⟩
  unfold g11 at H
  clear hok
  refine ob_sl hc0 H fun h1139 H => ?_
  have hs1140 := sl_ei hR0 rfl hc0 h1139
  intro n1141 hn1142
  subst hn1142
  refine R.cut_fam H 35 [] [] (fun v1363 => [(4, .own 35), (5, .own 36)]) (fun v1363 => [(35, .arr 21 1 (v1363.1.length) (ei .i32 (v1363.1))), (36, .arr 3 1 (v1363.2.length) (ei .i64 (v1363.2)))]) [] 2 (fun H => ?_)
  refine And.intro ?_ ?_
  · refine R.loop_fam (bind_st H) [0] [(4, 0, 21, 1), (5, 0, 3, 1)] (fun _ s1367 => [(4, .own 25), (5, .own 26), (6, .v (.int .i64 (s1367.2.2)))]) (fun _ s1367 => [(25, .arr 21 1 (s1367.1.length) (ei .i32 (s1367.1))), (26, .arr 3 1 (s1367.2.1.length) (ei .i64 (s1367.2.1)))]) 2 (fun n1436 H => ?_)
    refine ⟨(n1436, _), ⟨H⟩, ⟨trivial⟩, ?_⟩
    repeat (refine And.intro (Ob.mk (by first | exact rfl | exact Iff.rfl | exact ⟨rfl, rfl⟩ | exact decide_eq_true_iff | (refine ⟨?_, ?_⟩ <;> first | exact rfl | (simp only [ei, eb, es, ec, List.map_append, List.flatMap_append, List.nil_append, List.append_nil, List.append_assoc]; done) | omega | (simp only [List.nil_append, List.length_append, List.length_cons, List.length_nil]; omega) | (simp [ei, eb, es, ec]; done)) | (constructor <;> first | exact rfl | (simp only [ei, eb, es, ec, List.map_append, List.flatMap_append, List.nil_append, List.append_nil, List.append_assoc]; done) | omega | (simp only [List.nil_append, List.length_append, List.length_cons, List.length_nil]; omega) | (simp [ei, eb, es, ec]; done)) | exact rfl | (simp only [ei, eb, es, ec, List.map_append, List.flatMap_append, List.nil_append, List.append_nil, List.append_assoc]; done) | omega | (simp only [List.nil_append, List.length_append, List.length_cons, List.length_nil]; omega) | (simp [ei, eb, es, ec]; done) | simp [ei, eb, es, ec])) ?_)
    rintro ⟨m0, s1367⟩ H _
    obtain ⟨m1368, hm0, H⟩ := IG_succ H
    dsimp only at hm0
    subst hm0
    try dsimp only at H
    refine if_st H (fun h1414 H => ?_) (fun h1414 H => ?_)
    · refine ob_sl hs1140.2.2 H fun h1415 H => ?_
      have hs1416 := sl_ei hs1140.1 hs1140.2.1 hs1140.2.2 h1415
      intro n1417 hn1418
      subst hn1418
      obtain ⟨v1419, hv1420, H⟩ := call_st H
      refine ⟨(((((a0.drop (0 : Int).toNat).take ((gmin ((a0.length : Nat) : Int) 400).toNat - (0 : Int).toNat)).drop s1367.2.2.toNat).take ((((gmin ((a0.length : Nat) : Int) 400).toNat - (0 : Int).toNat : Nat) : Int).toNat - s1367.2.2.toNat)), v1419), ⟨hv1420⟩, ⟨trivial⟩, ?_⟩
      refine And.intro ⟨(hs1416.2.1).symm, hs1416.2.2, ei_len.trans ((show _ = _ from hs1416.2.1).trans (Nat.mul_one _).symm), hs1416.1⟩ ?_
      refine if_st H (fun h1421 H => ?_) (fun h1421 H => ?_)
      · refine ob_app (by decide) (by first | exact ei_one | ((repeat (refine List.forall_mem_cons.2 ⟨rfl, ?_⟩)); intro y hy; cases hy; done) | (intro y hy; simp [ei, eb, es, ec] at hy; (first | (rcases hy with rfl | hy) | subst hy | skip); all_goals first | rfl | simp_all [Value.oneCell'])) H fun h1422 H => ?_
        intro n1423 hn1424
        subst hn1424
        refine ob_app (by decide) (by first | exact ei_one | ((repeat (refine List.forall_mem_cons.2 ⟨rfl, ?_⟩)); intro y hy; cases hy; done) | (intro y hy; simp [ei, eb, es, ec] at hy; (first | (rcases hy with rfl | hy) | subst hy | skip); all_goals first | rfl | simp_all [Value.oneCell'])) H fun h1425 H => ?_
        intro n1426 hn1427
        subst hn1427
        refine ob_ck H fun h1428 H => ?_
        replace H := some_st H
        refine ⟨(m1368, ((s1367.1 ++ [65533]), (s1367.2.1 ++ [s1367.2.2]), s1367.2.2 + 1)), ⟨H, Nat.lt_succ_self _⟩, ⟨trivial⟩, ⟨rfl⟩, ?_⟩
        repeat (refine And.intro (Ob.mk (by first | exact rfl | exact Iff.rfl | exact ⟨rfl, rfl⟩ | exact decide_eq_true_iff | (refine ⟨?_, ?_⟩ <;> first | exact rfl | (simp only [ei, eb, es, ec, List.map_append, List.flatMap_append, List.nil_append, List.append_nil, List.append_assoc]; done) | omega | (simp only [List.nil_append, List.length_append, List.length_cons, List.length_nil]; omega) | (simp [ei, eb, es, ec]; done)) | (constructor <;> first | exact rfl | (simp only [ei, eb, es, ec, List.map_append, List.flatMap_append, List.nil_append, List.append_nil, List.append_assoc]; done) | omega | (simp only [List.nil_append, List.length_append, List.length_cons, List.length_nil]; omega) | (simp [ei, eb, es, ec]; done)) | exact rfl | (simp only [ei, eb, es, ec, List.map_append, List.flatMap_append, List.nil_append, List.append_nil, List.append_assoc]; done) | omega | (simp only [List.nil_append, List.length_append, List.length_cons, List.length_nil]; omega) | (simp [ei, eb, es, ec]; done) | simp [ei, eb, es, ec])) ?_)
        first | exact trivial | exact rfl
      · refine ob_app (by decide) (by first | exact ei_one | ((repeat (refine List.forall_mem_cons.2 ⟨rfl, ?_⟩)); intro y hy; cases hy; done) | (intro y hy; simp [ei, eb, es, ec] at hy; (first | (rcases hy with rfl | hy) | subst hy | skip); all_goals first | rfl | simp_all [Value.oneCell'])) H fun h1429 H => ?_
        intro n1430 hn1431
        subst hn1431
        refine ob_app (by decide) (by first | exact ei_one | ((repeat (refine List.forall_mem_cons.2 ⟨rfl, ?_⟩)); intro y hy; cases hy; done) | (intro y hy; simp [ei, eb, es, ec] at hy; (first | (rcases hy with rfl | hy) | subst hy | skip); all_goals first | rfl | simp_all [Value.oneCell'])) H fun h1432 H => ?_
        intro n1433 hn1434
        subst hn1434
        refine ob_ck H fun h1435 H => ?_
        replace H := some_st H
        refine ⟨(m1368, ((s1367.1 ++ [v1419.1]), (s1367.2.1 ++ [s1367.2.2]), s1367.2.2 + v1419.2.1)), ⟨H, Nat.lt_succ_self _⟩, ⟨trivial⟩, ⟨rfl⟩, ?_⟩
        repeat (refine And.intro (Ob.mk (by first | exact rfl | exact Iff.rfl | exact ⟨rfl, rfl⟩ | exact decide_eq_true_iff | (refine ⟨?_, ?_⟩ <;> first | exact rfl | (simp only [ei, eb, es, ec, List.map_append, List.flatMap_append, List.nil_append, List.append_nil, List.append_assoc]; done) | omega | (simp only [List.nil_append, List.length_append, List.length_cons, List.length_nil]; omega) | (simp [ei, eb, es, ec]; done)) | (constructor <;> first | exact rfl | (simp only [ei, eb, es, ec, List.map_append, List.flatMap_append, List.nil_append, List.append_nil, List.append_assoc]; done) | omega | (simp only [List.nil_append, List.length_append, List.length_cons, List.length_nil]; omega) | (simp [ei, eb, es, ec]; done)) | exact rfl | (simp only [ei, eb, es, ec, List.map_append, List.flatMap_append, List.nil_append, List.append_nil, List.append_assoc]; done) | omega | (simp only [List.nil_append, List.length_append, List.length_cons, List.length_nil]; omega) | (simp [ei, eb, es, ec]; done) | simp [ei, eb, es, ec])) ?_)
        first | exact trivial | exact rfl
    · replace H := some_st H
      dsimp only [stp, sm] at H
      refine ⟨(s1367.1, s1367.2.1), ⟨H⟩, ⟨rfl⟩, ?_⟩
      repeat (refine And.intro (Ob.mk (by first | exact rfl | exact Iff.rfl | exact ⟨rfl, rfl⟩ | exact decide_eq_true_iff | (refine ⟨?_, ?_⟩ <;> first | exact rfl | (simp only [ei, eb, es, ec, List.map_append, List.flatMap_append, List.nil_append, List.append_nil, List.append_assoc]; done) | omega | (simp only [List.nil_append, List.length_append, List.length_cons, List.length_nil]; omega) | (simp [ei, eb, es, ec]; done)) | (constructor <;> first | exact rfl | (simp only [ei, eb, es, ec, List.map_append, List.flatMap_append, List.nil_append, List.append_nil, List.append_assoc]; done) | omega | (simp only [List.nil_append, List.length_append, List.length_cons, List.length_nil]; omega) | (simp [ei, eb, es, ec]; done)) | exact rfl | (simp only [ei, eb, es, ec, List.map_append, List.flatMap_append, List.nil_append, List.append_nil, List.append_assoc]; done) | omega | (simp only [List.nil_append, List.length_append, List.length_cons, List.length_nil]; omega) | (simp [ei, eb, es, ec]; done) | simp [ei, eb, es, ec])) ?_)
      first | exact trivial | exact rfl
  · intro v1363 H
    refine rs_st hs1140.1 (by rw [ei_len, hs1140.2.1, Nat.mul_one]) ?_
    refine ob_str (l := ((a0.drop (0 : Int).toNat).take ((gmin ((a0.length : Nat) : Int) 400).toNat - (0 : Int).toNat))) H fun h1437 H => ?_
    refine ob_ck H fun h1438 H => ?_
    obtain ⟨v1439, hv1440, H⟩ := call_st H
    refine ⟨(strOf ((a0.drop (0 : Int).toNat).take ((gmin ((a0.length : Nat) : Int) 400).toNat - (0 : Int).toNat)), a1, v1439), ⟨hv1440⟩, ⟨trivial⟩, ?_⟩
    refine And.intro ⟨rfl⟩ ?_
    refine And.intro ⟨rfl⟩ ?_
    refine rs_st hs1140.1 (by rw [ei_len, hs1140.2.1, Nat.mul_one]) ?_
    refine ob_str (l := ((a0.drop (0 : Int).toNat).take ((gmin ((a0.length : Nat) : Int) 400).toNat - (0 : Int).toNat))) H fun h1441 H => ?_
    refine ob_ck H fun h1442 H => ?_
    obtain ⟨v1443, hv1444, H⟩ := call_st H
    refine ⟨(strOf ((a0.drop (0 : Int).toNat).take ((gmin ((a0.length : Nat) : Int) 400).toNat - (0 : Int).toNat)), (((gmin ((a0.length : Nat) : Int) 400).toNat - (0 : Int).toNat : Nat) : Int) + 1, v1443), ⟨hv1444⟩, ⟨trivial⟩, ?_⟩
    refine And.intro ⟨rfl⟩ ?_
    refine And.intro ⟨rfl⟩ ?_
    obtain ⟨v1445, hv1446, H⟩ := call_st H
    refine ⟨(((a0.drop (0 : Int).toNat).take ((gmin ((a0.length : Nat) : Int) 400).toNat - (0 : Int).toNat)), v1445), ⟨hv1446⟩, ⟨trivial⟩, ?_⟩
    refine And.intro ⟨(hs1140.2.1).symm, hs1140.2.2, ei_len.trans ((show _ = _ from hs1140.2.1).trans (Nat.mul_one _).symm), hs1140.1⟩ ?_
    refine R.cut_fam H 203 [0, 5, 11] [] (fun v3022 => [(64, bS v3022)]) (fun v3022 => []) [(35, .arr 21 1 (v1363.1.length) (ei .i32 (v1363.1))), (36, .arr 3 1 (v1363.2.length) (ei .i64 (v1363.2))), (51, .arr 21 1 (v1439.1.length) (ei .i32 (v1439.1))), (52, .arr 3 1 (v1439.2.length) (ei .i64 (v1439.2))), (64, .arr 21 1 (v1443.1.length) (ei .i32 (v1443.1))), (65, .arr 3 1 (v1443.2.length) (ei .i64 (v1443.2)))] 0 (fun H => ?_)
    refine And.intro ?_ ?_
    · refine ob_ck H fun h3024 H => ?_
      refine if_st H (fun h3025 H => ?_) (fun h3025 H => ?_)
      · refine ⟨true, ⟨H⟩, ⟨rfl⟩, ?_⟩
        repeat (refine And.intro (Ob.mk (by first | exact rfl | exact Iff.rfl | exact ⟨rfl, rfl⟩ | exact decide_eq_true_iff | (refine ⟨?_, ?_⟩ <;> first | exact rfl | (simp only [ei, eb, es, ec, List.map_append, List.flatMap_append, List.nil_append, List.append_nil, List.append_assoc]; done) | omega | (simp only [List.nil_append, List.length_append, List.length_cons, List.length_nil]; omega) | (simp [ei, eb, es, ec]; done)) | (constructor <;> first | exact rfl | (simp only [ei, eb, es, ec, List.map_append, List.flatMap_append, List.nil_append, List.append_nil, List.append_assoc]; done) | omega | (simp only [List.nil_append, List.length_append, List.length_cons, List.length_nil]; omega) | (simp [ei, eb, es, ec]; done)) | exact rfl | (simp only [ei, eb, es, ec, List.map_append, List.flatMap_append, List.nil_append, List.append_nil, List.append_assoc]; done) | omega | (simp only [List.nil_append, List.length_append, List.length_cons, List.length_nil]; omega) | (simp [ei, eb, es, ec]; done) | simp [ei, eb, es, ec])) ?_)
        first | exact trivial | exact rfl
      · refine if_st H (fun h3026 H => ?_) (fun h3026 H => ?_)
        · refine ⟨true, ⟨H⟩, ⟨rfl⟩, ?_⟩
          repeat (refine And.intro (Ob.mk (by first | exact rfl | exact Iff.rfl | exact ⟨rfl, rfl⟩ | exact decide_eq_true_iff | (refine ⟨?_, ?_⟩ <;> first | exact rfl | (simp only [ei, eb, es, ec, List.map_append, List.flatMap_append, List.nil_append, List.append_nil, List.append_assoc]; done) | omega | (simp only [List.nil_append, List.length_append, List.length_cons, List.length_nil]; omega) | (simp [ei, eb, es, ec]; done)) | (constructor <;> first | exact rfl | (simp only [ei, eb, es, ec, List.map_append, List.flatMap_append, List.nil_append, List.append_nil, List.append_assoc]; done) | omega | (simp only [List.nil_append, List.length_append, List.length_cons, List.length_nil]; omega) | (simp [ei, eb, es, ec]; done)) | exact rfl | (simp only [ei, eb, es, ec, List.map_append, List.flatMap_append, List.nil_append, List.append_nil, List.append_assoc]; done) | omega | (simp only [List.nil_append, List.length_append, List.length_cons, List.length_nil]; omega) | (simp [ei, eb, es, ec]; done) | simp [ei, eb, es, ec])) ?_)
          first | exact trivial | exact rfl
        · refine if_st H (fun h3027 H => ?_) (fun h3027 H => ?_)
          · refine ⟨true, ⟨H⟩, ⟨rfl⟩, ?_⟩
            repeat (refine And.intro (Ob.mk (by first | exact rfl | exact Iff.rfl | exact ⟨rfl, rfl⟩ | exact decide_eq_true_iff | (refine ⟨?_, ?_⟩ <;> first | exact rfl | (simp only [ei, eb, es, ec, List.map_append, List.flatMap_append, List.nil_append, List.append_nil, List.append_assoc]; done) | omega | (simp only [List.nil_append, List.length_append, List.length_cons, List.length_nil]; omega) | (simp [ei, eb, es, ec]; done)) | (constructor <;> first | exact rfl | (simp only [ei, eb, es, ec, List.map_append, List.flatMap_append, List.nil_append, List.append_nil, List.append_assoc]; done) | omega | (simp only [List.nil_append, List.length_append, List.length_cons, List.length_nil]; omega) | (simp [ei, eb, es, ec]; done)) | exact rfl | (simp only [ei, eb, es, ec, List.map_append, List.flatMap_append, List.nil_append, List.append_nil, List.append_assoc]; done) | omega | (simp only [List.nil_append, List.length_append, List.length_cons, List.length_nil]; omega) | (simp [ei, eb, es, ec]; done) | simp [ei, eb, es, ec])) ?_)
            first | exact trivial | exact rfl
          · refine if_st H (fun h3028 H => ?_) (fun h3028 H => ?_)
            · refine ⟨true, ⟨H⟩, ⟨rfl⟩, ?_⟩
              repeat (refine And.intro (Ob.mk (by first | exact rfl | exact Iff.rfl | exact ⟨rfl, rfl⟩ | exact decide_eq_true_iff | (refine ⟨?_, ?_⟩ <;> first | exact rfl | (simp only [ei, eb, es, ec, List.map_append, List.flatMap_append, List.nil_append, List.append_nil, List.append_assoc]; done) | omega | (simp only [List.nil_append, List.length_append, List.length_cons, List.length_nil]; omega) | (simp [ei, eb, es, ec]; done)) | (constructor <;> first | exact rfl | (simp only [ei, eb, es, ec, List.map_append, List.flatMap_append, List.nil_append, List.append_nil, List.append_assoc]; done) | omega | (simp only [List.nil_append, List.length_append, List.length_cons, List.length_nil]; omega) | (simp [ei, eb, es, ec]; done)) | exact rfl | (simp only [ei, eb, es, ec, List.map_append, List.flatMap_append, List.nil_append, List.append_nil, List.append_assoc]; done) | omega | (simp only [List.nil_append, List.length_append, List.length_cons, List.length_nil]; omega) | (simp [ei, eb, es, ec]; done) | simp [ei, eb, es, ec])) ?_)
              first | exact trivial | exact rfl
            · refine R.cut_fam H 125 [] [] (fun v3061 => []) (fun v3061 => []) [(35, .arr 21 1 (v1363.1.length) (ei .i32 (v1363.1))), (36, .arr 3 1 (v1363.2.length) (ei .i64 (v1363.2))), (51, .arr 21 1 (v1439.1.length) (ei .i32 (v1439.1))), (52, .arr 3 1 (v1439.2.length) (ei .i64 (v1439.2))), (64, .arr 21 1 (v1443.1.length) (ei .i32 (v1443.1))), (65, .arr 3 1 (v1443.2.length) (ei .i64 (v1443.2)))] 0 (fun H => ?_)
              refine And.intro ?_ ?_
              · refine R.loop_fam (bind_st H) [0, 1, 2, 3, 4] [] (fun _ s3065 => [(11, .v (.int .i64 (s3065)))]) (fun _ s3065 => []) 0 (fun n3094 H => ?_)
                refine ⟨(n3094, _), ⟨H⟩, ⟨trivial⟩, ?_⟩
                repeat (refine And.intro (Ob.mk (by first | exact rfl | exact Iff.rfl | exact ⟨rfl, rfl⟩ | exact decide_eq_true_iff | (refine ⟨?_, ?_⟩ <;> first | exact rfl | (simp only [ei, eb, es, ec, List.map_append, List.flatMap_append, List.nil_append, List.append_nil, List.append_assoc]; done) | omega | (simp only [List.nil_append, List.length_append, List.length_cons, List.length_nil]; omega) | (simp [ei, eb, es, ec]; done)) | (constructor <;> first | exact rfl | (simp only [ei, eb, es, ec, List.map_append, List.flatMap_append, List.nil_append, List.append_nil, List.append_assoc]; done) | omega | (simp only [List.nil_append, List.length_append, List.length_cons, List.length_nil]; omega) | (simp [ei, eb, es, ec]; done)) | exact rfl | (simp only [ei, eb, es, ec, List.map_append, List.flatMap_append, List.nil_append, List.append_nil, List.append_assoc]; done) | omega | (simp only [List.nil_append, List.length_append, List.length_cons, List.length_nil]; omega) | (simp [ei, eb, es, ec]; done) | simp [ei, eb, es, ec])) ?_)
                rintro ⟨m0, s3065⟩ H _
                obtain ⟨m3066, hm0, H⟩ := IG_succ H
                dsimp only at hm0
                subst hm0
                try dsimp only at H
                refine if_st H (fun h3084 H => ?_) (fun h3084 H => ?_)
                · refine And.intro ⟨by kernel_rfl⟩ ?_
                  refine ob_ck H fun h3085 H => ?_
                  refine ld_int (e := v1439.1.getD s3065.toNat 0) (own_get (ys := ei .i32 v1439.1) (by first | rfl | simp [ei, eb, es, ec]) (ei_get (l := v1439.1) (by first | exact tn h3085 | (have := tn h3085; simp at this ⊢; omega) | (have := tn h3085; simp; omega)))) ?_
                  refine ob_ck H fun h3086 H => ?_
                  refine ld_int (e := v1363.1.getD s3065.toNat 0) (own_get (ys := ei .i32 v1363.1) (by first | rfl | simp [ei, eb, es, ec]) (ei_get (l := v1363.1) (by first | exact tn h3086 | (have := tn h3086; simp at this ⊢; omega) | (have := tn h3086; simp; omega)))) ?_
                  refine if_st H (fun h3087 H => ?_) (fun h3087 H => ?_)
                  · replace H := some_st H
                    dsimp only [stp, sm] at H
                    refine ⟨true, ⟨H⟩, ⟨rfl⟩, ?_⟩
                    repeat (refine And.intro (Ob.mk (by first | exact rfl | exact Iff.rfl | exact ⟨rfl, rfl⟩ | exact decide_eq_true_iff | (refine ⟨?_, ?_⟩ <;> first | exact rfl | (simp only [ei, eb, es, ec, List.map_append, List.flatMap_append, List.nil_append, List.append_nil, List.append_assoc]; done) | omega | (simp only [List.nil_append, List.length_append, List.length_cons, List.length_nil]; omega) | (simp [ei, eb, es, ec]; done)) | (constructor <;> first | exact rfl | (simp only [ei, eb, es, ec, List.map_append, List.flatMap_append, List.nil_append, List.append_nil, List.append_assoc]; done) | omega | (simp only [List.nil_append, List.length_append, List.length_cons, List.length_nil]; omega) | (simp [ei, eb, es, ec]; done)) | exact rfl | (simp only [ei, eb, es, ec, List.map_append, List.flatMap_append, List.nil_append, List.append_nil, List.append_assoc]; done) | omega | (simp only [List.nil_append, List.length_append, List.length_cons, List.length_nil]; omega) | (simp [ei, eb, es, ec]; done) | simp [ei, eb, es, ec])) ?_)
                    first | exact trivial | exact rfl
                  · refine ob_ck H fun h3088 H => ?_
                    refine ld_int (e := v1439.2.getD s3065.toNat 0) (own_get (ys := ei .i64 v1439.2) (by first | rfl | simp [ei, eb, es, ec]) (ei_get (l := v1439.2) (by first | exact tn h3088 | (have := tn h3088; simp at this ⊢; omega) | (have := tn h3088; simp; omega)))) ?_
                    refine ob_ck H fun h3089 H => ?_
                    refine ld_int (e := v1363.2.getD s3065.toNat 0) (own_get (ys := ei .i64 v1363.2) (by first | rfl | simp [ei, eb, es, ec]) (ei_get (l := v1363.2) (by first | exact tn h3089 | (have := tn h3089; simp at this ⊢; omega) | (have := tn h3089; simp; omega)))) ?_
                    refine if_st H (fun h3090 H => ?_) (fun h3090 H => ?_)
                    · replace H := some_st H
                      dsimp only [stp, sm] at H
                      refine ⟨true, ⟨H⟩, ⟨rfl⟩, ?_⟩
                      repeat (refine And.intro (Ob.mk (by first | exact rfl | exact Iff.rfl | exact ⟨rfl, rfl⟩ | exact decide_eq_true_iff | (refine ⟨?_, ?_⟩ <;> first | exact rfl | (simp only [ei, eb, es, ec, List.map_append, List.flatMap_append, List.nil_append, List.append_nil, List.append_assoc]; done) | omega | (simp only [List.nil_append, List.length_append, List.length_cons, List.length_nil]; omega) | (simp [ei, eb, es, ec]; done)) | (constructor <;> first | exact rfl | (simp only [ei, eb, es, ec, List.map_append, List.flatMap_append, List.nil_append, List.append_nil, List.append_assoc]; done) | omega | (simp only [List.nil_append, List.length_append, List.length_cons, List.length_nil]; omega) | (simp [ei, eb, es, ec]; done)) | exact rfl | (simp only [ei, eb, es, ec, List.map_append, List.flatMap_append, List.nil_append, List.append_nil, List.append_assoc]; done) | omega | (simp only [List.nil_append, List.length_append, List.length_cons, List.length_nil]; omega) | (simp [ei, eb, es, ec]; done) | simp [ei, eb, es, ec])) ?_)
                      first | exact trivial | exact rfl
                    · refine ob_ck H fun h3091 H => ?_
                      replace H := some_st H
                      refine ⟨(m3066, s3065 + 1), ⟨H, Nat.lt_succ_self _⟩, ⟨trivial⟩, ⟨rfl⟩, ?_⟩
                      repeat (refine And.intro (Ob.mk (by first | exact rfl | exact Iff.rfl | exact ⟨rfl, rfl⟩ | exact decide_eq_true_iff | (refine ⟨?_, ?_⟩ <;> first | exact rfl | (simp only [ei, eb, es, ec, List.map_append, List.flatMap_append, List.nil_append, List.append_nil, List.append_assoc]; done) | omega | (simp only [List.nil_append, List.length_append, List.length_cons, List.length_nil]; omega) | (simp [ei, eb, es, ec]; done)) | (constructor <;> first | exact rfl | (simp only [ei, eb, es, ec, List.map_append, List.flatMap_append, List.nil_append, List.append_nil, List.append_assoc]; done) | omega | (simp only [List.nil_append, List.length_append, List.length_cons, List.length_nil]; omega) | (simp [ei, eb, es, ec]; done)) | exact rfl | (simp only [ei, eb, es, ec, List.map_append, List.flatMap_append, List.nil_append, List.append_nil, List.append_assoc]; done) | omega | (simp only [List.nil_append, List.length_append, List.length_cons, List.length_nil]; omega) | (simp [ei, eb, es, ec]; done) | simp [ei, eb, es, ec])) ?_)
                      first | exact trivial | exact rfl
                · replace H := some_st H
                  dsimp only [stp, sm] at H
                  refine ⟨(), ⟨H⟩, ⟨rfl⟩, ?_⟩
                  repeat (refine And.intro (Ob.mk (by first | exact rfl | exact Iff.rfl | exact ⟨rfl, rfl⟩ | exact decide_eq_true_iff | (refine ⟨?_, ?_⟩ <;> first | exact rfl | (simp only [ei, eb, es, ec, List.map_append, List.flatMap_append, List.nil_append, List.append_nil, List.append_assoc]; done) | omega | (simp only [List.nil_append, List.length_append, List.length_cons, List.length_nil]; omega) | (simp [ei, eb, es, ec]; done)) | (constructor <;> first | exact rfl | (simp only [ei, eb, es, ec, List.map_append, List.flatMap_append, List.nil_append, List.append_nil, List.append_assoc]; done) | omega | (simp only [List.nil_append, List.length_append, List.length_cons, List.length_nil]; omega) | (simp [ei, eb, es, ec]; done)) | exact rfl | (simp only [ei, eb, es, ec, List.map_append, List.flatMap_append, List.nil_append, List.append_nil, List.append_assoc]; done) | omega | (simp only [List.nil_append, List.length_append, List.length_cons, List.length_nil]; omega) | (simp [ei, eb, es, ec]; done) | simp [ei, eb, es, ec])) ?_)
                  first | exact trivial | exact rfl
              · intro v3061 H
                refine if_st H (fun h3095 H => ?_) (fun h3095 H => ?_)
                · refine ⟨true, ⟨H⟩, ⟨rfl⟩, ?_⟩
                  repeat (refine And.intro (Ob.mk (by first | exact rfl | exact Iff.rfl | exact ⟨rfl, rfl⟩ | exact decide_eq_true_iff | (refine ⟨?_, ?_⟩ <;> first | exact rfl | (simp only [ei, eb, es, ec, List.map_append, List.flatMap_append, List.nil_append, List.append_nil, List.append_assoc]; done) | omega | (simp only [List.nil_append, List.length_append, List.length_cons, List.length_nil]; omega) | (simp [ei, eb, es, ec]; done)) | (constructor <;> first | exact rfl | (simp only [ei, eb, es, ec, List.map_append, List.flatMap_append, List.nil_append, List.append_nil, List.append_assoc]; done) | omega | (simp only [List.nil_append, List.length_append, List.length_cons, List.length_nil]; omega) | (simp [ei, eb, es, ec]; done)) | exact rfl | (simp only [ei, eb, es, ec, List.map_append, List.flatMap_append, List.nil_append, List.append_nil, List.append_assoc]; done) | omega | (simp only [List.nil_append, List.length_append, List.length_cons, List.length_nil]; omega) | (simp [ei, eb, es, ec]; done) | simp [ei, eb, es, ec])) ?_)
                  first | exact trivial | exact rfl
                · refine if_st H (fun h3096 H => ?_) (fun h3096 H => ?_)
                  · refine ⟨true, ⟨H⟩, ⟨rfl⟩, ?_⟩
                    repeat (refine And.intro (Ob.mk (by first | exact rfl | exact Iff.rfl | exact ⟨rfl, rfl⟩ | exact decide_eq_true_iff | (refine ⟨?_, ?_⟩ <;> first | exact rfl | (simp only [ei, eb, es, ec, List.map_append, List.flatMap_append, List.nil_append, List.append_nil, List.append_assoc]; done) | omega | (simp only [List.nil_append, List.length_append, List.length_cons, List.length_nil]; omega) | (simp [ei, eb, es, ec]; done)) | (constructor <;> first | exact rfl | (simp only [ei, eb, es, ec, List.map_append, List.flatMap_append, List.nil_append, List.append_nil, List.append_assoc]; done) | omega | (simp only [List.nil_append, List.length_append, List.length_cons, List.length_nil]; omega) | (simp [ei, eb, es, ec]; done)) | exact rfl | (simp only [ei, eb, es, ec, List.map_append, List.flatMap_append, List.nil_append, List.append_nil, List.append_assoc]; done) | omega | (simp only [List.nil_append, List.length_append, List.length_cons, List.length_nil]; omega) | (simp [ei, eb, es, ec]; done) | simp [ei, eb, es, ec])) ?_)
                    first | exact trivial | exact rfl
                  · refine if_st H (fun h3097 H => ?_) (fun h3097 H => ?_)
                    · refine ⟨true, ⟨H⟩, ⟨rfl⟩, ?_⟩
                      repeat (refine And.intro (Ob.mk (by first | exact rfl | exact Iff.rfl | exact ⟨rfl, rfl⟩ | exact decide_eq_true_iff | (refine ⟨?_, ?_⟩ <;> first | exact rfl | (simp only [ei, eb, es, ec, List.map_append, List.flatMap_append, List.nil_append, List.append_nil, List.append_assoc]; done) | omega | (simp only [List.nil_append, List.length_append, List.length_cons, List.length_nil]; omega) | (simp [ei, eb, es, ec]; done)) | (constructor <;> first | exact rfl | (simp only [ei, eb, es, ec, List.map_append, List.flatMap_append, List.nil_append, List.append_nil, List.append_assoc]; done) | omega | (simp only [List.nil_append, List.length_append, List.length_cons, List.length_nil]; omega) | (simp [ei, eb, es, ec]; done)) | exact rfl | (simp only [ei, eb, es, ec, List.map_append, List.flatMap_append, List.nil_append, List.append_nil, List.append_assoc]; done) | omega | (simp only [List.nil_append, List.length_append, List.length_cons, List.length_nil]; omega) | (simp [ei, eb, es, ec]; done) | simp [ei, eb, es, ec])) ?_)
                      first | exact trivial | exact rfl
                    · refine if_st H (fun h3098 H => ?_) (fun h3098 H => ?_)
                      · refine ⟨true, ⟨H⟩, ⟨rfl⟩, ?_⟩
                        repeat (refine And.intro (Ob.mk (by first | exact rfl | exact Iff.rfl | exact ⟨rfl, rfl⟩ | exact decide_eq_true_iff | (refine ⟨?_, ?_⟩ <;> first | exact rfl | (simp only [ei, eb, es, ec, List.map_append, List.flatMap_append, List.nil_append, List.append_nil, List.append_assoc]; done) | omega | (simp only [List.nil_append, List.length_append, List.length_cons, List.length_nil]; omega) | (simp [ei, eb, es, ec]; done)) | (constructor <;> first | exact rfl | (simp only [ei, eb, es, ec, List.map_append, List.flatMap_append, List.nil_append, List.append_nil, List.append_assoc]; done) | omega | (simp only [List.nil_append, List.length_append, List.length_cons, List.length_nil]; omega) | (simp [ei, eb, es, ec]; done)) | exact rfl | (simp only [ei, eb, es, ec, List.map_append, List.flatMap_append, List.nil_append, List.append_nil, List.append_assoc]; done) | omega | (simp only [List.nil_append, List.length_append, List.length_cons, List.length_nil]; omega) | (simp [ei, eb, es, ec]; done) | simp [ei, eb, es, ec])) ?_)
                        first | exact trivial | exact rfl
                      · refine R.cut_fam H 155 [] [] (fun v3131 => []) (fun v3131 => []) [(35, .arr 21 1 (v1363.1.length) (ei .i32 (v1363.1))), (36, .arr 3 1 (v1363.2.length) (ei .i64 (v1363.2))), (51, .arr 21 1 (v1439.1.length) (ei .i32 (v1439.1))), (52, .arr 3 1 (v1439.2.length) (ei .i64 (v1439.2))), (64, .arr 21 1 (v1443.1.length) (ei .i32 (v1443.1))), (65, .arr 3 1 (v1443.2.length) (ei .i64 (v1443.2)))] 0 (fun H => ?_)
                        refine And.intro ?_ ?_
                        · refine R.loop_fam (bind_st H) [0, 1, 2, 3, 4] [] (fun _ s3135 => [(11, .v (.int .i64 (s3135)))]) (fun _ s3135 => []) 0 (fun n3164 H => ?_)
                          refine ⟨(n3164, _), ⟨H⟩, ⟨trivial⟩, ?_⟩
                          repeat (refine And.intro (Ob.mk (by first | exact rfl | exact Iff.rfl | exact ⟨rfl, rfl⟩ | exact decide_eq_true_iff | (refine ⟨?_, ?_⟩ <;> first | exact rfl | (simp only [ei, eb, es, ec, List.map_append, List.flatMap_append, List.nil_append, List.append_nil, List.append_assoc]; done) | omega | (simp only [List.nil_append, List.length_append, List.length_cons, List.length_nil]; omega) | (simp [ei, eb, es, ec]; done)) | (constructor <;> first | exact rfl | (simp only [ei, eb, es, ec, List.map_append, List.flatMap_append, List.nil_append, List.append_nil, List.append_assoc]; done) | omega | (simp only [List.nil_append, List.length_append, List.length_cons, List.length_nil]; omega) | (simp [ei, eb, es, ec]; done)) | exact rfl | (simp only [ei, eb, es, ec, List.map_append, List.flatMap_append, List.nil_append, List.append_nil, List.append_assoc]; done) | omega | (simp only [List.nil_append, List.length_append, List.length_cons, List.length_nil]; omega) | (simp [ei, eb, es, ec]; done) | simp [ei, eb, es, ec])) ?_)
                          rintro ⟨m0, s3135⟩ H _
                          obtain ⟨m3136, hm0, H⟩ := IG_succ H
                          dsimp only at hm0
                          subst hm0
                          try dsimp only at H
                          refine if_st H (fun h3154 H => ?_) (fun h3154 H => ?_)
                          · refine And.intro ⟨by kernel_rfl⟩ ?_
                            refine ob_ck H fun h3155 H => ?_
                            refine ld_int (e := v1443.1.getD s3135.toNat 0) (own_get (ys := ei .i32 v1443.1) (by first | rfl | simp [ei, eb, es, ec]) (ei_get (l := v1443.1) (by first | exact tn h3155 | (have := tn h3155; simp at this ⊢; omega) | (have := tn h3155; simp; omega)))) ?_
                            refine ob_ck H fun h3156 H => ?_
                            refine ld_int (e := v1363.1.getD s3135.toNat 0) (own_get (ys := ei .i32 v1363.1) (by first | rfl | simp [ei, eb, es, ec]) (ei_get (l := v1363.1) (by first | exact tn h3156 | (have := tn h3156; simp at this ⊢; omega) | (have := tn h3156; simp; omega)))) ?_
                            refine if_st H (fun h3157 H => ?_) (fun h3157 H => ?_)
                            · replace H := some_st H
                              dsimp only [stp, sm] at H
                              refine ⟨true, ⟨H⟩, ⟨rfl⟩, ?_⟩
                              repeat (refine And.intro (Ob.mk (by first | exact rfl | exact Iff.rfl | exact ⟨rfl, rfl⟩ | exact decide_eq_true_iff | (refine ⟨?_, ?_⟩ <;> first | exact rfl | (simp only [ei, eb, es, ec, List.map_append, List.flatMap_append, List.nil_append, List.append_nil, List.append_assoc]; done) | omega | (simp only [List.nil_append, List.length_append, List.length_cons, List.length_nil]; omega) | (simp [ei, eb, es, ec]; done)) | (constructor <;> first | exact rfl | (simp only [ei, eb, es, ec, List.map_append, List.flatMap_append, List.nil_append, List.append_nil, List.append_assoc]; done) | omega | (simp only [List.nil_append, List.length_append, List.length_cons, List.length_nil]; omega) | (simp [ei, eb, es, ec]; done)) | exact rfl | (simp only [ei, eb, es, ec, List.map_append, List.flatMap_append, List.nil_append, List.append_nil, List.append_assoc]; done) | omega | (simp only [List.nil_append, List.length_append, List.length_cons, List.length_nil]; omega) | (simp [ei, eb, es, ec]; done) | simp [ei, eb, es, ec])) ?_)
                              first | exact trivial | exact rfl
                            · refine ob_ck H fun h3158 H => ?_
                              refine ld_int (e := v1443.2.getD s3135.toNat 0) (own_get (ys := ei .i64 v1443.2) (by first | rfl | simp [ei, eb, es, ec]) (ei_get (l := v1443.2) (by first | exact tn h3158 | (have := tn h3158; simp at this ⊢; omega) | (have := tn h3158; simp; omega)))) ?_
                              refine ob_ck H fun h3159 H => ?_
                              refine ld_int (e := v1363.2.getD s3135.toNat 0) (own_get (ys := ei .i64 v1363.2) (by first | rfl | simp [ei, eb, es, ec]) (ei_get (l := v1363.2) (by first | exact tn h3159 | (have := tn h3159; simp at this ⊢; omega) | (have := tn h3159; simp; omega)))) ?_
                              refine if_st H (fun h3160 H => ?_) (fun h3160 H => ?_)
                              · replace H := some_st H
                                dsimp only [stp, sm] at H
                                refine ⟨true, ⟨H⟩, ⟨rfl⟩, ?_⟩
                                repeat (refine And.intro (Ob.mk (by first | exact rfl | exact Iff.rfl | exact ⟨rfl, rfl⟩ | exact decide_eq_true_iff | (refine ⟨?_, ?_⟩ <;> first | exact rfl | (simp only [ei, eb, es, ec, List.map_append, List.flatMap_append, List.nil_append, List.append_nil, List.append_assoc]; done) | omega | (simp only [List.nil_append, List.length_append, List.length_cons, List.length_nil]; omega) | (simp [ei, eb, es, ec]; done)) | (constructor <;> first | exact rfl | (simp only [ei, eb, es, ec, List.map_append, List.flatMap_append, List.nil_append, List.append_nil, List.append_assoc]; done) | omega | (simp only [List.nil_append, List.length_append, List.length_cons, List.length_nil]; omega) | (simp [ei, eb, es, ec]; done)) | exact rfl | (simp only [ei, eb, es, ec, List.map_append, List.flatMap_append, List.nil_append, List.append_nil, List.append_assoc]; done) | omega | (simp only [List.nil_append, List.length_append, List.length_cons, List.length_nil]; omega) | (simp [ei, eb, es, ec]; done) | simp [ei, eb, es, ec])) ?_)
                                first | exact trivial | exact rfl
                              · refine ob_ck H fun h3161 H => ?_
                                replace H := some_st H
                                refine ⟨(m3136, s3135 + 1), ⟨H, Nat.lt_succ_self _⟩, ⟨trivial⟩, ⟨rfl⟩, ?_⟩
                                repeat (refine And.intro (Ob.mk (by first | exact rfl | exact Iff.rfl | exact ⟨rfl, rfl⟩ | exact decide_eq_true_iff | (refine ⟨?_, ?_⟩ <;> first | exact rfl | (simp only [ei, eb, es, ec, List.map_append, List.flatMap_append, List.nil_append, List.append_nil, List.append_assoc]; done) | omega | (simp only [List.nil_append, List.length_append, List.length_cons, List.length_nil]; omega) | (simp [ei, eb, es, ec]; done)) | (constructor <;> first | exact rfl | (simp only [ei, eb, es, ec, List.map_append, List.flatMap_append, List.nil_append, List.append_nil, List.append_assoc]; done) | omega | (simp only [List.nil_append, List.length_append, List.length_cons, List.length_nil]; omega) | (simp [ei, eb, es, ec]; done)) | exact rfl | (simp only [ei, eb, es, ec, List.map_append, List.flatMap_append, List.nil_append, List.append_nil, List.append_assoc]; done) | omega | (simp only [List.nil_append, List.length_append, List.length_cons, List.length_nil]; omega) | (simp [ei, eb, es, ec]; done) | simp [ei, eb, es, ec])) ?_)
                                first | exact trivial | exact rfl
                          · replace H := some_st H
                            dsimp only [stp, sm] at H
                            refine ⟨(), ⟨H⟩, ⟨rfl⟩, ?_⟩
                            repeat (refine And.intro (Ob.mk (by first | exact rfl | exact Iff.rfl | exact ⟨rfl, rfl⟩ | exact decide_eq_true_iff | (refine ⟨?_, ?_⟩ <;> first | exact rfl | (simp only [ei, eb, es, ec, List.map_append, List.flatMap_append, List.nil_append, List.append_nil, List.append_assoc]; done) | omega | (simp only [List.nil_append, List.length_append, List.length_cons, List.length_nil]; omega) | (simp [ei, eb, es, ec]; done)) | (constructor <;> first | exact rfl | (simp only [ei, eb, es, ec, List.map_append, List.flatMap_append, List.nil_append, List.append_nil, List.append_assoc]; done) | omega | (simp only [List.nil_append, List.length_append, List.length_cons, List.length_nil]; omega) | (simp [ei, eb, es, ec]; done)) | exact rfl | (simp only [ei, eb, es, ec, List.map_append, List.flatMap_append, List.nil_append, List.append_nil, List.append_assoc]; done) | omega | (simp only [List.nil_append, List.length_append, List.length_cons, List.length_nil]; omega) | (simp [ei, eb, es, ec]; done) | simp [ei, eb, es, ec])) ?_)
                            first | exact trivial | exact rfl
                        · intro v3131 H
                          refine R.cut_fam H 182 [] [] (fun v3237 => [(4, .own 182), (5, .own 183)]) (fun v3237 => [(182, .arr 21 1 (v3237.1.length) (ei .i32 (v3237.1))), (183, .arr 3 1 (v3237.2.length) (ei .i64 (v3237.2)))]) [(35, .arr 21 1 (v1363.1.length) (ei .i32 (v1363.1))), (36, .arr 3 1 (v1363.2.length) (ei .i64 (v1363.2))), (51, .arr 21 1 (v1439.1.length) (ei .i32 (v1439.1))), (52, .arr 3 1 (v1439.2.length) (ei .i64 (v1439.2))), (64, .arr 21 1 (v1443.1.length) (ei .i32 (v1443.1))), (65, .arr 3 1 (v1443.2.length) (ei .i64 (v1443.2)))] 2 (fun H => ?_)
                          refine And.intro ?_ ?_
                          · refine R.loop_fam (bind_st H) [0] [(4, 0, 21, 1), (5, 0, 3, 1)] (fun _ s3241 => [(4, .own 172), (5, .own 173), (6, .v (.int .i64 (s3241.2.2)))]) (fun _ s3241 => [(172, .arr 21 1 (s3241.1.length) (ei .i32 (s3241.1))), (173, .arr 3 1 (s3241.2.1.length) (ei .i64 (s3241.2.1)))]) 2 (fun n3310 H => ?_)
                            refine ⟨(n3310, _), ⟨H⟩, ⟨trivial⟩, ?_⟩
                            repeat (refine And.intro (Ob.mk (by first | exact rfl | exact Iff.rfl | exact ⟨rfl, rfl⟩ | exact decide_eq_true_iff | (refine ⟨?_, ?_⟩ <;> first | exact rfl | (simp only [ei, eb, es, ec, List.map_append, List.flatMap_append, List.nil_append, List.append_nil, List.append_assoc]; done) | omega | (simp only [List.nil_append, List.length_append, List.length_cons, List.length_nil]; omega) | (simp [ei, eb, es, ec]; done)) | (constructor <;> first | exact rfl | (simp only [ei, eb, es, ec, List.map_append, List.flatMap_append, List.nil_append, List.append_nil, List.append_assoc]; done) | omega | (simp only [List.nil_append, List.length_append, List.length_cons, List.length_nil]; omega) | (simp [ei, eb, es, ec]; done)) | exact rfl | (simp only [ei, eb, es, ec, List.map_append, List.flatMap_append, List.nil_append, List.append_nil, List.append_assoc]; done) | omega | (simp only [List.nil_append, List.length_append, List.length_cons, List.length_nil]; omega) | (simp [ei, eb, es, ec]; done) | simp [ei, eb, es, ec])) ?_)
                            rintro ⟨m0, s3241⟩ H _
                            obtain ⟨m3242, hm0, H⟩ := IG_succ H
                            dsimp only at hm0
                            subst hm0
                            try dsimp only at H
                            refine if_st H (fun h3288 H => ?_) (fun h3288 H => ?_)
                            · refine ob_sl hs1140.2.2 H fun h3289 H => ?_
                              have hs3290 := sl_ei hs1140.1 hs1140.2.1 hs1140.2.2 h3289
                              intro n3291 hn3292
                              subst hn3292
                              obtain ⟨v3293, hv3294, H⟩ := call_st H
                              refine ⟨(((((a0.drop (0 : Int).toNat).take ((gmin ((a0.length : Nat) : Int) 400).toNat - (0 : Int).toNat)).drop s3241.2.2.toNat).take ((((gmin ((a0.length : Nat) : Int) 400).toNat - (0 : Int).toNat : Nat) : Int).toNat - s3241.2.2.toNat)), v3293), ⟨hv3294⟩, ⟨trivial⟩, ?_⟩
                              refine And.intro ⟨(hs3290.2.1).symm, hs3290.2.2, ei_len.trans ((show _ = _ from hs3290.2.1).trans (Nat.mul_one _).symm), hs3290.1⟩ ?_
                              refine if_st H (fun h3295 H => ?_) (fun h3295 H => ?_)
                              · refine ob_app (by decide) (by first | exact ei_one | ((repeat (refine List.forall_mem_cons.2 ⟨rfl, ?_⟩)); intro y hy; cases hy; done) | (intro y hy; simp [ei, eb, es, ec] at hy; (first | (rcases hy with rfl | hy) | subst hy | skip); all_goals first | rfl | simp_all [Value.oneCell'])) H fun h3296 H => ?_
                                intro n3297 hn3298
                                subst hn3298
                                refine ob_app (by decide) (by first | exact ei_one | ((repeat (refine List.forall_mem_cons.2 ⟨rfl, ?_⟩)); intro y hy; cases hy; done) | (intro y hy; simp [ei, eb, es, ec] at hy; (first | (rcases hy with rfl | hy) | subst hy | skip); all_goals first | rfl | simp_all [Value.oneCell'])) H fun h3299 H => ?_
                                intro n3300 hn3301
                                subst hn3301
                                refine ob_ck H fun h3302 H => ?_
                                replace H := some_st H
                                refine ⟨(m3242, ((s3241.1 ++ [65533]), (s3241.2.1 ++ [s3241.2.2]), s3241.2.2 + 1)), ⟨H, Nat.lt_succ_self _⟩, ⟨trivial⟩, ⟨rfl⟩, ?_⟩
                                repeat (refine And.intro (Ob.mk (by first | exact rfl | exact Iff.rfl | exact ⟨rfl, rfl⟩ | exact decide_eq_true_iff | (refine ⟨?_, ?_⟩ <;> first | exact rfl | (simp only [ei, eb, es, ec, List.map_append, List.flatMap_append, List.nil_append, List.append_nil, List.append_assoc]; done) | omega | (simp only [List.nil_append, List.length_append, List.length_cons, List.length_nil]; omega) | (simp [ei, eb, es, ec]; done)) | (constructor <;> first | exact rfl | (simp only [ei, eb, es, ec, List.map_append, List.flatMap_append, List.nil_append, List.append_nil, List.append_assoc]; done) | omega | (simp only [List.nil_append, List.length_append, List.length_cons, List.length_nil]; omega) | (simp [ei, eb, es, ec]; done)) | exact rfl | (simp only [ei, eb, es, ec, List.map_append, List.flatMap_append, List.nil_append, List.append_nil, List.append_assoc]; done) | omega | (simp only [List.nil_append, List.length_append, List.length_cons, List.length_nil]; omega) | (simp [ei, eb, es, ec]; done) | simp [ei, eb, es, ec])) ?_)
                                first | exact trivial | exact rfl
                              · refine ob_app (by decide) (by first | exact ei_one | ((repeat (refine List.forall_mem_cons.2 ⟨rfl, ?_⟩)); intro y hy; cases hy; done) | (intro y hy; simp [ei, eb, es, ec] at hy; (first | (rcases hy with rfl | hy) | subst hy | skip); all_goals first | rfl | simp_all [Value.oneCell'])) H fun h3303 H => ?_
                                intro n3304 hn3305
                                subst hn3305
                                refine ob_app (by decide) (by first | exact ei_one | ((repeat (refine List.forall_mem_cons.2 ⟨rfl, ?_⟩)); intro y hy; cases hy; done) | (intro y hy; simp [ei, eb, es, ec] at hy; (first | (rcases hy with rfl | hy) | subst hy | skip); all_goals first | rfl | simp_all [Value.oneCell'])) H fun h3306 H => ?_
                                intro n3307 hn3308
                                subst hn3308
                                refine ob_ck H fun h3309 H => ?_
                                replace H := some_st H
                                refine ⟨(m3242, ((s3241.1 ++ [v3293.1]), (s3241.2.1 ++ [s3241.2.2]), s3241.2.2 + v3293.2.1)), ⟨H, Nat.lt_succ_self _⟩, ⟨trivial⟩, ⟨rfl⟩, ?_⟩
                                repeat (refine And.intro (Ob.mk (by first | exact rfl | exact Iff.rfl | exact ⟨rfl, rfl⟩ | exact decide_eq_true_iff | (refine ⟨?_, ?_⟩ <;> first | exact rfl | (simp only [ei, eb, es, ec, List.map_append, List.flatMap_append, List.nil_append, List.append_nil, List.append_assoc]; done) | omega | (simp only [List.nil_append, List.length_append, List.length_cons, List.length_nil]; omega) | (simp [ei, eb, es, ec]; done)) | (constructor <;> first | exact rfl | (simp only [ei, eb, es, ec, List.map_append, List.flatMap_append, List.nil_append, List.append_nil, List.append_assoc]; done) | omega | (simp only [List.nil_append, List.length_append, List.length_cons, List.length_nil]; omega) | (simp [ei, eb, es, ec]; done)) | exact rfl | (simp only [ei, eb, es, ec, List.map_append, List.flatMap_append, List.nil_append, List.append_nil, List.append_assoc]; done) | omega | (simp only [List.nil_append, List.length_append, List.length_cons, List.length_nil]; omega) | (simp [ei, eb, es, ec]; done) | simp [ei, eb, es, ec])) ?_)
                                first | exact trivial | exact rfl
                            · replace H := some_st H
                              dsimp only [stp, sm] at H
                              refine ⟨(s3241.1, s3241.2.1), ⟨H⟩, ⟨rfl⟩, ?_⟩
                              repeat (refine And.intro (Ob.mk (by first | exact rfl | exact Iff.rfl | exact ⟨rfl, rfl⟩ | exact decide_eq_true_iff | (refine ⟨?_, ?_⟩ <;> first | exact rfl | (simp only [ei, eb, es, ec, List.map_append, List.flatMap_append, List.nil_append, List.append_nil, List.append_assoc]; done) | omega | (simp only [List.nil_append, List.length_append, List.length_cons, List.length_nil]; omega) | (simp [ei, eb, es, ec]; done)) | (constructor <;> first | exact rfl | (simp only [ei, eb, es, ec, List.map_append, List.flatMap_append, List.nil_append, List.append_nil, List.append_assoc]; done) | omega | (simp only [List.nil_append, List.length_append, List.length_cons, List.length_nil]; omega) | (simp [ei, eb, es, ec]; done)) | exact rfl | (simp only [ei, eb, es, ec, List.map_append, List.flatMap_append, List.nil_append, List.append_nil, List.append_assoc]; done) | omega | (simp only [List.nil_append, List.length_append, List.length_cons, List.length_nil]; omega) | (simp [ei, eb, es, ec]; done) | simp [ei, eb, es, ec])) ?_)
                              first | exact trivial | exact rfl
                          · intro v3237 H
                            refine R.cut_fam H 198 [] [] (fun v3341 => [(3, .own 198)]) (fun v3341 => [(198, .arr 5 1 (v3341.length) (ei .u8 (v3341)))]) [(182, .arr 21 1 (v3237.1.length) (ei .i32 (v3237.1))), (183, .arr 3 1 (v3237.2.length) (ei .i64 (v3237.2))), (35, .arr 21 1 (v1363.1.length) (ei .i32 (v1363.1))), (36, .arr 3 1 (v1363.2.length) (ei .i64 (v1363.2))), (51, .arr 21 1 (v1439.1.length) (ei .i32 (v1439.1))), (52, .arr 3 1 (v1439.2.length) (ei .i64 (v1439.2))), (64, .arr 21 1 (v1443.1.length) (ei .i32 (v1443.1))), (65, .arr 3 1 (v1443.2.length) (ei .i64 (v1443.2)))] 1 (fun H => ?_)
                            refine And.intro ?_ ?_
                            · refine R.loop_fam (bind_st H) [4] [(3, 0, 5, 1)] (fun _ s3345 => [(3, .own 190), (6, .v (.int .i64 (s3345.2)))]) (fun _ s3345 => [(190, .arr 5 1 (s3345.1.length) (ei .u8 (s3345.1)))]) 1 (fun n3372 H => ?_)
                              refine ⟨(n3372, _), ⟨H⟩, ⟨trivial⟩, ?_⟩
                              repeat (refine And.intro (Ob.mk (by first | exact rfl | exact Iff.rfl | exact ⟨rfl, rfl⟩ | exact decide_eq_true_iff | (refine ⟨?_, ?_⟩ <;> first | exact rfl | (simp only [ei, eb, es, ec, List.map_append, List.flatMap_append, List.nil_append, List.append_nil, List.append_assoc]; done) | omega | (simp only [List.nil_append, List.length_append, List.length_cons, List.length_nil]; omega) | (simp [ei, eb, es, ec]; done)) | (constructor <;> first | exact rfl | (simp only [ei, eb, es, ec, List.map_append, List.flatMap_append, List.nil_append, List.append_nil, List.append_assoc]; done) | omega | (simp only [List.nil_append, List.length_append, List.length_cons, List.length_nil]; omega) | (simp [ei, eb, es, ec]; done)) | exact rfl | (simp only [ei, eb, es, ec, List.map_append, List.flatMap_append, List.nil_append, List.append_nil, List.append_assoc]; done) | omega | (simp only [List.nil_append, List.length_append, List.length_cons, List.length_nil]; omega) | (simp [ei, eb, es, ec]; done) | simp [ei, eb, es, ec])) ?_)
                              rintro ⟨m0, s3345⟩ H _
                              obtain ⟨m3346, hm0, H⟩ := IG_succ H
                              dsimp only at hm0
                              subst hm0
                              try dsimp only at H
                              refine if_st H (fun h3364 H => ?_) (fun h3364 H => ?_)
                              · refine ob_ck H fun h3365 H => ?_
                                refine ld_int (e := v3237.1.getD s3345.2.toNat 0) (own_get (ys := ei .i32 v3237.1) (by first | rfl | simp [ei, eb, es, ec]) (ei_get (l := v3237.1) (by first | exact tn h3365 | (have := tn h3365; simp at this ⊢; omega) | (have := tn h3365; simp; omega)))) ?_
                                obtain ⟨v3366, hv3367, H⟩ := call_st H
                                refine ⟨(v3237.1.getD s3345.2.toNat 0, v3366), ⟨hv3367⟩, ⟨trivial⟩, ?_⟩
                                refine And.intro ⟨rfl⟩ ?_
                                refine ob_app (by decide) (by first | exact ei_one | ((repeat (refine List.forall_mem_cons.2 ⟨rfl, ?_⟩)); intro y hy; cases hy; done) | (intro y hy; simp [ei, eb, es, ec] at hy; (first | (rcases hy with rfl | hy) | subst hy | skip); all_goals first | rfl | simp_all [Value.oneCell'])) H fun h3368 H => ?_
                                intro n3369 hn3370
                                subst hn3370
                                refine ob_ck H fun h3371 H => ?_
                                replace H := some_st H
                                refine ⟨(m3346, ((s3345.1 ++ v3366), s3345.2 + 1)), ⟨H, Nat.lt_succ_self _⟩, ⟨trivial⟩, ⟨rfl⟩, ?_⟩
                                repeat (refine And.intro (Ob.mk (by first | exact rfl | exact Iff.rfl | exact ⟨rfl, rfl⟩ | exact decide_eq_true_iff | (refine ⟨?_, ?_⟩ <;> first | exact rfl | (simp only [ei, eb, es, ec, List.map_append, List.flatMap_append, List.nil_append, List.append_nil, List.append_assoc]; done) | omega | (simp only [List.nil_append, List.length_append, List.length_cons, List.length_nil]; omega) | (simp [ei, eb, es, ec]; done)) | (constructor <;> first | exact rfl | (simp only [ei, eb, es, ec, List.map_append, List.flatMap_append, List.nil_append, List.append_nil, List.append_assoc]; done) | omega | (simp only [List.nil_append, List.length_append, List.length_cons, List.length_nil]; omega) | (simp [ei, eb, es, ec]; done)) | exact rfl | (simp only [ei, eb, es, ec, List.map_append, List.flatMap_append, List.nil_append, List.append_nil, List.append_assoc]; done) | omega | (simp only [List.nil_append, List.length_append, List.length_cons, List.length_nil]; omega) | (simp [ei, eb, es, ec]; done) | simp [ei, eb, es, ec])) ?_)
                                first | exact trivial | exact rfl
                              · replace H := some_st H
                                dsimp only [stp, sm] at H
                                refine ⟨s3345.1, ⟨H⟩, ⟨rfl⟩, ?_⟩
                                repeat (refine And.intro (Ob.mk (by first | exact rfl | exact Iff.rfl | exact ⟨rfl, rfl⟩ | exact decide_eq_true_iff | (refine ⟨?_, ?_⟩ <;> first | exact rfl | (simp only [ei, eb, es, ec, List.map_append, List.flatMap_append, List.nil_append, List.append_nil, List.append_assoc]; done) | omega | (simp only [List.nil_append, List.length_append, List.length_cons, List.length_nil]; omega) | (simp [ei, eb, es, ec]; done)) | (constructor <;> first | exact rfl | (simp only [ei, eb, es, ec, List.map_append, List.flatMap_append, List.nil_append, List.append_nil, List.append_assoc]; done) | omega | (simp only [List.nil_append, List.length_append, List.length_cons, List.length_nil]; omega) | (simp [ei, eb, es, ec]; done)) | exact rfl | (simp only [ei, eb, es, ec, List.map_append, List.flatMap_append, List.nil_append, List.append_nil, List.append_assoc]; done) | omega | (simp only [List.nil_append, List.length_append, List.length_cons, List.length_nil]; omega) | (simp [ei, eb, es, ec]; done) | simp [ei, eb, es, ec])) ?_)
                                first | exact trivial | exact rfl
                            · intro v3341 H
                              refine ob_str (l := v3341) H fun h3373 H => ?_
                              refine ⟨(decide (¬ (v1445.data.toList = (strOf v3341).data.toList))), ⟨H⟩, ⟨rfl⟩, ?_⟩
                              repeat (refine And.intro (Ob.mk (by first | exact rfl | exact Iff.rfl | exact ⟨rfl, rfl⟩ | exact decide_eq_true_iff | (refine ⟨?_, ?_⟩ <;> first | exact rfl | (simp only [ei, eb, es, ec, List.map_append, List.flatMap_append, List.nil_append, List.append_nil, List.append_assoc]; done) | omega | (simp only [List.nil_append, List.length_append, List.length_cons, List.length_nil]; omega) | (simp [ei, eb, es, ec]; done)) | (constructor <;> first | exact rfl | (simp only [ei, eb, es, ec, List.map_append, List.flatMap_append, List.nil_append, List.append_nil, List.append_assoc]; done) | omega | (simp only [List.nil_append, List.length_append, List.length_cons, List.length_nil]; omega) | (simp [ei, eb, es, ec]; done)) | exact rfl | (simp only [ei, eb, es, ec, List.map_append, List.flatMap_append, List.nil_append, List.append_nil, List.append_assoc]; done) | omega | (simp only [List.nil_append, List.length_append, List.length_cons, List.length_nil]; omega) | (simp [ei, eb, es, ec]; done) | simp [ei, eb, es, ec])) ?_)
                              first | exact trivial | exact rfl
    · intro v3022 H
      refine if_st H (fun h3374 H => ?_) (fun h3374 H => ?_)
      · have hfin := fin_st H
        repeat (refine And.intro (Ob.mk (by first | (rw [← hfin] <;> first | exact rfl | exact Iff.rfl | exact ⟨rfl, rfl⟩ | exact decide_eq_true_iff | (refine ⟨?_, ?_⟩ <;> first | exact rfl | (simp only [ei, eb, es, ec, List.map_append, List.flatMap_append, List.nil_append, List.append_nil, List.append_assoc]; done) | omega | (simp only [List.nil_append, List.length_append, List.length_cons, List.length_nil]; omega) | (simp [ei, eb, es, ec]; done)) | (constructor <;> first | exact rfl | (simp only [ei, eb, es, ec, List.map_append, List.flatMap_append, List.nil_append, List.append_nil, List.append_assoc]; done) | omega | (simp only [List.nil_append, List.length_append, List.length_cons, List.length_nil]; omega) | (simp [ei, eb, es, ec]; done)) | exact rfl | (simp only [ei, eb, es, ec, List.map_append, List.flatMap_append, List.nil_append, List.append_nil, List.append_assoc]; done) | omega | (simp only [List.nil_append, List.length_append, List.length_cons, List.length_nil]; omega) | (simp [ei, eb, es, ec]; done) | simp [ei, eb, es, ec]) | first | exact rfl | exact Iff.rfl | exact ⟨rfl, rfl⟩ | exact decide_eq_true_iff | (refine ⟨?_, ?_⟩ <;> first | exact rfl | (simp only [ei, eb, es, ec, List.map_append, List.flatMap_append, List.nil_append, List.append_nil, List.append_assoc]; done) | omega | (simp only [List.nil_append, List.length_append, List.length_cons, List.length_nil]; omega) | (simp [ei, eb, es, ec]; done)) | (constructor <;> first | exact rfl | (simp only [ei, eb, es, ec, List.map_append, List.flatMap_append, List.nil_append, List.append_nil, List.append_assoc]; done) | omega | (simp only [List.nil_append, List.length_append, List.length_cons, List.length_nil]; omega) | (simp [ei, eb, es, ec]; done)) | exact rfl | (simp only [ei, eb, es, ec, List.map_append, List.flatMap_append, List.nil_append, List.append_nil, List.append_assoc]; done) | omega | (simp only [List.nil_append, List.length_append, List.length_cons, List.length_nil]; omega) | (simp [ei, eb, es, ec]; done) | simp [ei, eb, es, ec])) ?_)
        first | exact trivial | exact rfl
      · refine And.intro ⟨by kernel_rfl⟩ ?_
        refine rs_st hs1140.1 (by rw [ei_len, hs1140.2.1, Nat.mul_one]) ?_
        refine ob_str (l := ((a0.drop (0 : Int).toNat).take ((gmin ((a0.length : Nat) : Int) 400).toNat - (0 : Int).toNat))) H fun h3375 H => ?_
        obtain ⟨v3376, hv3377, H⟩ := call_st H
        refine ⟨(strOf ((a0.drop (0 : Int).toNat).take ((gmin ((a0.length : Nat) : Int) 400).toNat - (0 : Int).toNat)), v3376), ⟨hv3377⟩, ⟨trivial⟩, ?_⟩
        refine And.intro ⟨rfl⟩ ?_
        refine if_st H (fun h3378 H => ?_) (fun h3378 H => ?_)
        · refine rs_st hs1140.1 (by rw [ei_len, hs1140.2.1, Nat.mul_one]) ?_
          refine ob_str (l := ((a0.drop (0 : Int).toNat).take ((gmin ((a0.length : Nat) : Int) 400).toNat - (0 : Int).toNat))) H fun h3379 H => ?_
          obtain ⟨v3380, hv3381, H⟩ := call_st H
          refine ⟨(strOf ((a0.drop (0 : Int).toNat).take ((gmin ((a0.length : Nat) : Int) 400).toNat - (0 : Int).toNat)), v3380), ⟨hv3381⟩, ⟨trivial⟩, ?_⟩
          refine And.intro ⟨rfl⟩ ?_
          refine rs_st hs1140.1 (by rw [ei_len, hs1140.2.1, Nat.mul_one]) ?_
          refine ob_str (l := ((a0.drop (0 : Int).toNat).take ((gmin ((a0.length : Nat) : Int) 400).toNat - (0 : Int).toNat))) H fun h3382 H => ?_
          obtain ⟨v3383, hv3384, H⟩ := call_st H
          refine ⟨(strOf ((a0.drop (0 : Int).toNat).take ((gmin ((a0.length : Nat) : Int) 400).toNat - (0 : Int).toNat)), v3383), ⟨hv3384⟩, ⟨trivial⟩, ?_⟩
          refine And.intro ⟨rfl⟩ ?_
          refine if_st H (fun h3385 H => ?_) (fun h3385 H => ?_)
          · obtain ⟨v3386, hv3387, H⟩ := call_st H
            refine ⟨(v1445, v3386), ⟨hv3387⟩, ⟨trivial⟩, ?_⟩
            refine And.intro ⟨rfl⟩ ?_
            refine if_st H (fun h3388 H => ?_) (fun h3388 H => ?_)
            · obtain ⟨v3389, hv3390, H⟩ := call_st H
              refine ⟨v3389, ⟨hv3390⟩, ⟨trivial⟩, ?_⟩
              have hfin := fin_st H
              repeat (refine And.intro (Ob.mk (by first | (rw [← hfin] <;> first | exact rfl | exact Iff.rfl | exact ⟨rfl, rfl⟩ | exact decide_eq_true_iff | (refine ⟨?_, ?_⟩ <;> first | exact rfl | (simp only [ei, eb, es, ec, List.map_append, List.flatMap_append, List.nil_append, List.append_nil, List.append_assoc]; done) | omega | (simp only [List.nil_append, List.length_append, List.length_cons, List.length_nil]; omega) | (simp [ei, eb, es, ec]; done)) | (constructor <;> first | exact rfl | (simp only [ei, eb, es, ec, List.map_append, List.flatMap_append, List.nil_append, List.append_nil, List.append_assoc]; done) | omega | (simp only [List.nil_append, List.length_append, List.length_cons, List.length_nil]; omega) | (simp [ei, eb, es, ec]; done)) | exact rfl | (simp only [ei, eb, es, ec, List.map_append, List.flatMap_append, List.nil_append, List.append_nil, List.append_assoc]; done) | omega | (simp only [List.nil_append, List.length_append, List.length_cons, List.length_nil]; omega) | (simp [ei, eb, es, ec]; done) | simp [ei, eb, es, ec]) | first | exact rfl | exact Iff.rfl | exact ⟨rfl, rfl⟩ | exact decide_eq_true_iff | (refine ⟨?_, ?_⟩ <;> first | exact rfl | (simp only [ei, eb, es, ec, List.map_append, List.flatMap_append, List.nil_append, List.append_nil, List.append_assoc]; done) | omega | (simp only [List.nil_append, List.length_append, List.length_cons, List.length_nil]; omega) | (simp [ei, eb, es, ec]; done)) | (constructor <;> first | exact rfl | (simp only [ei, eb, es, ec, List.map_append, List.flatMap_append, List.nil_append, List.append_nil, List.append_assoc]; done) | omega | (simp only [List.nil_append, List.length_append, List.length_cons, List.length_nil]; omega) | (simp [ei, eb, es, ec]; done)) | exact rfl | (simp only [ei, eb, es, ec, List.map_append, List.flatMap_append, List.nil_append, List.append_nil, List.append_assoc]; done) | omega | (simp only [List.nil_append, List.length_append, List.length_cons, List.length_nil]; omega) | (simp [ei, eb, es, ec]; done) | simp [ei, eb, es, ec])) ?_)
              first | exact trivial | exact rfl
            · have hfin := fin_st H
              repeat (refine And.intro (Ob.mk (by first | (rw [← hfin] <;> first | exact rfl | exact Iff.rfl | exact ⟨rfl, rfl⟩ | exact decide_eq_true_iff | (refine ⟨?_, ?_⟩ <;> first | exact rfl | (simp only [ei, eb, es, ec, List.map_append, List.flatMap_append, List.nil_append, List.append_nil, List.append_assoc]; done) | omega | (simp only [List.nil_append, List.length_append, List.length_cons, List.length_nil]; omega) | (simp [ei, eb, es, ec]; done)) | (constructor <;> first | exact rfl | (simp only [ei, eb, es, ec, List.map_append, List.flatMap_append, List.nil_append, List.append_nil, List.append_assoc]; done) | omega | (simp only [List.nil_append, List.length_append, List.length_cons, List.length_nil]; omega) | (simp [ei, eb, es, ec]; done)) | exact rfl | (simp only [ei, eb, es, ec, List.map_append, List.flatMap_append, List.nil_append, List.append_nil, List.append_assoc]; done) | omega | (simp only [List.nil_append, List.length_append, List.length_cons, List.length_nil]; omega) | (simp [ei, eb, es, ec]; done) | simp [ei, eb, es, ec]) | first | exact rfl | exact Iff.rfl | exact ⟨rfl, rfl⟩ | exact decide_eq_true_iff | (refine ⟨?_, ?_⟩ <;> first | exact rfl | (simp only [ei, eb, es, ec, List.map_append, List.flatMap_append, List.nil_append, List.append_nil, List.append_assoc]; done) | omega | (simp only [List.nil_append, List.length_append, List.length_cons, List.length_nil]; omega) | (simp [ei, eb, es, ec]; done)) | (constructor <;> first | exact rfl | (simp only [ei, eb, es, ec, List.map_append, List.flatMap_append, List.nil_append, List.append_nil, List.append_assoc]; done) | omega | (simp only [List.nil_append, List.length_append, List.length_cons, List.length_nil]; omega) | (simp [ei, eb, es, ec]; done)) | exact rfl | (simp only [ei, eb, es, ec, List.map_append, List.flatMap_append, List.nil_append, List.append_nil, List.append_assoc]; done) | omega | (simp only [List.nil_append, List.length_append, List.length_cons, List.length_nil]; omega) | (simp [ei, eb, es, ec]; done) | simp [ei, eb, es, ec])) ?_)
              first | exact trivial | exact rfl
          · have hfin := fin_st H
            repeat (refine And.intro (Ob.mk (by first | (rw [← hfin] <;> first | exact rfl | exact Iff.rfl | exact ⟨rfl, rfl⟩ | exact decide_eq_true_iff | (refine ⟨?_, ?_⟩ <;> first | exact rfl | (simp only [ei, eb, es, ec, List.map_append, List.flatMap_append, List.nil_append, List.append_nil, List.append_assoc]; done) | omega | (simp only [List.nil_append, List.length_append, List.length_cons, List.length_nil]; omega) | (simp [ei, eb, es, ec]; done)) | (constructor <;> first | exact rfl | (simp only [ei, eb, es, ec, List.map_append, List.flatMap_append, List.nil_append, List.append_nil, List.append_assoc]; done) | omega | (simp only [List.nil_append, List.length_append, List.length_cons, List.length_nil]; omega) | (simp [ei, eb, es, ec]; done)) | exact rfl | (simp only [ei, eb, es, ec, List.map_append, List.flatMap_append, List.nil_append, List.append_nil, List.append_assoc]; done) | omega | (simp only [List.nil_append, List.length_append, List.length_cons, List.length_nil]; omega) | (simp [ei, eb, es, ec]; done) | simp [ei, eb, es, ec]) | first | exact rfl | exact Iff.rfl | exact ⟨rfl, rfl⟩ | exact decide_eq_true_iff | (refine ⟨?_, ?_⟩ <;> first | exact rfl | (simp only [ei, eb, es, ec, List.map_append, List.flatMap_append, List.nil_append, List.append_nil, List.append_assoc]; done) | omega | (simp only [List.nil_append, List.length_append, List.length_cons, List.length_nil]; omega) | (simp [ei, eb, es, ec]; done)) | (constructor <;> first | exact rfl | (simp only [ei, eb, es, ec, List.map_append, List.flatMap_append, List.nil_append, List.append_nil, List.append_assoc]; done) | omega | (simp only [List.nil_append, List.length_append, List.length_cons, List.length_nil]; omega) | (simp [ei, eb, es, ec]; done)) | exact rfl | (simp only [ei, eb, es, ec, List.map_append, List.flatMap_append, List.nil_append, List.append_nil, List.append_assoc]; done) | omega | (simp only [List.nil_append, List.length_append, List.length_cons, List.length_nil]; omega) | (simp [ei, eb, es, ec]; done) | simp [ei, eb, es, ec])) ?_)
            first | exact trivial | exact rfl
        · have hfin := fin_st H
          repeat (refine And.intro (Ob.mk (by first | (rw [← hfin] <;> first | exact rfl | exact Iff.rfl | exact ⟨rfl, rfl⟩ | exact decide_eq_true_iff | (refine ⟨?_, ?_⟩ <;> first | exact rfl | (simp only [ei, eb, es, ec, List.map_append, List.flatMap_append, List.nil_append, List.append_nil, List.append_assoc]; done) | omega | (simp only [List.nil_append, List.length_append, List.length_cons, List.length_nil]; omega) | (simp [ei, eb, es, ec]; done)) | (constructor <;> first | exact rfl | (simp only [ei, eb, es, ec, List.map_append, List.flatMap_append, List.nil_append, List.append_nil, List.append_assoc]; done) | omega | (simp only [List.nil_append, List.length_append, List.length_cons, List.length_nil]; omega) | (simp [ei, eb, es, ec]; done)) | exact rfl | (simp only [ei, eb, es, ec, List.map_append, List.flatMap_append, List.nil_append, List.append_nil, List.append_assoc]; done) | omega | (simp only [List.nil_append, List.length_append, List.length_cons, List.length_nil]; omega) | (simp [ei, eb, es, ec]; done) | simp [ei, eb, es, ec]) | first | exact rfl | exact Iff.rfl | exact ⟨rfl, rfl⟩ | exact decide_eq_true_iff | (refine ⟨?_, ?_⟩ <;> first | exact rfl | (simp only [ei, eb, es, ec, List.map_append, List.flatMap_append, List.nil_append, List.append_nil, List.append_assoc]; done) | omega | (simp only [List.nil_append, List.length_append, List.length_cons, List.length_nil]; omega) | (simp [ei, eb, es, ec]; done)) | (constructor <;> first | exact rfl | (simp only [ei, eb, es, ec, List.map_append, List.flatMap_append, List.nil_append, List.append_nil, List.append_assoc]; done) | omega | (simp only [List.nil_append, List.length_append, List.length_cons, List.length_nil]; omega) | (simp [ei, eb, es, ec]; done)) | exact rfl | (simp only [ei, eb, es, ec, List.map_append, List.flatMap_append, List.nil_append, List.append_nil, List.append_assoc]; done) | omega | (simp only [List.nil_append, List.length_append, List.length_cons, List.length_nil]; omega) | (simp [ei, eb, es, ec]; done) | simp [ei, eb, es, ec])) ?_)
          first | exact trivial | exact rfl

end Go.Proofs.Ytcnofjjiepcpjaa
