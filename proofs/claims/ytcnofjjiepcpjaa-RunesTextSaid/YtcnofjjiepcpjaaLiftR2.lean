/-
  Functions of the program, lifted: each with its walk. Printed by lift.py.
  Nothing here is trusted.
-/
import Derived.Test.YtcnofjjiepcpjaaLiftR1
set_option linter.unusedVariables false
set_option linter.unusedSimpArgs false
namespace Go.Proofs.Ytcnofjjiepcpjaa
open Go Go.Eng

/-- placard/runes.Text -/
noncomputable def g32 (a0 : List Int) : Option (ByteArray) :=
  ck (0 ≤ (0 : Int) ∧ (0 : Int) ≤ ((a0.length : Nat) : Int) ∧ ((a0.length : Nat) : Int) ≤ 9223372036854775807 ∧ ((a0.length : Nat) : Int) * ((1 : Nat) : Int) ≤ 140737488355328) <|
  jn (α := _) (β := List Int) (fun k61 =>
      (loopO (σ := List Int × Int) (ρ := List Int) (fun s64 =>
          if s64.2 < ((a0.length : Nat) : Int) then
            (
              ck (0 ≤ s64.2 ∧ s64.2 ≤ ((a0.length : Nat) : Int) ∧ ((a0.length : Nat) : Int) ≤ ((a0.length : Nat) : Int)) <|
              (g15 ((a0.drop s64.2.toNat).take (((a0.length : Nat) : Int).toNat - s64.2.toNat))).bind fun v98 =>
              if v98.2.2 = true then
                (
                  (g17 65533).bind fun v101 =>
                  ck ((s64.1.length + v101.length) * 1 ≤ 140737488355328) <|
                  ck (inR .i64 (s64.2 + 1)) <|
                  some (.go ((s64.1 ++ v101), s64.2 + 1))
                )
              else
                (
                  (g17 v98.1).bind fun v105 =>
                  ck ((s64.1.length + v105.length) * 1 ≤ 140737488355328) <|
                  ck (inR .i64 (s64.2 + v98.2.1)) <|
                  some (.go ((s64.1 ++ v105), s64.2 + v98.2.1))
                )
            )
          else
            some (.out s64.1)
        ) ((List.replicate (0 : Int).toNat 0), 0)).bind fun o94 =>
        k61 o94
  ) (fun v60 =>
    ck (isBytes v60) <|
    some (strOf v60)
  )
noncomputable def k32 : Eng.CS := { f := 32, calm := true, more := 0, ι := (List Int) × ByteArray, ok := fun i => g32 i.1 = some i.2, rds := fun _ => [], args := fun i => [.sl 1 i.1.length (ei .u8 i.1)], res := fun i => .v (.string (i.2)) }
set_option maxRecDepth 8000 in
set_option maxHeartbeats 4000000 in
theorem k32_ok : CalmOk Try.prog k32 := by
  refine R.calmspec Try.func32 nm32 rfl ?_
  rintro ⟨a0, r⟩ hok q _ args hargs
  match args, hargs with
  | [_], hargs =>
  obtain ⟨⟨A0, cp0, rfl, hc0, _, hR0⟩, _⟩ := hargs
  refine ⟨envC [k15, k17] false [(32, 5)], 6, envC_ok (css_cons ⟨fun _ => k15_ok, fun h => (by cases h)⟩ (css_cons ⟨fun h => (by cases h), fun _ => k17_ok⟩ (css_nil))), rfl, (by intro x hx; simp only [List.mem_cons, List.not_mem_nil, or_false] at hx; rcases hx with rfl <;> rfl), ?_⟩
  have H : Gives (g32 a0) (fun a => a = r) := ⟨r, hok, rfl⟩
  unfold g32 at H
  clear hok
  refine ob_ck H fun h1 H => ?_
  refine R.cut_fam H 23 [3] [] (fun v60 => []) (fun v60 => [(4, .cells 22 [.own 23]), (23, .arr 5 1 (v60.length) (ei .u8 (v60)))]) [] 1 (fun H => ?_)
  refine And.intro ?_ ?_
  · refine R.loop_fam (bind_st H) [0, 1] [] (fun _ s64 => [(3, .v (.int .i64 (s64.2)))]) (fun _ s64 => [(4, .cells 22 [.own 15]), (15, .arr 5 1 (s64.1.length) (ei .u8 (s64.1)))]) 1 (fun n109 H => ?_)
    refine ⟨(n109, _), ⟨H⟩, ⟨trivial⟩, ?_⟩
    repeat (refine And.intro (Ob.mk (by first | exact rfl | exact Iff.rfl | exact ⟨rfl, rfl⟩ | exact decide_eq_true_iff | (constructor <;> first | rfl | simp [ei, eb, es, ec]) | simp [ei, eb, es, ec])) ?_)
    rintro ⟨m0, s64⟩ H _
    obtain ⟨m65, hm0, H⟩ := IG_succ H
    dsimp only at hm0
    subst hm0
    try dsimp only at H
    refine if_st H (fun h95 H => ?_) (fun h95 H => ?_)
    · refine ob_sl hc0 H fun h96 H => ?_
      have hs97 := sl_ei hR0 rfl hc0 h96
      obtain ⟨v98, hv99, H⟩ := call_st H
      refine ⟨(((a0.drop s64.2.toNat).take (((a0.length : Nat) : Int).toNat - s64.2.toNat)), v98), ⟨hv99⟩, ⟨trivial⟩, ?_⟩
      refine And.intro ⟨(hs97.2.1).symm, hs97.2.2, ei_len.trans ((show _ = _ from hs97.2.1).trans (Nat.mul_one _).symm), hs97.1⟩ ?_
      refine if_st H (fun h100 H => ?_) (fun h100 H => ?_)
      · refine And.intro ⟨by kernel_rfl⟩ ?_
        refine ⟨(Pn.calm 0 (Pn.calm 1 (Pn.eff 2 [1] (Pn.eff 3 [0, 2, 1] (Pn.eff 4 [3, 0, 1, 2] Pn.done Pn.no) Pn.no) Pn.no))), ⟨by kernel_rfl⟩, ?_⟩
        refine And.intro ?_ trivial
        obtain ⟨v101, hv102, H⟩ := call_st H
        refine ⟨(65533, v101), ⟨hv102⟩, ⟨trivial⟩, ?_⟩
        refine And.intro ⟨rfl⟩ ?_
        refine And.intro ⟨rfl⟩ ?_
        refine And.intro ?_ trivial
        refine ob_app (by decide) (by first | exact ei_one | ((repeat (refine List.forall_mem_cons.2 ⟨rfl, ?_⟩)); intro y hy; cases hy; done) | (intro y hy; simp [ei, eb, es, ec] at hy; (first | (rcases hy with rfl | hy) | subst hy | skip); all_goals first | rfl | simp_all [Value.oneCell'])) H fun h103 H => ?_
        refine And.intro ⟨rfl⟩ ?_
        refine And.intro ?_ trivial
        refine And.intro ⟨rfl⟩ ?_
        refine ob_ck H fun h104 H => ?_
        replace H := some_st H
        refine ⟨(m65, ((s64.1 ++ v101), s64.2 + 1)), ⟨H, Nat.lt_succ_self _⟩, ⟨trivial⟩, ⟨rfl⟩, ?_⟩
        repeat (refine And.intro (Ob.mk (by first | exact rfl | exact Iff.rfl | exact ⟨rfl, rfl⟩ | exact decide_eq_true_iff | (constructor <;> first | rfl | simp [ei, eb, es, ec]) | simp [ei, eb, es, ec])) ?_)
        first | exact trivial | exact rfl
      · refine And.intro ⟨by kernel_rfl⟩ ?_
        refine ⟨(Pn.calm 0 (Pn.calm 1 (Pn.eff 2 [1] (Pn.eff 3 [0, 2, 1] (Pn.eff 4 [3, 0, 1, 2] Pn.done Pn.no) Pn.no) Pn.no))), ⟨by kernel_rfl⟩, ?_⟩
        refine And.intro ?_ trivial
        obtain ⟨v105, hv106, H⟩ := call_st H
        refine ⟨(v98.1, v105), ⟨hv106⟩, ⟨trivial⟩, ?_⟩
        refine And.intro ⟨rfl⟩ ?_
        refine And.intro ⟨rfl⟩ ?_
        refine And.intro ?_ trivial
        refine ob_app (by decide) (by first | exact ei_one | ((repeat (refine List.forall_mem_cons.2 ⟨rfl, ?_⟩)); intro y hy; cases hy; done) | (intro y hy; simp [ei, eb, es, ec] at hy; (first | (rcases hy with rfl | hy) | subst hy | skip); all_goals first | rfl | simp_all [Value.oneCell'])) H fun h107 H => ?_
        refine And.intro ⟨rfl⟩ ?_
        refine And.intro ?_ trivial
        refine And.intro ⟨rfl⟩ ?_
        refine ob_ck H fun h108 H => ?_
        replace H := some_st H
        refine ⟨(m65, ((s64.1 ++ v105), s64.2 + v98.2.1)), ⟨H, Nat.lt_succ_self _⟩, ⟨trivial⟩, ⟨rfl⟩, ?_⟩
        repeat (refine And.intro (Ob.mk (by first | exact rfl | exact Iff.rfl | exact ⟨rfl, rfl⟩ | exact decide_eq_true_iff | (constructor <;> first | rfl | simp [ei, eb, es, ec]) | simp [ei, eb, es, ec])) ?_)
        first | exact trivial | exact rfl
    · replace H := some_st H
      dsimp only [stp, sm] at H
      refine ⟨s64.1, ⟨H⟩, ⟨rfl⟩, ?_⟩
      repeat (refine And.intro (Ob.mk (by first | exact rfl | exact Iff.rfl | exact ⟨rfl, rfl⟩ | exact decide_eq_true_iff | (constructor <;> first | rfl | simp [ei, eb, es, ec]) | simp [ei, eb, es, ec])) ?_)
      first | exact trivial | exact rfl
  · intro v60 H
    refine ob_str (l := v60) H fun h110 H => ?_
    have hfin := fin_st H
    repeat (refine And.intro (Ob.mk (by first | (rw [← hfin] <;> first | exact rfl | exact Iff.rfl | exact ⟨rfl, rfl⟩ | exact decide_eq_true_iff | (constructor <;> first | rfl | simp [ei, eb, es, ec]) | simp [ei, eb, es, ec]) | first | exact rfl | exact Iff.rfl | exact ⟨rfl, rfl⟩ | exact decide_eq_true_iff | (constructor <;> first | rfl | simp [ei, eb, es, ec]) | simp [ei, eb, es, ec])) ?_)
    first | exact trivial | exact rfl

/-- placard/placardlaw01.told -/
noncomputable def g44 (a0 : ByteArray) (a1 : Int) : Option (List Int × List Int) :=
  ck (a0.size ≤ 140737488355328) <|
  jn (α := _) (β := List Int × List Int) (fun k227 =>
      (loopO (σ := List Int × List Int × Int) (ρ := (List Int × List Int) ⊕ (List Int × List Int)) (fun s230 =>
          if s230.2.2 < ((a0.size : Nat) : Int) then
            (
              ck (0 ≤ s230.2.2 ∧ s230.2.2 ≤ ((a0.size : Nat) : Int) ∧ ((a0.size : Nat) : Int) ≤ ((a0.size : Nat) : Int)) <|
              (g15 (((bytesOf a0).drop s230.2.2.toNat).take (((a0.size : Nat) : Int).toNat - s230.2.2.toNat))).bind fun v288 =>
              if v288.2.2 = true then
                (
                  if a1 ≤ ((s230.1.length : Nat) : Int) then
                    some (.out (.inl ((s230.1, s230.2.1))))
                  else
                    (
                      ck ((s230.1.length + 1) * 4 ≤ 140737488355328) <|
                      ck ((s230.2.1.length + 1) * 8 ≤ 140737488355328) <|
                      ck (inR .i64 (s230.2.2 + 1)) <|
                      some (.go ((s230.1 ++ [65533]), (s230.2.1 ++ [s230.2.2]), s230.2.2 + 1))
                    )
                )
              else
                (
                  if a1 ≤ ((s230.1.length : Nat) : Int) then
                    some (.out (.inl ((s230.1, s230.2.1))))
                  else
                    (
                      ck ((s230.1.length + 1) * 4 ≤ 140737488355328) <|
                      ck ((s230.2.1.length + 1) * 8 ≤ 140737488355328) <|
                      ck (inR .i64 (s230.2.2 + v288.2.1)) <|
                      some (.go ((s230.1 ++ [v288.1]), (s230.2.1 ++ [s230.2.2]), s230.2.2 + v288.2.1))
                    )
                )
            )
          else
            some (.out (.inr ((s230.1, s230.2.1))))
        ) ([], [], 0)).bind fun o284 =>
      sm o284 (fun o311 =>
          k227 (o311.1, o311.2)
        ) (fun o312 =>
          k227 (o312.1, o312.2)
        )
  ) (fun v226 =>
    some (v226.1, v226.2)
  )
noncomputable def k44 : Eng.CS := { f := 44, calm := false, more := 2, ι := ByteArray × Int × (List Int × List Int), ok := fun i => g44 i.1 i.2.1 = some i.2.2, rds := fun _ => [], args := fun i => [.w (.v (.string (i.1))), .w (.v (.int .i64 (i.2.1)))], res := fun i => .tup [.own 0, .own 1], L' := fun i => [(0, .arr 21 1 i.2.2.1.length (ei .i32 i.2.2.1)), (1, .arr 3 1 i.2.2.2.length (ei .i64 i.2.2.2))], rn := [(0, 0, 21, 1), (1, 0, 3, 1)] }
set_option maxRecDepth 8000 in
set_option maxHeartbeats 4000000 in
theorem k44_ok : CSOk Try.prog k44 := by
  refine R.cspec Try.func44 nm44 rfl ?_
  rintro ⟨a0, a1, r⟩ hok q _ args hargs
  match args, hargs with
  | [_, _], hargs =>
  obtain ⟨rfl, rfl, _⟩ := hargs
  refine ⟨envC [k15] false [(44, 11)], 6, envC_ok (css_cons ⟨fun _ => k15_ok, fun h => (by cases h)⟩ (css_nil)), ?_⟩
  have H : Gives (g44 a0 a1) (fun a => a = r) := ⟨r, hok, rfl⟩
  unfold g44 at H
  clear hok
  refine ob_sb H fun h123 H q124 A118 c119 hq120 hc121 hR122 => ?_
  refine R.cut_fam H 71 [6, 7] [] (fun v226 => []) (fun v226 => [(3, .cells 65 [.own 71]), (4, .cells 32 [.own 72]), (71, .arr 21 1 (v226.1.length) (ei .i32 (v226.1))), (72, .arr 3 1 (v226.2.length) (ei .i64 (v226.2)))]) [(0, .cells 3 [.v (.int .i64 (a1))]), (13, .cells 22 [.v (.slice (A118) (a0.size) (c119))])] 2 (fun H => ?_)
  refine And.intro ?_ ?_
  · refine R.loop_fam (bind_st H) [0, 1] [(100003, 0, 21, 1), (100004, 0, 3, 1)] (fun _ s230 => [(3, .v (.int .i64 (s230.2.2)))]) (fun _ s230 => [(3, .cells 65 [.own 25]), (4, .cells 32 [.own 26]), (25, .arr 21 1 (s230.1.length) (ei .i32 (s230.1))), (26, .arr 3 1 (s230.2.1.length) (ei .i64 (s230.2.1)))]) 2 (fun n313 H => ?_)
    refine ⟨(n313, _), ⟨H⟩, ⟨trivial⟩, ?_⟩
    repeat (refine And.intro (Ob.mk (by first | exact rfl | exact Iff.rfl | exact ⟨rfl, rfl⟩ | exact decide_eq_true_iff | (constructor <;> first | rfl | simp [ei, eb, es, ec]) | simp [ei, eb, es, ec])) ?_)
    rintro ⟨m0, s230⟩ H _
    obtain ⟨m231, hm0, H⟩ := IG_succ H
    dsimp only at hm0
    subst hm0
    try dsimp only at H
    refine if_st H (fun h285 H => ?_) (fun h285 H => ?_)
    · refine ob_sl hc121 H fun h286 H => ?_
      have hs287 := sl_ei hR122 (bytesOf_len a0) hc121 h286
      obtain ⟨v288, hv289, H⟩ := call_st H
      refine ⟨((((bytesOf a0).drop s230.2.2.toNat).take (((a0.size : Nat) : Int).toNat - s230.2.2.toNat)), v288), ⟨hv289⟩, ⟨trivial⟩, ?_⟩
      refine And.intro ⟨(hs287.2.1).symm, hs287.2.2, ei_len.trans ((show _ = _ from hs287.2.1).trans (Nat.mul_one _).symm), hs287.1⟩ ?_
      refine if_st H (fun h290 H => ?_) (fun h290 H => ?_)
      · refine if_st H (fun h291 H => ?_) (fun h291 H => ?_)
        · replace H := some_st H
          dsimp only [stp, sm] at H
          refine ⟨(s230.1, s230.2.1), ⟨H⟩, ⟨rfl⟩, ?_⟩
          repeat (refine And.intro (Ob.mk (by first | exact rfl | exact Iff.rfl | exact ⟨rfl, rfl⟩ | exact decide_eq_true_iff | (constructor <;> first | rfl | simp [ei, eb, es, ec]) | simp [ei, eb, es, ec])) ?_)
          first | exact trivial | exact rfl
        · refine And.intro ⟨by kernel_rfl⟩ ?_
          refine ⟨(Pn.calm 0 (Pn.calm 1 (Pn.calm 4 (Pn.calm 5 (Pn.eff 2 [1] (Pn.eff 3 [0, 2, 1] (Pn.eff 6 [5] (Pn.eff 7 [4, 6, 3, 5, 0, 2, 1] (Pn.eff 8 [3, 7, 0, 1, 2, 4, 6, 5] (Pn.eff 9 [7, 8, 0, 1, 2, 3, 4, 5, 6] Pn.done Pn.no) Pn.no) Pn.no) Pn.no) (Pn.eff 6 [5] (Pn.eff 3 [0, 2, 1] (Pn.eff 7 [4, 6, 3, 5, 0, 2, 1] (Pn.eff 8 [3, 7, 0, 1, 2, 4, 6, 5] (Pn.eff 9 [7, 8, 0, 1, 2, 3, 4, 5, 6] Pn.done Pn.no) Pn.no) Pn.no) Pn.no) Pn.no)) (Pn.eff 6 [5] (Pn.eff 2 [1] (Pn.eff 3 [0, 2, 1] (Pn.eff 7 [4, 6, 3, 5, 0, 2, 1] (Pn.eff 8 [3, 7, 0, 1, 2, 4, 6, 5] (Pn.eff 9 [7, 8, 0, 1, 2, 3, 4, 5, 6] Pn.done Pn.no) Pn.no) Pn.no) Pn.no) Pn.no) Pn.no)))))), ⟨by kernel_rfl⟩, ?_⟩
          refine And.intro ?_ (And.intro ?_ trivial)
          · refine And.intro ⟨rfl⟩ ?_
            refine And.intro ?_ (And.intro ?_ trivial)
            · refine ob_app (by decide) (by first | exact ei_one | ((repeat (refine List.forall_mem_cons.2 ⟨rfl, ?_⟩)); intro y hy; cases hy; done) | (intro y hy; simp [ei, eb, es, ec] at hy; (first | (rcases hy with rfl | hy) | subst hy | skip); all_goals first | rfl | simp_all [Value.oneCell'])) H fun h292 H => ?_
              refine And.intro ⟨rfl⟩ ?_
              refine And.intro ?_ trivial
              refine And.intro ⟨rfl⟩ ?_
              refine And.intro ?_ trivial
              refine ob_app (by decide) (by first | exact ei_one | ((repeat (refine List.forall_mem_cons.2 ⟨rfl, ?_⟩)); intro y hy; cases hy; done) | (intro y hy; simp [ei, eb, es, ec] at hy; (first | (rcases hy with rfl | hy) | subst hy | skip); all_goals first | rfl | simp_all [Value.oneCell'])) H fun h293 H => ?_
              refine And.intro ⟨rfl⟩ ?_
              refine And.intro ?_ trivial
              refine And.intro ⟨rfl⟩ ?_
              refine And.intro ?_ trivial
              refine And.intro ⟨rfl⟩ ?_
              refine ob_ck H fun h294 H => ?_
              replace H := some_st H
              refine ⟨(m231, ((s230.1 ++ [65533]), (s230.2.1 ++ [s230.2.2]), s230.2.2 + 1)), ⟨H, Nat.lt_succ_self _⟩, ⟨trivial⟩, ⟨rfl⟩, ?_⟩
              repeat (refine And.intro (Ob.mk (by first | exact rfl | exact Iff.rfl | exact ⟨rfl, rfl⟩ | exact decide_eq_true_iff | (constructor <;> first | rfl | simp [ei, eb, es, ec]) | simp [ei, eb, es, ec])) ?_)
              first | exact trivial | exact rfl
            · refine And.intro ⟨rfl⟩ ?_
              refine And.intro ?_ trivial
              refine ob_app (by decide) (by first | exact ei_one | ((repeat (refine List.forall_mem_cons.2 ⟨rfl, ?_⟩)); intro y hy; cases hy; done) | (intro y hy; simp [ei, eb, es, ec] at hy; (first | (rcases hy with rfl | hy) | subst hy | skip); all_goals first | rfl | simp_all [Value.oneCell'])) H fun h295 H => ?_
              refine And.intro ⟨rfl⟩ ?_
              refine And.intro ?_ trivial
              refine ob_app (by decide) (by first | exact ei_one | ((repeat (refine List.forall_mem_cons.2 ⟨rfl, ?_⟩)); intro y hy; cases hy; done) | (intro y hy; simp [ei, eb, es, ec] at hy; (first | (rcases hy with rfl | hy) | subst hy | skip); all_goals first | rfl | simp_all [Value.oneCell'])) H fun h296 H => ?_
              refine And.intro ⟨rfl⟩ ?_
              refine And.intro ?_ trivial
              refine And.intro ⟨rfl⟩ ?_
              refine And.intro ?_ trivial
              refine And.intro ⟨rfl⟩ ?_
              refine ob_ck H fun h297 H => ?_
              replace H := some_st H
              refine ⟨(m231, ((s230.1 ++ [65533]), (s230.2.1 ++ [s230.2.2]), s230.2.2 + 1)), ⟨H, Nat.lt_succ_self _⟩, ⟨trivial⟩, ⟨rfl⟩, ?_⟩
              repeat (refine And.intro (Ob.mk (by first | exact rfl | exact Iff.rfl | exact ⟨rfl, rfl⟩ | exact decide_eq_true_iff | (constructor <;> first | rfl | simp [ei, eb, es, ec]) | simp [ei, eb, es, ec])) ?_)
              first | exact trivial | exact rfl
          · refine And.intro ⟨rfl⟩ ?_
            refine And.intro ?_ trivial
            refine And.intro ⟨rfl⟩ ?_
            refine And.intro ?_ trivial
            refine ob_app (by decide) (by first | exact ei_one | ((repeat (refine List.forall_mem_cons.2 ⟨rfl, ?_⟩)); intro y hy; cases hy; done) | (intro y hy; simp [ei, eb, es, ec] at hy; (first | (rcases hy with rfl | hy) | subst hy | skip); all_goals first | rfl | simp_all [Value.oneCell'])) H fun h298 H => ?_
            refine And.intro ⟨rfl⟩ ?_
            refine And.intro ?_ trivial
            refine ob_app (by decide) (by first | exact ei_one | ((repeat (refine List.forall_mem_cons.2 ⟨rfl, ?_⟩)); intro y hy; cases hy; done) | (intro y hy; simp [ei, eb, es, ec] at hy; (first | (rcases hy with rfl | hy) | subst hy | skip); all_goals first | rfl | simp_all [Value.oneCell'])) H fun h299 H => ?_
            refine And.intro ⟨rfl⟩ ?_
            refine And.intro ?_ trivial
            refine And.intro ⟨rfl⟩ ?_
            refine And.intro ?_ trivial
            refine And.intro ⟨rfl⟩ ?_
            refine ob_ck H fun h300 H => ?_
            replace H := some_st H
            refine ⟨(m231, ((s230.1 ++ [65533]), (s230.2.1 ++ [s230.2.2]), s230.2.2 + 1)), ⟨H, Nat.lt_succ_self _⟩, ⟨trivial⟩, ⟨rfl⟩, ?_⟩
            repeat (refine And.intro (Ob.mk (by first | exact rfl | exact Iff.rfl | exact ⟨rfl, rfl⟩ | exact decide_eq_true_iff | (constructor <;> first | rfl | simp [ei, eb, es, ec]) | simp [ei, eb, es, ec])) ?_)
            first | exact trivial | exact rfl
      · refine if_st H (fun h301 H => ?_) (fun h301 H => ?_)
        · replace H := some_st H
          dsimp only [stp, sm] at H
          refine ⟨(s230.1, s230.2.1), ⟨H⟩, ⟨rfl⟩, ?_⟩
          repeat (refine And.intro (Ob.mk (by first | exact rfl | exact Iff.rfl | exact ⟨rfl, rfl⟩ | exact decide_eq_true_iff | (constructor <;> first | rfl | simp [ei, eb, es, ec]) | simp [ei, eb, es, ec])) ?_)
          first | exact trivial | exact rfl
        · refine And.intro ⟨by kernel_rfl⟩ ?_
          refine ⟨(Pn.calm 0 (Pn.calm 1 (Pn.calm 4 (Pn.calm 5 (Pn.eff 2 [1] (Pn.eff 3 [0, 2, 1] (Pn.eff 6 [5] (Pn.eff 7 [4, 6, 3, 5, 0, 2, 1] (Pn.eff 8 [3, 7, 0, 1, 2, 4, 6, 5] (Pn.eff 9 [7, 8, 0, 1, 2, 3, 4, 5, 6] Pn.done Pn.no) Pn.no) Pn.no) Pn.no) (Pn.eff 6 [5] (Pn.eff 3 [0, 2, 1] (Pn.eff 7 [4, 6, 3, 5, 0, 2, 1] (Pn.eff 8 [3, 7, 0, 1, 2, 4, 6, 5] (Pn.eff 9 [7, 8, 0, 1, 2, 3, 4, 5, 6] Pn.done Pn.no) Pn.no) Pn.no) Pn.no) Pn.no)) (Pn.eff 6 [5] (Pn.eff 2 [1] (Pn.eff 3 [0, 2, 1] (Pn.eff 7 [4, 6, 3, 5, 0, 2, 1] (Pn.eff 8 [3, 7, 0, 1, 2, 4, 6, 5] (Pn.eff 9 [7, 8, 0, 1, 2, 3, 4, 5, 6] Pn.done Pn.no) Pn.no) Pn.no) Pn.no) Pn.no) Pn.no)))))), ⟨by kernel_rfl⟩, ?_⟩
          refine And.intro ?_ (And.intro ?_ trivial)
          · refine And.intro ⟨rfl⟩ ?_
            refine And.intro ?_ (And.intro ?_ trivial)
            · refine ob_app (by decide) (by first | exact ei_one | ((repeat (refine List.forall_mem_cons.2 ⟨rfl, ?_⟩)); intro y hy; cases hy; done) | (intro y hy; simp [ei, eb, es, ec] at hy; (first | (rcases hy with rfl | hy) | subst hy | skip); all_goals first | rfl | simp_all [Value.oneCell'])) H fun h302 H => ?_
              refine And.intro ⟨rfl⟩ ?_
              refine And.intro ?_ trivial
              refine And.intro ⟨rfl⟩ ?_
              refine And.intro ?_ trivial
              refine ob_app (by decide) (by first | exact ei_one | ((repeat (refine List.forall_mem_cons.2 ⟨rfl, ?_⟩)); intro y hy; cases hy; done) | (intro y hy; simp [ei, eb, es, ec] at hy; (first | (rcases hy with rfl | hy) | subst hy | skip); all_goals first | rfl | simp_all [Value.oneCell'])) H fun h303 H => ?_
              refine And.intro ⟨rfl⟩ ?_
              refine And.intro ?_ trivial
              refine And.intro ⟨rfl⟩ ?_
              refine And.intro ?_ trivial
              refine And.intro ⟨rfl⟩ ?_
              refine ob_ck H fun h304 H => ?_
              replace H := some_st H
              refine ⟨(m231, ((s230.1 ++ [v288.1]), (s230.2.1 ++ [s230.2.2]), s230.2.2 + v288.2.1)), ⟨H, Nat.lt_succ_self _⟩, ⟨trivial⟩, ⟨rfl⟩, ?_⟩
              repeat (refine And.intro (Ob.mk (by first | exact rfl | exact Iff.rfl | exact ⟨rfl, rfl⟩ | exact decide_eq_true_iff | (constructor <;> first | rfl | simp [ei, eb, es, ec]) | simp [ei, eb, es, ec])) ?_)
              first | exact trivial | exact rfl
            · refine And.intro ⟨rfl⟩ ?_
              refine And.intro ?_ trivial
              refine ob_app (by decide) (by first | exact ei_one | ((repeat (refine List.forall_mem_cons.2 ⟨rfl, ?_⟩)); intro y hy; cases hy; done) | (intro y hy; simp [ei, eb, es, ec] at hy; (first | (rcases hy with rfl | hy) | subst hy | skip); all_goals first | rfl | simp_all [Value.oneCell'])) H fun h305 H => ?_
              refine And.intro ⟨rfl⟩ ?_
              refine And.intro ?_ trivial
              refine ob_app (by decide) (by first | exact ei_one | ((repeat (refine List.forall_mem_cons.2 ⟨rfl, ?_⟩)); intro y hy; cases hy; done) | (intro y hy; simp [ei, eb, es, ec] at hy; (first | (rcases hy with rfl | hy) | subst hy | skip); all_goals first | rfl | simp_all [Value.oneCell'])) H fun h306 H => ?_
              refine And.intro ⟨rfl⟩ ?_
              refine And.intro ?_ trivial
              refine And.intro ⟨rfl⟩ ?_
              refine And.intro ?_ trivial
              refine And.intro ⟨rfl⟩ ?_
              refine ob_ck H fun h307 H => ?_
              replace H := some_st H
              refine ⟨(m231, ((s230.1 ++ [v288.1]), (s230.2.1 ++ [s230.2.2]), s230.2.2 + v288.2.1)), ⟨H, Nat.lt_succ_self _⟩, ⟨trivial⟩, ⟨rfl⟩, ?_⟩
              repeat (refine And.intro (Ob.mk (by first | exact rfl | exact Iff.rfl | exact ⟨rfl, rfl⟩ | exact decide_eq_true_iff | (constructor <;> first | rfl | simp [ei, eb, es, ec]) | simp [ei, eb, es, ec])) ?_)
              first | exact trivial | exact rfl
          · refine And.intro ⟨rfl⟩ ?_
            refine And.intro ?_ trivial
            refine And.intro ⟨rfl⟩ ?_
            refine And.intro ?_ trivial
            refine ob_app (by decide) (by first | exact ei_one | ((repeat (refine List.forall_mem_cons.2 ⟨rfl, ?_⟩)); intro y hy; cases hy; done) | (intro y hy; simp [ei, eb, es, ec] at hy; (first | (rcases hy with rfl | hy) | subst hy | skip); all_goals first | rfl | simp_all [Value.oneCell'])) H fun h308 H => ?_
            refine And.intro ⟨rfl⟩ ?_
            refine And.intro ?_ trivial
            refine ob_app (by decide) (by first | exact ei_one | ((repeat (refine List.forall_mem_cons.2 ⟨rfl, ?_⟩)); intro y hy; cases hy; done) | (intro y hy; simp [ei, eb, es, ec] at hy; (first | (rcases hy with rfl | hy) | subst hy | skip); all_goals first | rfl | simp_all [Value.oneCell'])) H fun h309 H => ?_
            refine And.intro ⟨rfl⟩ ?_
            refine And.intro ?_ trivial
            refine And.intro ⟨rfl⟩ ?_
            refine And.intro ?_ trivial
            refine And.intro ⟨rfl⟩ ?_
            refine ob_ck H fun h310 H => ?_
            replace H := some_st H
            refine ⟨(m231, ((s230.1 ++ [v288.1]), (s230.2.1 ++ [s230.2.2]), s230.2.2 + v288.2.1)), ⟨H, Nat.lt_succ_self _⟩, ⟨trivial⟩, ⟨rfl⟩, ?_⟩
            repeat (refine And.intro (Ob.mk (by first | exact rfl | exact Iff.rfl | exact ⟨rfl, rfl⟩ | exact decide_eq_true_iff | (constructor <;> first | rfl | simp [ei, eb, es, ec]) | simp [ei, eb, es, ec])) ?_)
            first | exact trivial | exact rfl
    · replace H := some_st H
      dsimp only [stp, sm] at H
      refine ⟨(s230.1, s230.2.1), ⟨H⟩, ⟨rfl⟩, ?_⟩
      repeat (refine And.intro (Ob.mk (by first | exact rfl | exact Iff.rfl | exact ⟨rfl, rfl⟩ | exact decide_eq_true_iff | (constructor <;> first | rfl | simp [ei, eb, es, ec]) | simp [ei, eb, es, ec])) ?_)
      first | exact trivial | exact rfl
  · intro v226 H
    refine And.intro ⟨by kernel_rfl⟩ ?_
    have hfin := fin_st H
    repeat (refine And.intro (Ob.mk (by first | (rw [← hfin] <;> first | exact rfl | exact Iff.rfl | exact ⟨rfl, rfl⟩ | exact decide_eq_true_iff | (constructor <;> first | rfl | simp [ei, eb, es, ec]) | simp [ei, eb, es, ec]) | first | exact rfl | exact Iff.rfl | exact ⟨rfl, rfl⟩ | exact decide_eq_true_iff | (constructor <;> first | rfl | simp [ei, eb, es, ec]) | simp [ei, eb, es, ec])) ?_)
    first | exact trivial | exact rfl

/-- placard/runes.Count -/
noncomputable def g47 (a0 : ByteArray) : Option (Int) :=
  jn (α := _) (β := Int) (fun k368 =>
      ck (a0.size ≤ 140737488355328) <|
      (loopO (σ := Int × Int) (ρ := Int) (fun s378 =>
          if s378.2 < ((a0.size : Nat) : Int) then
            (
              ck (0 ≤ s378.2 ∧ s378.2 ≤ ((a0.size : Nat) : Int) ∧ ((a0.size : Nat) : Int) ≤ ((a0.size : Nat) : Int)) <|
              (g15 (((bytesOf a0).drop s378.2.toNat).take (((a0.size : Nat) : Int).toNat - s378.2.toNat))).bind fun v404 =>
              if v404.2.2 = true then
                (
                  ck (inR .i64 (s378.1 + 1)) <|
                  ck (inR .i64 (s378.2 + 1)) <|
                  some (.go (s378.1 + 1, s378.2 + 1))
                )
              else
                (
                  ck (inR .i64 (s378.1 + 1)) <|
                  ck (inR .i64 (s378.2 + v404.2.1)) <|
                  some (.go (s378.1 + 1, s378.2 + v404.2.1))
                )
            )
          else
            some (.out s378.1)
        ) (0, 0)).bind fun o400 =>
        k368 o400
  ) (fun v367 =>
    some v367
  )
noncomputable def k47 : Eng.CS := { f := 47, calm := true, more := 0, ι := ByteArray × Int, ok := fun i => g47 i.1 = some i.2, rds := fun _ => [], args := fun i => [.w (.v (.string (i.1)))], res := fun i => .v (.int .i64 (i.2)) }
set_option maxRecDepth 8000 in
set_option maxHeartbeats 4000000 in
theorem k47_ok : CalmOk Try.prog k47 := by
  refine R.calmspec Try.func47 nm47 rfl ?_
  rintro ⟨a0, r⟩ hok q _ args hargs
  match args, hargs with
  | [_], hargs =>
  obtain ⟨rfl, _⟩ := hargs
  refine ⟨envC [k15] false [(47, 4)], 6, envC_ok (css_cons ⟨fun _ => k15_ok, fun h => (by cases h)⟩ (css_nil)), rfl, (by intro x hx; simp only [List.mem_cons, List.not_mem_nil, or_false] at hx; rcases hx with rfl <;> rfl), ?_⟩
  have H : Gives (g47 a0) (fun a => a = r) := ⟨r, hok, rfl⟩
  unfold g47 at H
  clear hok
  refine R.cut_famG H 23 [3] [] (fun v367 => []) (fun v367 => [(1, .cells 3 [.v (.int .i64 (v367))])]) [] 0 (fun H => ?_)
  refine And.intro ?_ ?_
  · refine ob_sb H fun h374 H q375 A369 c370 hq371 hc372 hR373 => ?_
    refine R.loop_fam (bind_st H) [0, 1] [] (fun _ s378 => [(3, .v (.int .i64 (s378.2)))]) (fun _ s378 => [(1, .cells 3 [.v (.int .i64 (s378.1))])]) 0 (fun n411 H => ?_)
    refine ⟨(n411, _), ⟨H⟩, ⟨trivial⟩, ?_⟩
    repeat (refine And.intro (Ob.mk (by first | exact rfl | exact Iff.rfl | exact ⟨rfl, rfl⟩ | exact decide_eq_true_iff | (constructor <;> first | rfl | simp [ei, eb, es, ec]) | simp [ei, eb, es, ec])) ?_)
    rintro ⟨m0, s378⟩ H _
    obtain ⟨m379, hm0, H⟩ := IG_succ H
    dsimp only at hm0
    subst hm0
    try dsimp only at H
    refine if_st H (fun h401 H => ?_) (fun h401 H => ?_)
    · refine ob_sl hc372 H fun h402 H => ?_
      have hs403 := sl_ei hR373 (bytesOf_len a0) hc372 h402
      obtain ⟨v404, hv405, H⟩ := call_st H
      refine ⟨((((bytesOf a0).drop s378.2.toNat).take (((a0.size : Nat) : Int).toNat - s378.2.toNat)), v404), ⟨hv405⟩, ⟨trivial⟩, ?_⟩
      refine And.intro ⟨(hs403.2.1).symm, hs403.2.2, ei_len.trans ((show _ = _ from hs403.2.1).trans (Nat.mul_one _).symm), hs403.1⟩ ?_
      refine if_st H (fun h406 H => ?_) (fun h406 H => ?_)
      · refine ob_ck H fun h407 H => ?_
        refine ob_ck H fun h408 H => ?_
        replace H := some_st H
        refine ⟨(m379, (s378.1 + 1, s378.2 + 1)), ⟨H, Nat.lt_succ_self _⟩, ⟨trivial⟩, ⟨rfl⟩, ?_⟩
        repeat (refine And.intro (Ob.mk (by first | exact rfl | exact Iff.rfl | exact ⟨rfl, rfl⟩ | exact decide_eq_true_iff | (constructor <;> first | rfl | simp [ei, eb, es, ec]) | simp [ei, eb, es, ec])) ?_)
        first | exact trivial | exact rfl
      · refine ob_ck H fun h409 H => ?_
        refine ob_ck H fun h410 H => ?_
        replace H := some_st H
        refine ⟨(m379, (s378.1 + 1, s378.2 + v404.2.1)), ⟨H, Nat.lt_succ_self _⟩, ⟨trivial⟩, ⟨rfl⟩, ?_⟩
        repeat (refine And.intro (Ob.mk (by first | exact rfl | exact Iff.rfl | exact ⟨rfl, rfl⟩ | exact decide_eq_true_iff | (constructor <;> first | rfl | simp [ei, eb, es, ec]) | simp [ei, eb, es, ec])) ?_)
        first | exact trivial | exact rfl
    · replace H := some_st H
      dsimp only [stp, sm] at H
      refine ⟨s378.1, ⟨H⟩, ⟨fun _ _ _ h => (hq371 _ _ _ h)⟩, ?_⟩
      repeat (refine And.intro (Ob.mk (by first | exact rfl | exact Iff.rfl | exact ⟨rfl, rfl⟩ | exact decide_eq_true_iff | (constructor <;> first | rfl | simp [ei, eb, es, ec]) | simp [ei, eb, es, ec])) ?_)
      first | exact trivial | exact rfl
  · intro q366 hq365 v367 H
    have hfin := fin_st H
    repeat (refine And.intro (Ob.mk (by first | (rw [← hfin] <;> first | exact rfl | exact Iff.rfl | exact ⟨rfl, rfl⟩ | exact decide_eq_true_iff | (constructor <;> first | rfl | simp [ei, eb, es, ec]) | simp [ei, eb, es, ec]) | first | exact rfl | exact Iff.rfl | exact ⟨rfl, rfl⟩ | exact decide_eq_true_iff | (constructor <;> first | rfl | simp [ei, eb, es, ec]) | simp [ei, eb, es, ec])) ?_)
    first | exact trivial | exact rfl

/-- placard/runes.Valid -/
noncomputable def g48 (a0 : ByteArray) : Option (Bool) :=
  ck (a0.size ≤ 140737488355328) <|
  jn (α := _) (β := Unit) (fun k471 =>
      (loopO (σ := Int) (ρ := (Unit) ⊕ (Unit)) (fun s474 =>
          if s474 < ((a0.size : Nat) : Int) then
            (
              ck (0 ≤ s474 ∧ s474 ≤ ((a0.size : Nat) : Int) ∧ ((a0.size : Nat) : Int) ≤ ((a0.size : Nat) : Int)) <|
              (g15 (((bytesOf a0).drop s474.toNat).take (((a0.size : Nat) : Int).toNat - s474.toNat))).bind fun v504 =>
              if v504.2.2 = true then
                some (.out (.inl (())))
              else
                (
                  if ¬ v504.1 = 65533 then
                    (
                      ck (inR .i64 (s474 + v504.2.1)) <|
                      some (.go (s474 + v504.2.1))
                    )
                  else
                    (
                      (g17 65533).bind fun v509 =>
                      if ¬ v504.2.1 = ((v509.length : Nat) : Int) then
                        some (.out (.inl (())))
                      else
                        (
                          ck (inR .i64 (s474 + v504.2.1)) <|
                          some (.go (s474 + v504.2.1))
                        )
                    )
                )
            )
          else
            some (.out (.inr (())))
        ) 0).bind fun o500 =>
      sm o500 (fun o513 =>
          some false
        ) (fun o514 =>
          k471 ()
        )
  ) (fun v470 =>
    some true
  )
noncomputable def k48 : Eng.CS := { f := 48, calm := true, more := 0, ι := ByteArray × Bool, ok := fun i => g48 i.1 = some i.2, rds := fun _ => [], args := fun i => [.w (.v (.string (i.1)))], res := fun i => bS i.2 }
set_option maxRecDepth 8000 in
set_option maxHeartbeats 4000000 in
theorem k48_ok : CalmOk Try.prog k48 := by
  refine R.calmspec Try.func48 nm48 rfl ?_
  rintro ⟨a0, r⟩ hok q _ args hargs
  match args, hargs with
  | [_], hargs =>
  obtain ⟨rfl, _⟩ := hargs
  refine ⟨envC [k15, k17] false [(48, 12)], 6, envC_ok (css_cons ⟨fun _ => k15_ok, fun h => (by cases h)⟩ (css_cons ⟨fun h => (by cases h), fun _ => k17_ok⟩ (css_nil))), rfl, (by intro x hx; simp only [List.mem_cons, List.not_mem_nil, or_false] at hx; rcases hx with rfl <;> rfl), ?_⟩
  have H : Gives (g48 a0) (fun a => a = r) := ⟨r, hok, rfl⟩
  unfold g48 at H
  clear hok
  refine ob_sb H fun h417 H q418 A412 c413 hq414 hc415 hR416 => ?_
  refine R.cut_fam H 11 [] [] (fun v470 => []) (fun v470 => []) [] 0 (fun H => ?_)
  refine And.intro ?_ ?_
  · refine R.loop_fam (bind_st H) [3] [] (fun _ s474 => [(4, .v (.int .i64 (s474)))]) (fun _ s474 => []) 0 (fun n515 H => ?_)
    refine ⟨(n515, _), ⟨H⟩, ⟨trivial⟩, ?_⟩
    repeat (refine And.intro (Ob.mk (by first | exact rfl | exact Iff.rfl | exact ⟨rfl, rfl⟩ | exact decide_eq_true_iff | (constructor <;> first | rfl | simp [ei, eb, es, ec]) | simp [ei, eb, es, ec])) ?_)
    rintro ⟨m0, s474⟩ H _
    obtain ⟨m475, hm0, H⟩ := IG_succ H
    dsimp only at hm0
    subst hm0
    try dsimp only at H
    refine if_st H (fun h501 H => ?_) (fun h501 H => ?_)
    · refine ob_sl hc415 H fun h502 H => ?_
      have hs503 := sl_ei hR416 (bytesOf_len a0) hc415 h502
      obtain ⟨v504, hv505, H⟩ := call_st H
      refine ⟨((((bytesOf a0).drop s474.toNat).take (((a0.size : Nat) : Int).toNat - s474.toNat)), v504), ⟨hv505⟩, ⟨trivial⟩, ?_⟩
      refine And.intro ⟨(hs503.2.1).symm, hs503.2.2, ei_len.trans ((show _ = _ from hs503.2.1).trans (Nat.mul_one _).symm), hs503.1⟩ ?_
      refine if_st H (fun h506 H => ?_) (fun h506 H => ?_)
      · replace H := some_st H
        dsimp only [stp, sm] at H
        have hfin := fin_st H
        repeat (refine And.intro (Ob.mk (by first | (rw [← hfin] <;> first | exact rfl | exact Iff.rfl | exact ⟨rfl, rfl⟩ | exact decide_eq_true_iff | (constructor <;> first | rfl | simp [ei, eb, es, ec]) | simp [ei, eb, es, ec]) | first | exact rfl | exact Iff.rfl | exact ⟨rfl, rfl⟩ | exact decide_eq_true_iff | (constructor <;> first | rfl | simp [ei, eb, es, ec]) | simp [ei, eb, es, ec])) ?_)
        first | exact trivial | exact rfl
      · refine if_st H (fun h507 H => ?_) (fun h507 H => ?_)
        · refine ob_ck H fun h508 H => ?_
          replace H := some_st H
          refine ⟨(m475, s474 + v504.2.1), ⟨H, Nat.lt_succ_self _⟩, ⟨trivial⟩, ⟨rfl⟩, ?_⟩
          repeat (refine And.intro (Ob.mk (by first | exact rfl | exact Iff.rfl | exact ⟨rfl, rfl⟩ | exact decide_eq_true_iff | (constructor <;> first | rfl | simp [ei, eb, es, ec]) | simp [ei, eb, es, ec])) ?_)
          first | exact trivial | exact rfl
        · obtain ⟨v509, hv510, H⟩ := call_st H
          refine ⟨(65533, v509), ⟨hv510⟩, ⟨trivial⟩, ?_⟩
          refine And.intro ⟨rfl⟩ ?_
          refine if_st H (fun h511 H => ?_) (fun h511 H => ?_)
          · replace H := some_st H
            dsimp only [stp, sm] at H
            have hfin := fin_st H
            repeat (refine And.intro (Ob.mk (by first | (rw [← hfin] <;> first | exact rfl | exact Iff.rfl | exact ⟨rfl, rfl⟩ | exact decide_eq_true_iff | (constructor <;> first | rfl | simp [ei, eb, es, ec]) | simp [ei, eb, es, ec]) | first | exact rfl | exact Iff.rfl | exact ⟨rfl, rfl⟩ | exact decide_eq_true_iff | (constructor <;> first | rfl | simp [ei, eb, es, ec]) | simp [ei, eb, es, ec])) ?_)
            first | exact trivial | exact rfl
          · refine ob_ck H fun h512 H => ?_
            replace H := some_st H
            refine ⟨(m475, s474 + v504.2.1), ⟨H, Nat.lt_succ_self _⟩, ⟨trivial⟩, ⟨rfl⟩, ?_⟩
            repeat (refine And.intro (Ob.mk (by first | exact rfl | exact Iff.rfl | exact ⟨rfl, rfl⟩ | exact decide_eq_true_iff | (constructor <;> first | rfl | simp [ei, eb, es, ec]) | simp [ei, eb, es, ec])) ?_)
            first | exact trivial | exact rfl
    · replace H := some_st H
      dsimp only [stp, sm] at H
      refine ⟨(), ⟨H⟩, ⟨rfl⟩, ?_⟩
      repeat (refine And.intro (Ob.mk (by first | exact rfl | exact Iff.rfl | exact ⟨rfl, rfl⟩ | exact decide_eq_true_iff | (constructor <;> first | rfl | simp [ei, eb, es, ec]) | simp [ei, eb, es, ec])) ?_)
      first | exact trivial | exact rfl
  · intro v470 H
    have hfin := fin_st H
    repeat (refine And.intro (Ob.mk (by first | (rw [← hfin] <;> first | exact rfl | exact Iff.rfl | exact ⟨rfl, rfl⟩ | exact decide_eq_true_iff | (constructor <;> first | rfl | simp [ei, eb, es, ec]) | simp [ei, eb, es, ec]) | first | exact rfl | exact Iff.rfl | exact ⟨rfl, rfl⟩ | exact decide_eq_true_iff | (constructor <;> first | rfl | simp [ei, eb, es, ec]) | simp [ei, eb, es, ec])) ?_)
    first | exact trivial | exact rfl

/-- placard/placardref01.Valid -/
noncomputable def g49 (a0 : ByteArray) : Option (Bool) :=
  ck (a0.size ≤ 140737488355328) <|
  jn (α := _) (β := List Int × List Int) (fun k654 =>
      (loopO (σ := List Int × List Int × Int) (ρ := List Int × List Int) (fun s657 =>
          if s657.2.2 < ((a0.size : Nat) : Int) then
            (
              ck (0 ≤ s657.2.2 ∧ s657.2.2 ≤ ((a0.size : Nat) : Int) ∧ ((a0.size : Nat) : Int) ≤ ((a0.size : Nat) : Int)) <|
              (g16 (((bytesOf a0).drop s657.2.2.toNat).take (((a0.size : Nat) : Int).toNat - s657.2.2.toNat))).bind fun v687 =>
              if v687.2.2 = true then
                (
                  ck ((s657.1.length + 1) * 4 ≤ 140737488355328) <|
                  ck ((s657.2.1.length + 1) * 8 ≤ 140737488355328) <|
                  ck (inR .i64 (s657.2.2 + 1)) <|
                  some (.go ((s657.1 ++ [65533]), (s657.2.1 ++ [s657.2.2]), s657.2.2 + 1))
                )
              else
                (
                  ck ((s657.1.length + 1) * 4 ≤ 140737488355328) <|
                  ck ((s657.2.1.length + 1) * 8 ≤ 140737488355328) <|
                  ck (inR .i64 (s657.2.2 + v687.2.1)) <|
                  some (.go ((s657.1 ++ [v687.1]), (s657.2.1 ++ [s657.2.2]), s657.2.2 + v687.2.1))
                )
            )
          else
            some (.out (s657.1, s657.2.1))
        ) ([], [], 0)).bind fun o683 =>
        k654 (o683.1, o683.2)
  ) (fun v653 =>
    jn (α := _) (β := List Int) (fun k727 =>
        (loopO (σ := List Int × Int) (ρ := List Int) (fun s730 =>
            if s730.2 < ((v653.1.length : Nat) : Int) then
              (
                ck (0 ≤ s730.2 ∧ s730.2 < ((v653.1.length : Nat) : Int)) <|
                (g18 (v653.1.getD s730.2.toNat 0)).bind fun v747 =>
                ck ((s730.1.length + v747.length) * 1 ≤ 140737488355328) <|
                ck (inR .i64 (s730.2 + 1)) <|
                some (.go ((s730.1 ++ v747), s730.2 + 1))
              )
            else
              some (.out s730.1)
          ) ([], 0)).bind fun o744 =>
          k727 o744
    ) (fun v726 =>
      ck (isBytes v726) <|
      some (decide ((strOf v726).data.toList = a0.data.toList))
    )
  )
noncomputable def k49 : Eng.CS := { f := 49, calm := true, more := 0, ι := ByteArray × Bool, ok := fun i => g49 i.1 = some i.2, rds := fun _ => [], args := fun i => [.w (.v (.string (i.1)))], res := fun i => bS i.2 }
set_option maxRecDepth 8000 in
set_option maxHeartbeats 4000000 in
theorem k49_ok : CalmOk Try.prog k49 := by
  refine R.calmspec Try.func49 nm49 rfl ?_
  rintro ⟨a0, r⟩ hok q _ args hargs
  match args, hargs with
  | [_], hargs =>
  obtain ⟨rfl, _⟩ := hargs
  refine ⟨envC [k16, k18] false [(43, 10), (46, 7)], 6, envC_ok (css_cons ⟨fun _ => k16_ok, fun h => (by cases h)⟩ (css_cons ⟨fun h => (by cases h), fun _ => k18_ok⟩ (css_nil))), rfl, (by intro x hx; simp only [List.mem_cons, List.not_mem_nil, or_false] at hx; rcases hx with rfl <;> rfl), ?_⟩
  have H : Gives (g49 a0) (fun a => a = r) := ⟨r, hok, rfl⟩
  unfold g49 at H
  clear hok
  refine ob_sb H fun h521 H q522 A516 c517 hq518 hc519 hR520 => ?_
  refine R.cut_fam H 33 [] [] (fun v653 => [(4, .own 33), (5, .own 34)]) (fun v653 => [(33, .arr 21 1 (v653.1.length) (ei .i32 (v653.1))), (34, .arr 3 1 (v653.2.length) (ei .i64 (v653.2)))]) [] 2 (fun H => ?_)
  refine And.intro ?_ ?_
  · refine R.loop_fam (bind_st H) [0] [(4, 0, 21, 1), (5, 0, 3, 1)] (fun _ s657 => [(4, .own 23), (5, .own 24), (6, .v (.int .i64 (s657.2.2)))]) (fun _ s657 => [(23, .arr 21 1 (s657.1.length) (ei .i32 (s657.1))), (24, .arr 3 1 (s657.2.1.length) (ei .i64 (s657.2.1)))]) 2 (fun n696 H => ?_)
    refine ⟨(n696, _), ⟨H⟩, ⟨trivial⟩, ?_⟩
    repeat (refine And.intro (Ob.mk (by first | exact rfl | exact Iff.rfl | exact ⟨rfl, rfl⟩ | exact decide_eq_true_iff | (constructor <;> first | rfl | simp [ei, eb, es, ec]) | simp [ei, eb, es, ec])) ?_)
    rintro ⟨m0, s657⟩ H _
    obtain ⟨m658, hm0, H⟩ := IG_succ H
    dsimp only at hm0
    subst hm0
    try dsimp only at H
    refine if_st H (fun h684 H => ?_) (fun h684 H => ?_)
    · refine ob_sl hc519 H fun h685 H => ?_
      have hs686 := sl_ei hR520 (bytesOf_len a0) hc519 h685
      obtain ⟨v687, hv688, H⟩ := call_st H
      refine ⟨((((bytesOf a0).drop s657.2.2.toNat).take (((a0.size : Nat) : Int).toNat - s657.2.2.toNat)), v687), ⟨hv688⟩, ⟨trivial⟩, ?_⟩
      refine And.intro ⟨(hs686.2.1).symm, hs686.2.2, ei_len.trans ((show _ = _ from hs686.2.1).trans (Nat.mul_one _).symm), hs686.1⟩ ?_
      refine if_st H (fun h689 H => ?_) (fun h689 H => ?_)
      · refine ob_app (by decide) (by first | exact ei_one | ((repeat (refine List.forall_mem_cons.2 ⟨rfl, ?_⟩)); intro y hy; cases hy; done) | (intro y hy; simp [ei, eb, es, ec] at hy; (first | (rcases hy with rfl | hy) | subst hy | skip); all_goals first | rfl | simp_all [Value.oneCell'])) H fun h690 H => ?_
        refine ob_app (by decide) (by first | exact ei_one | ((repeat (refine List.forall_mem_cons.2 ⟨rfl, ?_⟩)); intro y hy; cases hy; done) | (intro y hy; simp [ei, eb, es, ec] at hy; (first | (rcases hy with rfl | hy) | subst hy | skip); all_goals first | rfl | simp_all [Value.oneCell'])) H fun h691 H => ?_
        refine ob_ck H fun h692 H => ?_
        replace H := some_st H
        refine ⟨(m658, ((s657.1 ++ [65533]), (s657.2.1 ++ [s657.2.2]), s657.2.2 + 1)), ⟨H, Nat.lt_succ_self _⟩, ⟨trivial⟩, ⟨rfl⟩, ?_⟩
        repeat (refine And.intro (Ob.mk (by first | exact rfl | exact Iff.rfl | exact ⟨rfl, rfl⟩ | exact decide_eq_true_iff | (constructor <;> first | rfl | simp [ei, eb, es, ec]) | simp [ei, eb, es, ec])) ?_)
        first | exact trivial | exact rfl
      · refine ob_app (by decide) (by first | exact ei_one | ((repeat (refine List.forall_mem_cons.2 ⟨rfl, ?_⟩)); intro y hy; cases hy; done) | (intro y hy; simp [ei, eb, es, ec] at hy; (first | (rcases hy with rfl | hy) | subst hy | skip); all_goals first | rfl | simp_all [Value.oneCell'])) H fun h693 H => ?_
        refine ob_app (by decide) (by first | exact ei_one | ((repeat (refine List.forall_mem_cons.2 ⟨rfl, ?_⟩)); intro y hy; cases hy; done) | (intro y hy; simp [ei, eb, es, ec] at hy; (first | (rcases hy with rfl | hy) | subst hy | skip); all_goals first | rfl | simp_all [Value.oneCell'])) H fun h694 H => ?_
        refine ob_ck H fun h695 H => ?_
        replace H := some_st H
        refine ⟨(m658, ((s657.1 ++ [v687.1]), (s657.2.1 ++ [s657.2.2]), s657.2.2 + v687.2.1)), ⟨H, Nat.lt_succ_self _⟩, ⟨trivial⟩, ⟨rfl⟩, ?_⟩
        repeat (refine And.intro (Ob.mk (by first | exact rfl | exact Iff.rfl | exact ⟨rfl, rfl⟩ | exact decide_eq_true_iff | (constructor <;> first | rfl | simp [ei, eb, es, ec]) | simp [ei, eb, es, ec])) ?_)
        first | exact trivial | exact rfl
    · replace H := some_st H
      dsimp only [stp, sm] at H
      refine ⟨(s657.1, s657.2.1), ⟨H⟩, ⟨rfl⟩, ?_⟩
      repeat (refine And.intro (Ob.mk (by first | exact rfl | exact Iff.rfl | exact ⟨rfl, rfl⟩ | exact decide_eq_true_iff | (constructor <;> first | rfl | simp [ei, eb, es, ec]) | simp [ei, eb, es, ec])) ?_)
      first | exact trivial | exact rfl
  · intro v653 H
    refine R.cut_fam H 49 [] [] (fun v726 => [(3, .own 49)]) (fun v726 => [(49, .arr 5 1 (v726.length) (ei .u8 (v726)))]) [(33, .arr 21 1 (v653.1.length) (ei .i32 (v653.1))), (34, .arr 3 1 (v653.2.length) (ei .i64 (v653.2)))] 1 (fun H => ?_)
    refine And.intro ?_ ?_
    · refine R.loop_fam (bind_st H) [4] [(3, 0, 5, 1)] (fun _ s730 => [(3, .own 41), (6, .v (.int .i64 (s730.2)))]) (fun _ s730 => [(41, .arr 5 1 (s730.1.length) (ei .u8 (s730.1)))]) 1 (fun n751 H => ?_)
      refine ⟨(n751, _), ⟨H⟩, ⟨trivial⟩, ?_⟩
      repeat (refine And.intro (Ob.mk (by first | exact rfl | exact Iff.rfl | exact ⟨rfl, rfl⟩ | exact decide_eq_true_iff | (constructor <;> first | rfl | simp [ei, eb, es, ec]) | simp [ei, eb, es, ec])) ?_)
      rintro ⟨m0, s730⟩ H _
      obtain ⟨m731, hm0, H⟩ := IG_succ H
      dsimp only at hm0
      subst hm0
      try dsimp only at H
      refine if_st H (fun h745 H => ?_) (fun h745 H => ?_)
      · refine ob_ck H fun h746 H => ?_
        refine ld_int (e := v653.1.getD s730.2.toNat 0) (own_get (ys := ei .i32 v653.1) (by first | rfl | simp [ei, eb, es, ec]) (ei_get (l := v653.1) (by first | exact tn h746 | (have := tn h746; simp at this ⊢; omega) | (have := tn h746; simp; omega)))) ?_
        obtain ⟨v747, hv748, H⟩ := call_st H
        refine ⟨(v653.1.getD s730.2.toNat 0, v747), ⟨hv748⟩, ⟨trivial⟩, ?_⟩
        refine And.intro ⟨rfl⟩ ?_
        refine ob_app (by decide) (by first | exact ei_one | ((repeat (refine List.forall_mem_cons.2 ⟨rfl, ?_⟩)); intro y hy; cases hy; done) | (intro y hy; simp [ei, eb, es, ec] at hy; (first | (rcases hy with rfl | hy) | subst hy | skip); all_goals first | rfl | simp_all [Value.oneCell'])) H fun h749 H => ?_
        refine ob_ck H fun h750 H => ?_
        replace H := some_st H
        refine ⟨(m731, ((s730.1 ++ v747), s730.2 + 1)), ⟨H, Nat.lt_succ_self _⟩, ⟨trivial⟩, ⟨rfl⟩, ?_⟩
        repeat (refine And.intro (Ob.mk (by first | exact rfl | exact Iff.rfl | exact ⟨rfl, rfl⟩ | exact decide_eq_true_iff | (constructor <;> first | rfl | simp [ei, eb, es, ec]) | simp [ei, eb, es, ec])) ?_)
        first | exact trivial | exact rfl
      · replace H := some_st H
        dsimp only [stp, sm] at H
        refine ⟨s730.1, ⟨H⟩, ⟨rfl⟩, ?_⟩
        repeat (refine And.intro (Ob.mk (by first | exact rfl | exact Iff.rfl | exact ⟨rfl, rfl⟩ | exact decide_eq_true_iff | (constructor <;> first | rfl | simp [ei, eb, es, ec]) | simp [ei, eb, es, ec])) ?_)
        first | exact trivial | exact rfl
    · intro v726 H
      refine ob_str (l := v726) H fun h752 H => ?_
      have hfin := fin_st H
      repeat (refine And.intro (Ob.mk (by first | (rw [← hfin] <;> first | exact rfl | exact Iff.rfl | exact ⟨rfl, rfl⟩ | exact decide_eq_true_iff | (constructor <;> first | rfl | simp [ei, eb, es, ec]) | simp [ei, eb, es, ec]) | first | exact rfl | exact Iff.rfl | exact ⟨rfl, rfl⟩ | exact decide_eq_true_iff | (constructor <;> first | rfl | simp [ei, eb, es, ec]) | simp [ei, eb, es, ec])) ?_)
      first | exact trivial | exact rfl

/-- placard/placardlaw01.RunesText -/
noncomputable def g11 (a0 : List Int) (a1 : Int) : Option (Bool) :=
  ck (0 ≤ (0 : Int) ∧ (0 : Int) ≤ gmin ((a0.length : Nat) : Int) 400 ∧ gmin ((a0.length : Nat) : Int) 400 ≤ ((a0.length : Nat) : Int)) <|
  jn (α := _) (β := List Int × List Int) (fun k888 =>
      (loopO (σ := List Int × List Int × Int) (ρ := List Int × List Int) (fun s891 =>
          if s891.2.2 < (((gmin ((a0.length : Nat) : Int) 400).toNat - (0 : Int).toNat : Nat) : Int) then
            (
              ck (0 ≤ s891.2.2 ∧ s891.2.2 ≤ (((gmin ((a0.length : Nat) : Int) 400).toNat - (0 : Int).toNat : Nat) : Int) ∧ (((gmin ((a0.length : Nat) : Int) 400).toNat - (0 : Int).toNat : Nat) : Int) ≤ (((gmin ((a0.length : Nat) : Int) 400).toNat - (0 : Int).toNat : Nat) : Int)) <|
              (g16 ((((a0.drop (0 : Int).toNat).take ((gmin ((a0.length : Nat) : Int) 400).toNat - (0 : Int).toNat)).drop s891.2.2.toNat).take ((((gmin ((a0.length : Nat) : Int) 400).toNat - (0 : Int).toNat : Nat) : Int).toNat - s891.2.2.toNat))).bind fun v921 =>
              if v921.2.2 = true then
                (
                  ck ((s891.1.length + 1) * 4 ≤ 140737488355328) <|
                  ck ((s891.2.1.length + 1) * 8 ≤ 140737488355328) <|
                  ck (inR .i64 (s891.2.2 + 1)) <|
                  some (.go ((s891.1 ++ [65533]), (s891.2.1 ++ [s891.2.2]), s891.2.2 + 1))
                )
              else
                (
                  ck ((s891.1.length + 1) * 4 ≤ 140737488355328) <|
                  ck ((s891.2.1.length + 1) * 8 ≤ 140737488355328) <|
                  ck (inR .i64 (s891.2.2 + v921.2.1)) <|
                  some (.go ((s891.1 ++ [v921.1]), (s891.2.1 ++ [s891.2.2]), s891.2.2 + v921.2.1))
                )
            )
          else
            some (.out (s891.1, s891.2.1))
        ) ([], [], 0)).bind fun o917 =>
        k888 (o917.1, o917.2)
  ) (fun v887 =>
    ck (isBytes ((a0.drop (0 : Int).toNat).take ((gmin ((a0.length : Nat) : Int) 400).toNat - (0 : Int).toNat))) <|
    ck (inR .i64 a1) <|
    (g44 (strOf ((a0.drop (0 : Int).toNat).take ((gmin ((a0.length : Nat) : Int) 400).toNat - (0 : Int).toNat))) a1).bind fun v933 =>
    ck (isBytes ((a0.drop (0 : Int).toNat).take ((gmin ((a0.length : Nat) : Int) 400).toNat - (0 : Int).toNat))) <|
    ck (inR .i64 ((((gmin ((a0.length : Nat) : Int) 400).toNat - (0 : Int).toNat : Nat) : Int) + 1)) <|
    (g44 (strOf ((a0.drop (0 : Int).toNat).take ((gmin ((a0.length : Nat) : Int) 400).toNat - (0 : Int).toNat))) ((((gmin ((a0.length : Nat) : Int) 400).toNat - (0 : Int).toNat : Nat) : Int) + 1)).bind fun v937 =>
    (g32 ((a0.drop (0 : Int).toNat).take ((gmin ((a0.length : Nat) : Int) 400).toNat - (0 : Int).toNat))).bind fun v939 =>
    jn (α := _) (β := Bool) (fun k2167 =>
        ck (inR .i64 a1) <|
        if ¬ ((v933.1.length : Nat) : Int) = (gmin ((v887.1.length : Nat) : Int) a1) then
          k2167 true
        else
          (
            if ¬ ((v933.2.length : Nat) : Int) = (gmin ((v887.1.length : Nat) : Int) a1) then
              k2167 true
            else
              (
                if ((v887.1.length : Nat) : Int) < (gmin ((v887.1.length : Nat) : Int) a1) then
                  k2167 true
                else
                  (
                    if ((v887.2.length : Nat) : Int) < (gmin ((v887.1.length : Nat) : Int) a1) then
                      k2167 true
                    else
                      (
                        jn (α := _) (β := Unit) (fun k2206 =>
                            (loopO (σ := Int) (ρ := (Unit) ⊕ (Unit)) (fun s2209 =>
                                if s2209 < (gmin ((v887.1.length : Nat) : Int) a1) then
                                  (
                                    ck (0 ≤ s2209 ∧ s2209 < ((v933.1.length : Nat) : Int)) <|
                                    ck (0 ≤ s2209 ∧ s2209 < ((v887.1.length : Nat) : Int)) <|
                                    if ¬ (v933.1.getD s2209.toNat 0) = (v887.1.getD s2209.toNat 0) then
                                      some (.out (.inl (())))
                                    else
                                      (
                                        ck (0 ≤ s2209 ∧ s2209 < ((v933.2.length : Nat) : Int)) <|
                                        ck (0 ≤ s2209 ∧ s2209 < ((v887.2.length : Nat) : Int)) <|
                                        if ¬ (v933.2.getD s2209.toNat 0) = (v887.2.getD s2209.toNat 0) then
                                          some (.out (.inl (())))
                                        else
                                          (
                                            ck (inR .i64 (s2209 + 1)) <|
                                            some (.go (s2209 + 1))
                                          )
                                      )
                                  )
                                else
                                  some (.out (.inr (())))
                              ) 0).bind fun o2227 =>
                            sm o2227 (fun o2236 =>
                                k2167 true
                              ) (fun o2237 =>
                                k2206 ()
                              )
                        ) (fun v2205 =>
                          if ¬ ((v937.1.length : Nat) : Int) = ((v887.1.length : Nat) : Int) then
                            k2167 true
                          else
                            (
                              if ¬ ((v937.2.length : Nat) : Int) = ((v887.1.length : Nat) : Int) then
                                k2167 true
                              else
                                (
                                  if ((v887.1.length : Nat) : Int) < ((v887.1.length : Nat) : Int) then
                                    k2167 true
                                  else
                                    (
                                      if ((v887.2.length : Nat) : Int) < ((v887.1.length : Nat) : Int) then
                                        k2167 true
                                      else
                                        (
                                          jn (α := _) (β := Unit) (fun k2276 =>
                                              (loopO (σ := Int) (ρ := (Unit) ⊕ (Unit)) (fun s2279 =>
                                                  if s2279 < ((v887.1.length : Nat) : Int) then
                                                    (
                                                      ck (0 ≤ s2279 ∧ s2279 < ((v937.1.length : Nat) : Int)) <|
                                                      ck (0 ≤ s2279 ∧ s2279 < ((v887.1.length : Nat) : Int)) <|
                                                      if ¬ (v937.1.getD s2279.toNat 0) = (v887.1.getD s2279.toNat 0) then
                                                        some (.out (.inl (())))
                                                      else
                                                        (
                                                          ck (0 ≤ s2279 ∧ s2279 < ((v937.2.length : Nat) : Int)) <|
                                                          ck (0 ≤ s2279 ∧ s2279 < ((v887.2.length : Nat) : Int)) <|
                                                          if ¬ (v937.2.getD s2279.toNat 0) = (v887.2.getD s2279.toNat 0) then
                                                            some (.out (.inl (())))
                                                          else
                                                            (
                                                              ck (inR .i64 (s2279 + 1)) <|
                                                              some (.go (s2279 + 1))
                                                            )
                                                        )
                                                    )
                                                  else
                                                    some (.out (.inr (())))
                                                ) 0).bind fun o2297 =>
                                              sm o2297 (fun o2306 =>
                                                  k2167 true
                                                ) (fun o2307 =>
                                                  k2276 ()
                                                )
                                          ) (fun v2275 =>
                                            jn (α := _) (β := List Int × List Int) (fun k2352 =>
                                                (loopO (σ := List Int × List Int × Int) (ρ := List Int × List Int) (fun s2355 =>
                                                    if s2355.2.2 < (((gmin ((a0.length : Nat) : Int) 400).toNat - (0 : Int).toNat : Nat) : Int) then
                                                      (
                                                        ck (0 ≤ s2355.2.2 ∧ s2355.2.2 ≤ (((gmin ((a0.length : Nat) : Int) 400).toNat - (0 : Int).toNat : Nat) : Int) ∧ (((gmin ((a0.length : Nat) : Int) 400).toNat - (0 : Int).toNat : Nat) : Int) ≤ (((gmin ((a0.length : Nat) : Int) 400).toNat - (0 : Int).toNat : Nat) : Int)) <|
                                                        (g16 ((((a0.drop (0 : Int).toNat).take ((gmin ((a0.length : Nat) : Int) 400).toNat - (0 : Int).toNat)).drop s2355.2.2.toNat).take ((((gmin ((a0.length : Nat) : Int) 400).toNat - (0 : Int).toNat : Nat) : Int).toNat - s2355.2.2.toNat))).bind fun v2385 =>
                                                        if v2385.2.2 = true then
                                                          (
                                                            ck ((s2355.1.length + 1) * 4 ≤ 140737488355328) <|
                                                            ck ((s2355.2.1.length + 1) * 8 ≤ 140737488355328) <|
                                                            ck (inR .i64 (s2355.2.2 + 1)) <|
                                                            some (.go ((s2355.1 ++ [65533]), (s2355.2.1 ++ [s2355.2.2]), s2355.2.2 + 1))
                                                          )
                                                        else
                                                          (
                                                            ck ((s2355.1.length + 1) * 4 ≤ 140737488355328) <|
                                                            ck ((s2355.2.1.length + 1) * 8 ≤ 140737488355328) <|
                                                            ck (inR .i64 (s2355.2.2 + v2385.2.1)) <|
                                                            some (.go ((s2355.1 ++ [v2385.1]), (s2355.2.1 ++ [s2355.2.2]), s2355.2.2 + v2385.2.1))
                                                          )
                                                      )
                                                    else
                                                      some (.out (s2355.1, s2355.2.1))
                                                  ) ([], [], 0)).bind fun o2381 =>
                                                  k2352 (o2381.1, o2381.2)
                                            ) (fun v2351 =>
                                              jn (α := _) (β := List Int) (fun k2420 =>
                                                  (loopO (σ := List Int × Int) (ρ := List Int) (fun s2423 =>
                                                      if s2423.2 < ((v2351.1.length : Nat) : Int) then
                                                        (
                                                          ck (0 ≤ s2423.2 ∧ s2423.2 < ((v2351.1.length : Nat) : Int)) <|
                                                          (g18 (v2351.1.getD s2423.2.toNat 0)).bind fun v2440 =>
                                                          ck ((s2423.1.length + v2440.length) * 1 ≤ 140737488355328) <|
                                                          ck (inR .i64 (s2423.2 + 1)) <|
                                                          some (.go ((s2423.1 ++ v2440), s2423.2 + 1))
                                                        )
                                                      else
                                                        some (.out s2423.1)
                                                    ) ([], 0)).bind fun o2437 =>
                                                    k2420 o2437
                                              ) (fun v2419 =>
                                                ck (isBytes v2419) <|
                                                k2167 (decide (¬ (v939.data.toList = (strOf v2419).data.toList)))
                                              )
                                            )
                                          )
                                        )
                                    )
                                )
                            )
                        )
                      )
                  )
              )
          )
    ) (fun v2166 =>
      if v2166 = true then
        some false
      else
        (
          ck (isBytes ((a0.drop (0 : Int).toNat).take ((gmin ((a0.length : Nat) : Int) 400).toNat - (0 : Int).toNat))) <|
          (g47 (strOf ((a0.drop (0 : Int).toNat).take ((gmin ((a0.length : Nat) : Int) 400).toNat - (0 : Int).toNat)))).bind fun v2448 =>
          if v2448 = ((v887.1.length : Nat) : Int) then
            (
              ck (isBytes ((a0.drop (0 : Int).toNat).take ((gmin ((a0.length : Nat) : Int) 400).toNat - (0 : Int).toNat))) <|
              (g48 (strOf ((a0.drop (0 : Int).toNat).take ((gmin ((a0.length : Nat) : Int) 400).toNat - (0 : Int).toNat)))).bind fun v2452 =>
              ck (isBytes ((a0.drop (0 : Int).toNat).take ((gmin ((a0.length : Nat) : Int) 400).toNat - (0 : Int).toNat))) <|
              (g49 (strOf ((a0.drop (0 : Int).toNat).take ((gmin ((a0.length : Nat) : Int) 400).toNat - (0 : Int).toNat)))).bind fun v2455 =>
              if (v2452 = true) ↔ (v2455 = true) then
                (
                  (g48 v939).bind fun v2458 =>
                  if v2458 = true then
                    (
                      (g20).bind fun v2461 =>
                      some v2461
                    )
                  else
                    some false
                )
              else
                some false
            )
          else
            some false
        )
    )
  )
noncomputable def k11 : Eng.CS := { f := 11, calm := true, more := 0, ι := (List Int) × Int × Bool, ok := fun i => g11 i.1 i.2.1 = some i.2.2, rds := fun _ => [], args := fun i => [.sl 1 i.1.length (ei .u8 i.1), .w (.v (.int .u8 (i.2.1)))], res := fun i => bS i.2.2 }
set_option maxRecDepth 8000 in
set_option maxHeartbeats 4000000 in
theorem k11_ok : CalmOk Try.prog k11 := by
  refine R.calmspec Try.func11 nm11 rfl ?_
  rintro ⟨a0, a1, r⟩ hok q _ args hargs
  match args, hargs with
  | [_, _], hargs =>
  obtain ⟨⟨A0, cp0, rfl, hc0, _, hR0⟩, rfl, _⟩ := hargs
  refine ⟨envC [k16, k18, k20, k32, k44, k47, k48, k49] false [(11, 7), (43, 10), (45, 8), (46, 7)], 6, envC_ok (css_cons ⟨fun _ => k16_ok, fun h => (by cases h)⟩ (css_cons ⟨fun h => (by cases h), fun _ => k18_ok⟩ (css_cons ⟨fun _ => k20_ok, fun h => (by cases h)⟩ (css_cons ⟨fun _ => k32_ok, fun h => (by cases h)⟩ (css_cons ⟨fun h => (by cases h), fun _ => k44_ok⟩ (css_cons ⟨fun _ => k47_ok, fun h => (by cases h)⟩ (css_cons ⟨fun _ => k48_ok, fun h => (by cases h)⟩ (css_cons ⟨fun _ => k49_ok, fun h => (by cases h)⟩ (css_nil))))))))), rfl, (by intro x hx; simp only [List.mem_cons, List.not_mem_nil, or_false] at hx; rcases hx with rfl | rfl <;> rfl), ?_⟩
  have H : Gives (g11 a0 a1) (fun a => a = r) := ⟨r, hok, rfl⟩
  unfold g11 at H
  clear hok
  refine ob_sl hc0 H fun h755 H => ?_
  have hs756 := sl_ei hR0 rfl hc0 h755
  refine R.cut_fam H 35 [] [] (fun v887 => [(4, .own 35), (5, .own 36)]) (fun v887 => [(35, .arr 21 1 (v887.1.length) (ei .i32 (v887.1))), (36, .arr 3 1 (v887.2.length) (ei .i64 (v887.2)))]) [] 2 (fun H => ?_)
  refine And.intro ?_ ?_
  · refine R.loop_fam (bind_st H) [0] [(4, 0, 21, 1), (5, 0, 3, 1)] (fun _ s891 => [(4, .own 25), (5, .own 26), (6, .v (.int .i64 (s891.2.2)))]) (fun _ s891 => [(25, .arr 21 1 (s891.1.length) (ei .i32 (s891.1))), (26, .arr 3 1 (s891.2.1.length) (ei .i64 (s891.2.1)))]) 2 (fun n930 H => ?_)
    refine ⟨(n930, _), ⟨H⟩, ⟨trivial⟩, ?_⟩
    repeat (refine And.intro (Ob.mk (by first | exact rfl | exact Iff.rfl | exact ⟨rfl, rfl⟩ | exact decide_eq_true_iff | (constructor <;> first | rfl | simp [ei, eb, es, ec]) | simp [ei, eb, es, ec])) ?_)
    rintro ⟨m0, s891⟩ H _
    obtain ⟨m892, hm0, H⟩ := IG_succ H
    dsimp only at hm0
    subst hm0
    try dsimp only at H
    refine if_st H (fun h918 H => ?_) (fun h918 H => ?_)
    · refine ob_sl hs756.2.2 H fun h919 H => ?_
      have hs920 := sl_ei hs756.1 hs756.2.1 hs756.2.2 h919
      obtain ⟨v921, hv922, H⟩ := call_st H
      refine ⟨(((((a0.drop (0 : Int).toNat).take ((gmin ((a0.length : Nat) : Int) 400).toNat - (0 : Int).toNat)).drop s891.2.2.toNat).take ((((gmin ((a0.length : Nat) : Int) 400).toNat - (0 : Int).toNat : Nat) : Int).toNat - s891.2.2.toNat)), v921), ⟨hv922⟩, ⟨trivial⟩, ?_⟩
      refine And.intro ⟨(hs920.2.1).symm, hs920.2.2, ei_len.trans ((show _ = _ from hs920.2.1).trans (Nat.mul_one _).symm), hs920.1⟩ ?_
      refine if_st H (fun h923 H => ?_) (fun h923 H => ?_)
      · refine ob_app (by decide) (by first | exact ei_one | ((repeat (refine List.forall_mem_cons.2 ⟨rfl, ?_⟩)); intro y hy; cases hy; done) | (intro y hy; simp [ei, eb, es, ec] at hy; (first | (rcases hy with rfl | hy) | subst hy | skip); all_goals first | rfl | simp_all [Value.oneCell'])) H fun h924 H => ?_
        refine ob_app (by decide) (by first | exact ei_one | ((repeat (refine List.forall_mem_cons.2 ⟨rfl, ?_⟩)); intro y hy; cases hy; done) | (intro y hy; simp [ei, eb, es, ec] at hy; (first | (rcases hy with rfl | hy) | subst hy | skip); all_goals first | rfl | simp_all [Value.oneCell'])) H fun h925 H => ?_
        refine ob_ck H fun h926 H => ?_
        replace H := some_st H
        refine ⟨(m892, ((s891.1 ++ [65533]), (s891.2.1 ++ [s891.2.2]), s891.2.2 + 1)), ⟨H, Nat.lt_succ_self _⟩, ⟨trivial⟩, ⟨rfl⟩, ?_⟩
        repeat (refine And.intro (Ob.mk (by first | exact rfl | exact Iff.rfl | exact ⟨rfl, rfl⟩ | exact decide_eq_true_iff | (constructor <;> first | rfl | simp [ei, eb, es, ec]) | simp [ei, eb, es, ec])) ?_)
        first | exact trivial | exact rfl
      · refine ob_app (by decide) (by first | exact ei_one | ((repeat (refine List.forall_mem_cons.2 ⟨rfl, ?_⟩)); intro y hy; cases hy; done) | (intro y hy; simp [ei, eb, es, ec] at hy; (first | (rcases hy with rfl | hy) | subst hy | skip); all_goals first | rfl | simp_all [Value.oneCell'])) H fun h927 H => ?_
        refine ob_app (by decide) (by first | exact ei_one | ((repeat (refine List.forall_mem_cons.2 ⟨rfl, ?_⟩)); intro y hy; cases hy; done) | (intro y hy; simp [ei, eb, es, ec] at hy; (first | (rcases hy with rfl | hy) | subst hy | skip); all_goals first | rfl | simp_all [Value.oneCell'])) H fun h928 H => ?_
        refine ob_ck H fun h929 H => ?_
        replace H := some_st H
        refine ⟨(m892, ((s891.1 ++ [v921.1]), (s891.2.1 ++ [s891.2.2]), s891.2.2 + v921.2.1)), ⟨H, Nat.lt_succ_self _⟩, ⟨trivial⟩, ⟨rfl⟩, ?_⟩
        repeat (refine And.intro (Ob.mk (by first | exact rfl | exact Iff.rfl | exact ⟨rfl, rfl⟩ | exact decide_eq_true_iff | (constructor <;> first | rfl | simp [ei, eb, es, ec]) | simp [ei, eb, es, ec])) ?_)
        first | exact trivial | exact rfl
    · replace H := some_st H
      dsimp only [stp, sm] at H
      refine ⟨(s891.1, s891.2.1), ⟨H⟩, ⟨rfl⟩, ?_⟩
      repeat (refine And.intro (Ob.mk (by first | exact rfl | exact Iff.rfl | exact ⟨rfl, rfl⟩ | exact decide_eq_true_iff | (constructor <;> first | rfl | simp [ei, eb, es, ec]) | simp [ei, eb, es, ec])) ?_)
      first | exact trivial | exact rfl
  · intro v887 H
    refine rs_st hs756.1 (by rw [ei_len, hs756.2.1, Nat.mul_one]) ?_
    refine ob_str (l := ((a0.drop (0 : Int).toNat).take ((gmin ((a0.length : Nat) : Int) 400).toNat - (0 : Int).toNat))) H fun h931 H => ?_
    refine ob_ck H fun h932 H => ?_
    obtain ⟨v933, hv934, H⟩ := call_st H
    refine ⟨(strOf ((a0.drop (0 : Int).toNat).take ((gmin ((a0.length : Nat) : Int) 400).toNat - (0 : Int).toNat)), a1, v933), ⟨hv934⟩, ⟨trivial⟩, ?_⟩
    refine And.intro ⟨rfl⟩ ?_
    refine And.intro ⟨rfl⟩ ?_
    refine rs_st hs756.1 (by rw [ei_len, hs756.2.1, Nat.mul_one]) ?_
    refine ob_str (l := ((a0.drop (0 : Int).toNat).take ((gmin ((a0.length : Nat) : Int) 400).toNat - (0 : Int).toNat))) H fun h935 H => ?_
    refine ob_ck H fun h936 H => ?_
    obtain ⟨v937, hv938, H⟩ := call_st H
    refine ⟨(strOf ((a0.drop (0 : Int).toNat).take ((gmin ((a0.length : Nat) : Int) 400).toNat - (0 : Int).toNat)), (((gmin ((a0.length : Nat) : Int) 400).toNat - (0 : Int).toNat : Nat) : Int) + 1, v937), ⟨hv938⟩, ⟨trivial⟩, ?_⟩
    refine And.intro ⟨rfl⟩ ?_
    refine And.intro ⟨rfl⟩ ?_
    obtain ⟨v939, hv940, H⟩ := call_st H
    refine ⟨(((a0.drop (0 : Int).toNat).take ((gmin ((a0.length : Nat) : Int) 400).toNat - (0 : Int).toNat)), v939), ⟨hv940⟩, ⟨trivial⟩, ?_⟩
    refine And.intro ⟨(hs756.2.1).symm, hs756.2.2, ei_len.trans ((show _ = _ from hs756.2.1).trans (Nat.mul_one _).symm), hs756.1⟩ ?_
    refine R.cut_fam H 203 [0, 5, 11] [] (fun v2166 => [(64, bS v2166)]) (fun v2166 => []) [(35, .arr 21 1 (v887.1.length) (ei .i32 (v887.1))), (36, .arr 3 1 (v887.2.length) (ei .i64 (v887.2))), (51, .arr 21 1 (v933.1.length) (ei .i32 (v933.1))), (52, .arr 3 1 (v933.2.length) (ei .i64 (v933.2))), (64, .arr 21 1 (v937.1.length) (ei .i32 (v937.1))), (65, .arr 3 1 (v937.2.length) (ei .i64 (v937.2)))] 0 (fun H => ?_)
    refine And.intro ?_ ?_
    · refine ob_ck H fun h2168 H => ?_
      refine if_st H (fun h2169 H => ?_) (fun h2169 H => ?_)
      · refine ⟨true, ⟨H⟩, ⟨rfl⟩, ?_⟩
        repeat (refine And.intro (Ob.mk (by first | exact rfl | exact Iff.rfl | exact ⟨rfl, rfl⟩ | exact decide_eq_true_iff | (constructor <;> first | rfl | simp [ei, eb, es, ec]) | simp [ei, eb, es, ec])) ?_)
        first | exact trivial | exact rfl
      · refine if_st H (fun h2170 H => ?_) (fun h2170 H => ?_)
        · refine ⟨true, ⟨H⟩, ⟨rfl⟩, ?_⟩
          repeat (refine And.intro (Ob.mk (by first | exact rfl | exact Iff.rfl | exact ⟨rfl, rfl⟩ | exact decide_eq_true_iff | (constructor <;> first | rfl | simp [ei, eb, es, ec]) | simp [ei, eb, es, ec])) ?_)
          first | exact trivial | exact rfl
        · refine if_st H (fun h2171 H => ?_) (fun h2171 H => ?_)
          · refine ⟨true, ⟨H⟩, ⟨rfl⟩, ?_⟩
            repeat (refine And.intro (Ob.mk (by first | exact rfl | exact Iff.rfl | exact ⟨rfl, rfl⟩ | exact decide_eq_true_iff | (constructor <;> first | rfl | simp [ei, eb, es, ec]) | simp [ei, eb, es, ec])) ?_)
            first | exact trivial | exact rfl
          · refine if_st H (fun h2172 H => ?_) (fun h2172 H => ?_)
            · refine ⟨true, ⟨H⟩, ⟨rfl⟩, ?_⟩
              repeat (refine And.intro (Ob.mk (by first | exact rfl | exact Iff.rfl | exact ⟨rfl, rfl⟩ | exact decide_eq_true_iff | (constructor <;> first | rfl | simp [ei, eb, es, ec]) | simp [ei, eb, es, ec])) ?_)
              first | exact trivial | exact rfl
            · refine R.cut_fam H 125 [] [] (fun v2205 => []) (fun v2205 => []) [(35, .arr 21 1 (v887.1.length) (ei .i32 (v887.1))), (36, .arr 3 1 (v887.2.length) (ei .i64 (v887.2))), (51, .arr 21 1 (v933.1.length) (ei .i32 (v933.1))), (52, .arr 3 1 (v933.2.length) (ei .i64 (v933.2))), (64, .arr 21 1 (v937.1.length) (ei .i32 (v937.1))), (65, .arr 3 1 (v937.2.length) (ei .i64 (v937.2)))] 0 (fun H => ?_)
              refine And.intro ?_ ?_
              · refine R.loop_fam (bind_st H) [0, 1, 2, 3, 4] [] (fun _ s2209 => [(11, .v (.int .i64 (s2209)))]) (fun _ s2209 => []) 0 (fun n2238 H => ?_)
                refine ⟨(n2238, _), ⟨H⟩, ⟨trivial⟩, ?_⟩
                repeat (refine And.intro (Ob.mk (by first | exact rfl | exact Iff.rfl | exact ⟨rfl, rfl⟩ | exact decide_eq_true_iff | (constructor <;> first | rfl | simp [ei, eb, es, ec]) | simp [ei, eb, es, ec])) ?_)
                rintro ⟨m0, s2209⟩ H _
                obtain ⟨m2210, hm0, H⟩ := IG_succ H
                dsimp only at hm0
                subst hm0
                try dsimp only at H
                refine if_st H (fun h2228 H => ?_) (fun h2228 H => ?_)
                · refine And.intro ⟨by kernel_rfl⟩ ?_
                  refine ob_ck H fun h2229 H => ?_
                  refine ld_int (e := v933.1.getD s2209.toNat 0) (own_get (ys := ei .i32 v933.1) (by first | rfl | simp [ei, eb, es, ec]) (ei_get (l := v933.1) (by first | exact tn h2229 | (have := tn h2229; simp at this ⊢; omega) | (have := tn h2229; simp; omega)))) ?_
                  refine ob_ck H fun h2230 H => ?_
                  refine ld_int (e := v887.1.getD s2209.toNat 0) (own_get (ys := ei .i32 v887.1) (by first | rfl | simp [ei, eb, es, ec]) (ei_get (l := v887.1) (by first | exact tn h2230 | (have := tn h2230; simp at this ⊢; omega) | (have := tn h2230; simp; omega)))) ?_
                  refine if_st H (fun h2231 H => ?_) (fun h2231 H => ?_)
                  · replace H := some_st H
                    dsimp only [stp, sm] at H
                    refine ⟨true, ⟨H⟩, ⟨rfl⟩, ?_⟩
                    repeat (refine And.intro (Ob.mk (by first | exact rfl | exact Iff.rfl | exact ⟨rfl, rfl⟩ | exact decide_eq_true_iff | (constructor <;> first | rfl | simp [ei, eb, es, ec]) | simp [ei, eb, es, ec])) ?_)
                    first | exact trivial | exact rfl
                  · refine ob_ck H fun h2232 H => ?_
                    refine ld_int (e := v933.2.getD s2209.toNat 0) (own_get (ys := ei .i64 v933.2) (by first | rfl | simp [ei, eb, es, ec]) (ei_get (l := v933.2) (by first | exact tn h2232 | (have := tn h2232; simp at this ⊢; omega) | (have := tn h2232; simp; omega)))) ?_
                    refine ob_ck H fun h2233 H => ?_
                    refine ld_int (e := v887.2.getD s2209.toNat 0) (own_get (ys := ei .i64 v887.2) (by first | rfl | simp [ei, eb, es, ec]) (ei_get (l := v887.2) (by first | exact tn h2233 | (have := tn h2233; simp at this ⊢; omega) | (have := tn h2233; simp; omega)))) ?_
                    refine if_st H (fun h2234 H => ?_) (fun h2234 H => ?_)
                    · replace H := some_st H
                      dsimp only [stp, sm] at H
                      refine ⟨true, ⟨H⟩, ⟨rfl⟩, ?_⟩
                      repeat (refine And.intro (Ob.mk (by first | exact rfl | exact Iff.rfl | exact ⟨rfl, rfl⟩ | exact decide_eq_true_iff | (constructor <;> first | rfl | simp [ei, eb, es, ec]) | simp [ei, eb, es, ec])) ?_)
                      first | exact trivial | exact rfl
                    · refine ob_ck H fun h2235 H => ?_
                      replace H := some_st H
                      refine ⟨(m2210, s2209 + 1), ⟨H, Nat.lt_succ_self _⟩, ⟨trivial⟩, ⟨rfl⟩, ?_⟩
                      repeat (refine And.intro (Ob.mk (by first | exact rfl | exact Iff.rfl | exact ⟨rfl, rfl⟩ | exact decide_eq_true_iff | (constructor <;> first | rfl | simp [ei, eb, es, ec]) | simp [ei, eb, es, ec])) ?_)
                      first | exact trivial | exact rfl
                · replace H := some_st H
                  dsimp only [stp, sm] at H
                  refine ⟨(), ⟨H⟩, ⟨rfl⟩, ?_⟩
                  repeat (refine And.intro (Ob.mk (by first | exact rfl | exact Iff.rfl | exact ⟨rfl, rfl⟩ | exact decide_eq_true_iff | (constructor <;> first | rfl | simp [ei, eb, es, ec]) | simp [ei, eb, es, ec])) ?_)
                  first | exact trivial | exact rfl
              · intro v2205 H
                refine if_st H (fun h2239 H => ?_) (fun h2239 H => ?_)
                · refine ⟨true, ⟨H⟩, ⟨rfl⟩, ?_⟩
                  repeat (refine And.intro (Ob.mk (by first | exact rfl | exact Iff.rfl | exact ⟨rfl, rfl⟩ | exact decide_eq_true_iff | (constructor <;> first | rfl | simp [ei, eb, es, ec]) | simp [ei, eb, es, ec])) ?_)
                  first | exact trivial | exact rfl
                · refine if_st H (fun h2240 H => ?_) (fun h2240 H => ?_)
                  · refine ⟨true, ⟨H⟩, ⟨rfl⟩, ?_⟩
                    repeat (refine And.intro (Ob.mk (by first | exact rfl | exact Iff.rfl | exact ⟨rfl, rfl⟩ | exact decide_eq_true_iff | (constructor <;> first | rfl | simp [ei, eb, es, ec]) | simp [ei, eb, es, ec])) ?_)
                    first | exact trivial | exact rfl
                  · refine if_st H (fun h2241 H => ?_) (fun h2241 H => ?_)
                    · refine ⟨true, ⟨H⟩, ⟨rfl⟩, ?_⟩
                      repeat (refine And.intro (Ob.mk (by first | exact rfl | exact Iff.rfl | exact ⟨rfl, rfl⟩ | exact decide_eq_true_iff | (constructor <;> first | rfl | simp [ei, eb, es, ec]) | simp [ei, eb, es, ec])) ?_)
                      first | exact trivial | exact rfl
                    · refine if_st H (fun h2242 H => ?_) (fun h2242 H => ?_)
                      · refine ⟨true, ⟨H⟩, ⟨rfl⟩, ?_⟩
                        repeat (refine And.intro (Ob.mk (by first | exact rfl | exact Iff.rfl | exact ⟨rfl, rfl⟩ | exact decide_eq_true_iff | (constructor <;> first | rfl | simp [ei, eb, es, ec]) | simp [ei, eb, es, ec])) ?_)
                        first | exact trivial | exact rfl
                      · refine R.cut_fam H 155 [] [] (fun v2275 => []) (fun v2275 => []) [(35, .arr 21 1 (v887.1.length) (ei .i32 (v887.1))), (36, .arr 3 1 (v887.2.length) (ei .i64 (v887.2))), (51, .arr 21 1 (v933.1.length) (ei .i32 (v933.1))), (52, .arr 3 1 (v933.2.length) (ei .i64 (v933.2))), (64, .arr 21 1 (v937.1.length) (ei .i32 (v937.1))), (65, .arr 3 1 (v937.2.length) (ei .i64 (v937.2)))] 0 (fun H => ?_)
                        refine And.intro ?_ ?_
                        · refine R.loop_fam (bind_st H) [0, 1, 2, 3, 4] [] (fun _ s2279 => [(11, .v (.int .i64 (s2279)))]) (fun _ s2279 => []) 0 (fun n2308 H => ?_)
                          refine ⟨(n2308, _), ⟨H⟩, ⟨trivial⟩, ?_⟩
                          repeat (refine And.intro (Ob.mk (by first | exact rfl | exact Iff.rfl | exact ⟨rfl, rfl⟩ | exact decide_eq_true_iff | (constructor <;> first | rfl | simp [ei, eb, es, ec]) | simp [ei, eb, es, ec])) ?_)
                          rintro ⟨m0, s2279⟩ H _
                          obtain ⟨m2280, hm0, H⟩ := IG_succ H
                          dsimp only at hm0
                          subst hm0
                          try dsimp only at H
                          refine if_st H (fun h2298 H => ?_) (fun h2298 H => ?_)
                          · refine And.intro ⟨by kernel_rfl⟩ ?_
                            refine ob_ck H fun h2299 H => ?_
                            refine ld_int (e := v937.1.getD s2279.toNat 0) (own_get (ys := ei .i32 v937.1) (by first | rfl | simp [ei, eb, es, ec]) (ei_get (l := v937.1) (by first | exact tn h2299 | (have := tn h2299; simp at this ⊢; omega) | (have := tn h2299; simp; omega)))) ?_
                            refine ob_ck H fun h2300 H => ?_
                            refine ld_int (e := v887.1.getD s2279.toNat 0) (own_get (ys := ei .i32 v887.1) (by first | rfl | simp [ei, eb, es, ec]) (ei_get (l := v887.1) (by first | exact tn h2300 | (have := tn h2300; simp at this ⊢; omega) | (have := tn h2300; simp; omega)))) ?_
                            refine if_st H (fun h2301 H => ?_) (fun h2301 H => ?_)
                            · replace H := some_st H
                              dsimp only [stp, sm] at H
                              refine ⟨true, ⟨H⟩, ⟨rfl⟩, ?_⟩
                              repeat (refine And.intro (Ob.mk (by first | exact rfl | exact Iff.rfl | exact ⟨rfl, rfl⟩ | exact decide_eq_true_iff | (constructor <;> first | rfl | simp [ei, eb, es, ec]) | simp [ei, eb, es, ec])) ?_)
                              first | exact trivial | exact rfl
                            · refine ob_ck H fun h2302 H => ?_
                              refine ld_int (e := v937.2.getD s2279.toNat 0) (own_get (ys := ei .i64 v937.2) (by first | rfl | simp [ei, eb, es, ec]) (ei_get (l := v937.2) (by first | exact tn h2302 | (have := tn h2302; simp at this ⊢; omega) | (have := tn h2302; simp; omega)))) ?_
                              refine ob_ck H fun h2303 H => ?_
                              refine ld_int (e := v887.2.getD s2279.toNat 0) (own_get (ys := ei .i64 v887.2) (by first | rfl | simp [ei, eb, es, ec]) (ei_get (l := v887.2) (by first | exact tn h2303 | (have := tn h2303; simp at this ⊢; omega) | (have := tn h2303; simp; omega)))) ?_
                              refine if_st H (fun h2304 H => ?_) (fun h2304 H => ?_)
                              · replace H := some_st H
                                dsimp only [stp, sm] at H
                                refine ⟨true, ⟨H⟩, ⟨rfl⟩, ?_⟩
                                repeat (refine And.intro (Ob.mk (by first | exact rfl | exact Iff.rfl | exact ⟨rfl, rfl⟩ | exact decide_eq_true_iff | (constructor <;> first | rfl | simp [ei, eb, es, ec]) | simp [ei, eb, es, ec])) ?_)
                                first | exact trivial | exact rfl
                              · refine ob_ck H fun h2305 H => ?_
                                replace H := some_st H
                                refine ⟨(m2280, s2279 + 1), ⟨H, Nat.lt_succ_self _⟩, ⟨trivial⟩, ⟨rfl⟩, ?_⟩
                                repeat (refine And.intro (Ob.mk (by first | exact rfl | exact Iff.rfl | exact ⟨rfl, rfl⟩ | exact decide_eq_true_iff | (constructor <;> first | rfl | simp [ei, eb, es, ec]) | simp [ei, eb, es, ec])) ?_)
                                first | exact trivial | exact rfl
                          · replace H := some_st H
                            dsimp only [stp, sm] at H
                            refine ⟨(), ⟨H⟩, ⟨rfl⟩, ?_⟩
                            repeat (refine And.intro (Ob.mk (by first | exact rfl | exact Iff.rfl | exact ⟨rfl, rfl⟩ | exact decide_eq_true_iff | (constructor <;> first | rfl | simp [ei, eb, es, ec]) | simp [ei, eb, es, ec])) ?_)
                            first | exact trivial | exact rfl
                        · intro v2275 H
                          refine R.cut_fam H 182 [] [] (fun v2351 => [(4, .own 182), (5, .own 183)]) (fun v2351 => [(182, .arr 21 1 (v2351.1.length) (ei .i32 (v2351.1))), (183, .arr 3 1 (v2351.2.length) (ei .i64 (v2351.2)))]) [(35, .arr 21 1 (v887.1.length) (ei .i32 (v887.1))), (36, .arr 3 1 (v887.2.length) (ei .i64 (v887.2))), (51, .arr 21 1 (v933.1.length) (ei .i32 (v933.1))), (52, .arr 3 1 (v933.2.length) (ei .i64 (v933.2))), (64, .arr 21 1 (v937.1.length) (ei .i32 (v937.1))), (65, .arr 3 1 (v937.2.length) (ei .i64 (v937.2)))] 2 (fun H => ?_)
                          refine And.intro ?_ ?_
                          · refine R.loop_fam (bind_st H) [0] [(4, 0, 21, 1), (5, 0, 3, 1)] (fun _ s2355 => [(4, .own 172), (5, .own 173), (6, .v (.int .i64 (s2355.2.2)))]) (fun _ s2355 => [(172, .arr 21 1 (s2355.1.length) (ei .i32 (s2355.1))), (173, .arr 3 1 (s2355.2.1.length) (ei .i64 (s2355.2.1)))]) 2 (fun n2394 H => ?_)
                            refine ⟨(n2394, _), ⟨H⟩, ⟨trivial⟩, ?_⟩
                            repeat (refine And.intro (Ob.mk (by first | exact rfl | exact Iff.rfl | exact ⟨rfl, rfl⟩ | exact decide_eq_true_iff | (constructor <;> first | rfl | simp [ei, eb, es, ec]) | simp [ei, eb, es, ec])) ?_)
                            rintro ⟨m0, s2355⟩ H _
                            obtain ⟨m2356, hm0, H⟩ := IG_succ H
                            dsimp only at hm0
                            subst hm0
                            try dsimp only at H
                            refine if_st H (fun h2382 H => ?_) (fun h2382 H => ?_)
                            · refine ob_sl hs756.2.2 H fun h2383 H => ?_
                              have hs2384 := sl_ei hs756.1 hs756.2.1 hs756.2.2 h2383
                              obtain ⟨v2385, hv2386, H⟩ := call_st H
                              refine ⟨(((((a0.drop (0 : Int).toNat).take ((gmin ((a0.length : Nat) : Int) 400).toNat - (0 : Int).toNat)).drop s2355.2.2.toNat).take ((((gmin ((a0.length : Nat) : Int) 400).toNat - (0 : Int).toNat : Nat) : Int).toNat - s2355.2.2.toNat)), v2385), ⟨hv2386⟩, ⟨trivial⟩, ?_⟩
                              refine And.intro ⟨(hs2384.2.1).symm, hs2384.2.2, ei_len.trans ((show _ = _ from hs2384.2.1).trans (Nat.mul_one _).symm), hs2384.1⟩ ?_
                              refine if_st H (fun h2387 H => ?_) (fun h2387 H => ?_)
                              · refine ob_app (by decide) (by first | exact ei_one | ((repeat (refine List.forall_mem_cons.2 ⟨rfl, ?_⟩)); intro y hy; cases hy; done) | (intro y hy; simp [ei, eb, es, ec] at hy; (first | (rcases hy with rfl | hy) | subst hy | skip); all_goals first | rfl | simp_all [Value.oneCell'])) H fun h2388 H => ?_
                                refine ob_app (by decide) (by first | exact ei_one | ((repeat (refine List.forall_mem_cons.2 ⟨rfl, ?_⟩)); intro y hy; cases hy; done) | (intro y hy; simp [ei, eb, es, ec] at hy; (first | (rcases hy with rfl | hy) | subst hy | skip); all_goals first | rfl | simp_all [Value.oneCell'])) H fun h2389 H => ?_
                                refine ob_ck H fun h2390 H => ?_
                                replace H := some_st H
                                refine ⟨(m2356, ((s2355.1 ++ [65533]), (s2355.2.1 ++ [s2355.2.2]), s2355.2.2 + 1)), ⟨H, Nat.lt_succ_self _⟩, ⟨trivial⟩, ⟨rfl⟩, ?_⟩
                                repeat (refine And.intro (Ob.mk (by first | exact rfl | exact Iff.rfl | exact ⟨rfl, rfl⟩ | exact decide_eq_true_iff | (constructor <;> first | rfl | simp [ei, eb, es, ec]) | simp [ei, eb, es, ec])) ?_)
                                first | exact trivial | exact rfl
                              · refine ob_app (by decide) (by first | exact ei_one | ((repeat (refine List.forall_mem_cons.2 ⟨rfl, ?_⟩)); intro y hy; cases hy; done) | (intro y hy; simp [ei, eb, es, ec] at hy; (first | (rcases hy with rfl | hy) | subst hy | skip); all_goals first | rfl | simp_all [Value.oneCell'])) H fun h2391 H => ?_
                                refine ob_app (by decide) (by first | exact ei_one | ((repeat (refine List.forall_mem_cons.2 ⟨rfl, ?_⟩)); intro y hy; cases hy; done) | (intro y hy; simp [ei, eb, es, ec] at hy; (first | (rcases hy with rfl | hy) | subst hy | skip); all_goals first | rfl | simp_all [Value.oneCell'])) H fun h2392 H => ?_
                                refine ob_ck H fun h2393 H => ?_
                                replace H := some_st H
                                refine ⟨(m2356, ((s2355.1 ++ [v2385.1]), (s2355.2.1 ++ [s2355.2.2]), s2355.2.2 + v2385.2.1)), ⟨H, Nat.lt_succ_self _⟩, ⟨trivial⟩, ⟨rfl⟩, ?_⟩
                                repeat (refine And.intro (Ob.mk (by first | exact rfl | exact Iff.rfl | exact ⟨rfl, rfl⟩ | exact decide_eq_true_iff | (constructor <;> first | rfl | simp [ei, eb, es, ec]) | simp [ei, eb, es, ec])) ?_)
                                first | exact trivial | exact rfl
                            · replace H := some_st H
                              dsimp only [stp, sm] at H
                              refine ⟨(s2355.1, s2355.2.1), ⟨H⟩, ⟨rfl⟩, ?_⟩
                              repeat (refine And.intro (Ob.mk (by first | exact rfl | exact Iff.rfl | exact ⟨rfl, rfl⟩ | exact decide_eq_true_iff | (constructor <;> first | rfl | simp [ei, eb, es, ec]) | simp [ei, eb, es, ec])) ?_)
                              first | exact trivial | exact rfl
                          · intro v2351 H
                            refine R.cut_fam H 198 [] [] (fun v2419 => [(3, .own 198)]) (fun v2419 => [(198, .arr 5 1 (v2419.length) (ei .u8 (v2419)))]) [(182, .arr 21 1 (v2351.1.length) (ei .i32 (v2351.1))), (183, .arr 3 1 (v2351.2.length) (ei .i64 (v2351.2))), (35, .arr 21 1 (v887.1.length) (ei .i32 (v887.1))), (36, .arr 3 1 (v887.2.length) (ei .i64 (v887.2))), (51, .arr 21 1 (v933.1.length) (ei .i32 (v933.1))), (52, .arr 3 1 (v933.2.length) (ei .i64 (v933.2))), (64, .arr 21 1 (v937.1.length) (ei .i32 (v937.1))), (65, .arr 3 1 (v937.2.length) (ei .i64 (v937.2)))] 1 (fun H => ?_)
                            refine And.intro ?_ ?_
                            · refine R.loop_fam (bind_st H) [4] [(3, 0, 5, 1)] (fun _ s2423 => [(3, .own 190), (6, .v (.int .i64 (s2423.2)))]) (fun _ s2423 => [(190, .arr 5 1 (s2423.1.length) (ei .u8 (s2423.1)))]) 1 (fun n2444 H => ?_)
                              refine ⟨(n2444, _), ⟨H⟩, ⟨trivial⟩, ?_⟩
                              repeat (refine And.intro (Ob.mk (by first | exact rfl | exact Iff.rfl | exact ⟨rfl, rfl⟩ | exact decide_eq_true_iff | (constructor <;> first | rfl | simp [ei, eb, es, ec]) | simp [ei, eb, es, ec])) ?_)
                              rintro ⟨m0, s2423⟩ H _
                              obtain ⟨m2424, hm0, H⟩ := IG_succ H
                              dsimp only at hm0
                              subst hm0
                              try dsimp only at H
                              refine if_st H (fun h2438 H => ?_) (fun h2438 H => ?_)
                              · refine ob_ck H fun h2439 H => ?_
                                refine ld_int (e := v2351.1.getD s2423.2.toNat 0) (own_get (ys := ei .i32 v2351.1) (by first | rfl | simp [ei, eb, es, ec]) (ei_get (l := v2351.1) (by first | exact tn h2439 | (have := tn h2439; simp at this ⊢; omega) | (have := tn h2439; simp; omega)))) ?_
                                obtain ⟨v2440, hv2441, H⟩ := call_st H
                                refine ⟨(v2351.1.getD s2423.2.toNat 0, v2440), ⟨hv2441⟩, ⟨trivial⟩, ?_⟩
                                refine And.intro ⟨rfl⟩ ?_
                                refine ob_app (by decide) (by first | exact ei_one | ((repeat (refine List.forall_mem_cons.2 ⟨rfl, ?_⟩)); intro y hy; cases hy; done) | (intro y hy; simp [ei, eb, es, ec] at hy; (first | (rcases hy with rfl | hy) | subst hy | skip); all_goals first | rfl | simp_all [Value.oneCell'])) H fun h2442 H => ?_
                                refine ob_ck H fun h2443 H => ?_
                                replace H := some_st H
                                refine ⟨(m2424, ((s2423.1 ++ v2440), s2423.2 + 1)), ⟨H, Nat.lt_succ_self _⟩, ⟨trivial⟩, ⟨rfl⟩, ?_⟩
                                repeat (refine And.intro (Ob.mk (by first | exact rfl | exact Iff.rfl | exact ⟨rfl, rfl⟩ | exact decide_eq_true_iff | (constructor <;> first | rfl | simp [ei, eb, es, ec]) | simp [ei, eb, es, ec])) ?_)
                                first | exact trivial | exact rfl
                              · replace H := some_st H
                                dsimp only [stp, sm] at H
                                refine ⟨s2423.1, ⟨H⟩, ⟨rfl⟩, ?_⟩
                                repeat (refine And.intro (Ob.mk (by first | exact rfl | exact Iff.rfl | exact ⟨rfl, rfl⟩ | exact decide_eq_true_iff | (constructor <;> first | rfl | simp [ei, eb, es, ec]) | simp [ei, eb, es, ec])) ?_)
                                first | exact trivial | exact rfl
                            · intro v2419 H
                              refine ob_str (l := v2419) H fun h2445 H => ?_
                              refine ⟨(decide (¬ (v939.data.toList = (strOf v2419).data.toList))), ⟨H⟩, ⟨rfl⟩, ?_⟩
                              repeat (refine And.intro (Ob.mk (by first | exact rfl | exact Iff.rfl | exact ⟨rfl, rfl⟩ | exact decide_eq_true_iff | (constructor <;> first | rfl | simp [ei, eb, es, ec]) | simp [ei, eb, es, ec])) ?_)
                              first | exact trivial | exact rfl
    · intro v2166 H
      refine if_st H (fun h2446 H => ?_) (fun h2446 H => ?_)
      · have hfin := fin_st H
        repeat (refine And.intro (Ob.mk (by first | (rw [← hfin] <;> first | exact rfl | exact Iff.rfl | exact ⟨rfl, rfl⟩ | exact decide_eq_true_iff | (constructor <;> first | rfl | simp [ei, eb, es, ec]) | simp [ei, eb, es, ec]) | first | exact rfl | exact Iff.rfl | exact ⟨rfl, rfl⟩ | exact decide_eq_true_iff | (constructor <;> first | rfl | simp [ei, eb, es, ec]) | simp [ei, eb, es, ec])) ?_)
        first | exact trivial | exact rfl
      · refine And.intro ⟨by kernel_rfl⟩ ?_
        refine rs_st hs756.1 (by rw [ei_len, hs756.2.1, Nat.mul_one]) ?_
        refine ob_str (l := ((a0.drop (0 : Int).toNat).take ((gmin ((a0.length : Nat) : Int) 400).toNat - (0 : Int).toNat))) H fun h2447 H => ?_
        obtain ⟨v2448, hv2449, H⟩ := call_st H
        refine ⟨(strOf ((a0.drop (0 : Int).toNat).take ((gmin ((a0.length : Nat) : Int) 400).toNat - (0 : Int).toNat)), v2448), ⟨hv2449⟩, ⟨trivial⟩, ?_⟩
        refine And.intro ⟨rfl⟩ ?_
        refine if_st H (fun h2450 H => ?_) (fun h2450 H => ?_)
        · refine rs_st hs756.1 (by rw [ei_len, hs756.2.1, Nat.mul_one]) ?_
          refine ob_str (l := ((a0.drop (0 : Int).toNat).take ((gmin ((a0.length : Nat) : Int) 400).toNat - (0 : Int).toNat))) H fun h2451 H => ?_
          obtain ⟨v2452, hv2453, H⟩ := call_st H
          refine ⟨(strOf ((a0.drop (0 : Int).toNat).take ((gmin ((a0.length : Nat) : Int) 400).toNat - (0 : Int).toNat)), v2452), ⟨hv2453⟩, ⟨trivial⟩, ?_⟩
          refine And.intro ⟨rfl⟩ ?_
          refine rs_st hs756.1 (by rw [ei_len, hs756.2.1, Nat.mul_one]) ?_
          refine ob_str (l := ((a0.drop (0 : Int).toNat).take ((gmin ((a0.length : Nat) : Int) 400).toNat - (0 : Int).toNat))) H fun h2454 H => ?_
          obtain ⟨v2455, hv2456, H⟩ := call_st H
          refine ⟨(strOf ((a0.drop (0 : Int).toNat).take ((gmin ((a0.length : Nat) : Int) 400).toNat - (0 : Int).toNat)), v2455), ⟨hv2456⟩, ⟨trivial⟩, ?_⟩
          refine And.intro ⟨rfl⟩ ?_
          refine if_st H (fun h2457 H => ?_) (fun h2457 H => ?_)
          · obtain ⟨v2458, hv2459, H⟩ := call_st H
            refine ⟨(v939, v2458), ⟨hv2459⟩, ⟨trivial⟩, ?_⟩
            refine And.intro ⟨rfl⟩ ?_
            refine if_st H (fun h2460 H => ?_) (fun h2460 H => ?_)
            · obtain ⟨v2461, hv2462, H⟩ := call_st H
              refine ⟨v2461, ⟨hv2462⟩, ⟨trivial⟩, ?_⟩
              have hfin := fin_st H
              repeat (refine And.intro (Ob.mk (by first | (rw [← hfin] <;> first | exact rfl | exact Iff.rfl | exact ⟨rfl, rfl⟩ | exact decide_eq_true_iff | (constructor <;> first | rfl | simp [ei, eb, es, ec]) | simp [ei, eb, es, ec]) | first | exact rfl | exact Iff.rfl | exact ⟨rfl, rfl⟩ | exact decide_eq_true_iff | (constructor <;> first | rfl | simp [ei, eb, es, ec]) | simp [ei, eb, es, ec])) ?_)
              first | exact trivial | exact rfl
            · have hfin := fin_st H
              repeat (refine And.intro (Ob.mk (by first | (rw [← hfin] <;> first | exact rfl | exact Iff.rfl | exact ⟨rfl, rfl⟩ | exact decide_eq_true_iff | (constructor <;> first | rfl | simp [ei, eb, es, ec]) | simp [ei, eb, es, ec]) | first | exact rfl | exact Iff.rfl | exact ⟨rfl, rfl⟩ | exact decide_eq_true_iff | (constructor <;> first | rfl | simp [ei, eb, es, ec]) | simp [ei, eb, es, ec])) ?_)
              first | exact trivial | exact rfl
          · have hfin := fin_st H
            repeat (refine And.intro (Ob.mk (by first | (rw [← hfin] <;> first | exact rfl | exact Iff.rfl | exact ⟨rfl, rfl⟩ | exact decide_eq_true_iff | (constructor <;> first | rfl | simp [ei, eb, es, ec]) | simp [ei, eb, es, ec]) | first | exact rfl | exact Iff.rfl | exact ⟨rfl, rfl⟩ | exact decide_eq_true_iff | (constructor <;> first | rfl | simp [ei, eb, es, ec]) | simp [ei, eb, es, ec])) ?_)
            first | exact trivial | exact rfl
        · have hfin := fin_st H
          repeat (refine And.intro (Ob.mk (by first | (rw [← hfin] <;> first | exact rfl | exact Iff.rfl | exact ⟨rfl, rfl⟩ | exact decide_eq_true_iff | (constructor <;> first | rfl | simp [ei, eb, es, ec]) | simp [ei, eb, es, ec]) | first | exact rfl | exact Iff.rfl | exact ⟨rfl, rfl⟩ | exact decide_eq_true_iff | (constructor <;> first | rfl | simp [ei, eb, es, ec]) | simp [ei, eb, es, ec])) ?_)
          first | exact trivial | exact rfl

end Go.Proofs.Ytcnofjjiepcpjaa
