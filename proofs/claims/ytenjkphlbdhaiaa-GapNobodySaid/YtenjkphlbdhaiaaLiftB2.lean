/-
  Functions of the program, lifted: each with its walk. Printed by lift.py.
  Nothing here is trusted.
-/
import Derived.Test.YtenjkphlbdhaiaaLiftB1
set_option linter.unusedVariables false
set_option linter.unusedSimpArgs false
namespace Go.Proofs.Ytenjkphlbdhaiaa
open Go Go.Eng

theorem mo1_LiftB2 {p q : Prop} (k : q) (h : p := by first | exact rfl | exact Iff.rfl | exact ⟨rfl, rfl⟩ | exact decide_eq_true_iff | (constructor <;> first | exact rfl | (simp only [ei, eb, es, ec, gmin, gmax, List.map_append, List.flatMap_append, List.nil_append, List.append_nil, List.append_assoc]; done) | omega | (simp only [List.nil_append, List.length_append, List.length_cons, List.length_nil]; omega) | (simp [ei, eb, es, ec, gmin, gmax]; done)) | exact rfl | (simp only [ei, eb, es, ec, gmin, gmax, List.map_append, List.flatMap_append, List.nil_append, List.append_nil, List.append_assoc]; done) | omega | (simp only [List.nil_append, List.length_append, List.length_cons, List.length_nil]; omega) | (simp [ei, eb, es, ec, gmin, gmax]; done) | simp [ei, eb, es, ec, gmin, gmax]) : Ob p ∧ q := ⟨⟨h⟩, k⟩
theorem mf1_LiftB2 {p q : Prop} (k : q) (h : p := by first | (rw [← hfin] <;> first | exact rfl | exact Iff.rfl | exact ⟨rfl, rfl⟩ | exact decide_eq_true_iff | (constructor <;> first | exact rfl | (simp only [ei, eb, es, ec, gmin, gmax, List.map_append, List.flatMap_append, List.nil_append, List.append_nil, List.append_assoc]; done) | omega | (simp only [List.nil_append, List.length_append, List.length_cons, List.length_nil]; omega) | (simp [ei, eb, es, ec, gmin, gmax]; done)) | exact rfl | (simp only [ei, eb, es, ec, gmin, gmax, List.map_append, List.flatMap_append, List.nil_append, List.append_nil, List.append_assoc]; done) | omega | (simp only [List.nil_append, List.length_append, List.length_cons, List.length_nil]; omega) | (simp [ei, eb, es, ec, gmin, gmax]; done) | simp [ei, eb, es, ec, gmin, gmax]) | first | exact rfl | exact Iff.rfl | exact ⟨rfl, rfl⟩ | exact decide_eq_true_iff | (constructor <;> first | exact rfl | (simp only [ei, eb, es, ec, gmin, gmax, List.map_append, List.flatMap_append, List.nil_append, List.append_nil, List.append_assoc]; done) | omega | (simp only [List.nil_append, List.length_append, List.length_cons, List.length_nil]; omega) | (simp [ei, eb, es, ec, gmin, gmax]; done)) | exact rfl | (simp only [ei, eb, es, ec, gmin, gmax, List.map_append, List.flatMap_append, List.nil_append, List.append_nil, List.append_assoc]; done) | omega | (simp only [List.nil_append, List.length_append, List.length_cons, List.length_nil]; omega) | (simp [ei, eb, es, ec, gmin, gmax]; done) | simp [ei, eb, es, ec, gmin, gmax]) : Ob p ∧ q := ⟨⟨h⟩, k⟩
/-- placard/placardref01.Runes -/
noncomputable def g50 (a0 : List Int) : Option (List Int × List Int) :=
  jn (α := _) (β := List Int × List Int) (fun k100 =>
      (loopO (σ := List Int × List Int × Int) (ρ := List Int × List Int) (fun s103 =>
          if s103.2.2 < ((a0.length : Nat) : Int) then
            (
              ck (0 ≤ s103.2.2 ∧ s103.2.2 ≤ ((a0.length : Nat) : Int) ∧ ((a0.length : Nat) : Int) ≤ ((a0.length : Nat) : Int)) <|
              (g84 ((a0.drop s103.2.2.toNat).take (((a0.length : Nat) : Int).toNat - s103.2.2.toNat))).bind fun v171 =>
              if v171.2.2 = true then
                (
                  ck ((s103.1.length + 1) * 4 ≤ 140737488355328) <|
                  ck ((s103.2.1.length + 1) * 8 ≤ 140737488355328) <|
                  ck (inR .i64 (s103.2.2 + 1)) <|
                  some (.go ((s103.1 ++ [65533]), (s103.2.1 ++ [s103.2.2]), s103.2.2 + 1))
                )
              else
                (
                  ck ((s103.1.length + 1) * 4 ≤ 140737488355328) <|
                  ck ((s103.2.1.length + 1) * 8 ≤ 140737488355328) <|
                  ck (inR .i64 (s103.2.2 + v171.2.1)) <|
                  some (.go ((s103.1 ++ [v171.1]), (s103.2.1 ++ [s103.2.2]), s103.2.2 + v171.2.1))
                )
            )
          else
            some (.out (s103.1, s103.2.1))
        ) ([], [], 0)).bind fun o165 =>
        k100 (o165.1, o165.2)
  ) (fun v99 =>
    some (v99.1, v99.2)
  )
noncomputable def k50 : Eng.CS := { f := 50, calm := false, more := 2, ι := (List Int) × (List Int × List Int), ok := fun i => g50 i.1 = some i.2, rds := fun _ => [], args := fun i => [.sl 1 i.1.length (ei .u8 i.1)], res := fun i => .tup [.own 0, .own 1], L' := fun i => [(0, .arr 21 1 i.2.1.length (ei .i32 i.2.1)), (1, .arr 3 1 i.2.2.length (ei .i64 i.2.2))], rn := [(0, 0, 21, 1), (1, 0, 3, 1)] }
set_option maxRecDepth 8000 in
set_option maxHeartbeats 4000000 in
theorem k50_ok : CSOk Try.prog k50 := by
  refine R.cspec Try.func50 nm50 rfl ?_
  rintro ⟨a0, r⟩ hok q _ args hargs
  match args, hargs with
  | [_], hargs =>
  obtain ⟨⟨A0, cp0, rfl, hc0, _, hR0⟩, _⟩ := hargs
  refine ⟨envC [k84] false [(50, 10)], 6, envC_ok (css_cons ⟨fun _ => k84_ok, fun h => (by cases h)⟩ (css_nil)), ?_⟩
  have H : Gives (g50 a0) (fun a => a = r) := ⟨r, hok, rfl⟩
  unfold g50 at H
  clear hok
  refine R.cut_fam H 17 [] [] (fun v99 => [(4, .own 17), (5, .own 18)]) (fun v99 => [(17, .arr 21 1 (v99.1.length) (ei .i32 (v99.1))), (18, .arr 3 1 (v99.2.length) (ei .i64 (v99.2)))]) [] 2 (fun H => ?_)
  refine And.intro ?_ ?_
  · refine R.loop_fam (bind_st H) [0] [(4, 0, 21, 1), (5, 0, 3, 1)] (fun _ s103 => [(4, .own 7), (5, .own 8), (6, .v (.int .i64 (s103.2.2)))]) (fun _ s103 => [(7, .arr 21 1 (s103.1.length) (ei .i32 (s103.1))), (8, .arr 3 1 (s103.2.1.length) (ei .i64 (s103.2.1)))]) 2 (fun n196 H => ?_)
    refine ⟨(n196, _), ⟨H⟩, ⟨trivial⟩, ?_⟩
    repeat refine mo1_LiftB2 ?_
    rintro ⟨m0, s103⟩ H _
    obtain ⟨m104, hm0, H⟩ := IG_succ H
    dsimp only at hm0
    subst hm0
    try dsimp only at H
    refine if_st H (fun h166 H => ?_) (fun h166 H => ?_)
    · refine ob_sl hc0 H fun h167 H => ?_
      have hs168 := sl_ei hR0 rfl hc0 h167
      intro n169 hn170
      obtain rfl : n169 = ((a0.drop s103.2.2.toNat).take (((a0.length : Nat) : Int).toNat - s103.2.2.toNat)).length := hn170.trans hs168.2.1.symm
      obtain ⟨v171, hv172, H⟩ := call_st H
      refine ⟨(((a0.drop s103.2.2.toNat).take (((a0.length : Nat) : Int).toNat - s103.2.2.toNat)), v171), ⟨hv172⟩, ⟨trivial⟩, ?_⟩
      refine And.intro ⟨rfl, (Nat.le_trans (Nat.le_of_eq hs168.2.1) hs168.2.2), ei_len.trans ((show _ = _ from rfl).trans (Nat.mul_one _).symm), hs168.1⟩ ?_
      refine if_st H (fun h173 H => ?_) (fun h173 H => ?_)
      · refine ob_app (by decide) (by first | exact ei_one | ((repeat (refine List.forall_mem_cons.2 ⟨rfl, ?_⟩)); intro y hy; cases hy; done) | (intro y hy; simp [ei, eb, es, ec] at hy; (first | (rcases hy with rfl | hy) | subst hy | skip); all_goals first | rfl | simp_all [Value.oneCell'])) H fun h174 H => ?_
        intro n175 zs177 hn176 hz178
        obtain rfl : n175 = (s103.1 ++ [65533]).length := hn176.trans (by first | exact List.length_append.symm | (simp; done) | (simp; omega))
        obtain rfl : zs177 = ei .i32 (s103.1 ++ [65533]) := by first | exact hz178.trans (ei_app (xs := s103.1) (ys := ([65533]))).symm | (rw [hz178, ei_vw]; first | exact ei_app.symm | exact (ei_app (xs := s103.1)).symm) | (rw [hz178]; simp [ei, eb, es, ec])
        refine ob_app (by decide) (by first | exact ei_one | ((repeat (refine List.forall_mem_cons.2 ⟨rfl, ?_⟩)); intro y hy; cases hy; done) | (intro y hy; simp [ei, eb, es, ec] at hy; (first | (rcases hy with rfl | hy) | subst hy | skip); all_goals first | rfl | simp_all [Value.oneCell'])) H fun h179 H => ?_
        intro n180 zs182 hn181 hz183
        obtain rfl : n180 = (s103.2.1 ++ [s103.2.2]).length := hn181.trans (by first | exact List.length_append.symm | (simp; done) | (simp; omega))
        obtain rfl : zs182 = ei .i64 (s103.2.1 ++ [s103.2.2]) := by first | exact hz183.trans (ei_app (xs := s103.2.1) (ys := ([s103.2.2]))).symm | (rw [hz183, ei_vw]; first | exact ei_app.symm | exact (ei_app (xs := s103.2.1)).symm) | (rw [hz183]; simp [ei, eb, es, ec])
        refine ob_ck H fun h184 H => ?_
        replace H := some_st H
        refine ⟨(m104, ((s103.1 ++ [65533]), (s103.2.1 ++ [s103.2.2]), s103.2.2 + 1)), ⟨H, Nat.lt_succ_self _⟩, ⟨trivial⟩, ⟨rfl⟩, ?_⟩
        repeat refine mo1_LiftB2 ?_
        first | exact trivial | exact rfl
      · refine ob_app (by decide) (by first | exact ei_one | ((repeat (refine List.forall_mem_cons.2 ⟨rfl, ?_⟩)); intro y hy; cases hy; done) | (intro y hy; simp [ei, eb, es, ec] at hy; (first | (rcases hy with rfl | hy) | subst hy | skip); all_goals first | rfl | simp_all [Value.oneCell'])) H fun h185 H => ?_
        intro n186 zs188 hn187 hz189
        obtain rfl : n186 = (s103.1 ++ [v171.1]).length := hn187.trans (by first | exact List.length_append.symm | (simp; done) | (simp; omega))
        obtain rfl : zs188 = ei .i32 (s103.1 ++ [v171.1]) := by first | exact hz189.trans (ei_app (xs := s103.1) (ys := ([v171.1]))).symm | (rw [hz189, ei_vw]; first | exact ei_app.symm | exact (ei_app (xs := s103.1)).symm) | (rw [hz189]; simp [ei, eb, es, ec])
        refine ob_app (by decide) (by first | exact ei_one | ((repeat (refine List.forall_mem_cons.2 ⟨rfl, ?_⟩)); intro y hy; cases hy; done) | (intro y hy; simp [ei, eb, es, ec] at hy; (first | (rcases hy with rfl | hy) | subst hy | skip); all_goals first | rfl | simp_all [Value.oneCell'])) H fun h190 H => ?_
        intro n191 zs193 hn192 hz194
        obtain rfl : n191 = (s103.2.1 ++ [s103.2.2]).length := hn192.trans (by first | exact List.length_append.symm | (simp; done) | (simp; omega))
        obtain rfl : zs193 = ei .i64 (s103.2.1 ++ [s103.2.2]) := by first | exact hz194.trans (ei_app (xs := s103.2.1) (ys := ([s103.2.2]))).symm | (rw [hz194, ei_vw]; first | exact ei_app.symm | exact (ei_app (xs := s103.2.1)).symm) | (rw [hz194]; simp [ei, eb, es, ec])
        refine ob_ck H fun h195 H => ?_
        replace H := some_st H
        refine ⟨(m104, ((s103.1 ++ [v171.1]), (s103.2.1 ++ [s103.2.2]), s103.2.2 + v171.2.1)), ⟨H, Nat.lt_succ_self _⟩, ⟨trivial⟩, ⟨rfl⟩, ?_⟩
        repeat refine mo1_LiftB2 ?_
        first | exact trivial | exact rfl
    · replace H := some_st H
      dsimp only [stp, sm] at H
      refine ⟨(s103.1, s103.2.1), ⟨H⟩, ⟨rfl⟩, ?_⟩
      repeat refine mo1_LiftB2 ?_
      first | exact trivial | exact rfl
  · intro v99 H
    have hfin := fin_st H
    repeat refine mf1_LiftB2 ?_
    first | exact trivial | exact rfl

def c135 (p : (Int × Int)) : List Value := [.int .i32 p.1, .int .i32 p.2]
theorem c135_len : ∀ a, (c135 a).length = 2 := fun _ => rfl
theorem c135_one : ∀ a, ∀ y ∈ c135 a, y.oneCell' = true := by intro a y hy; simp only [c135, List.mem_cons, List.not_mem_nil, or_false] at hy; rcases hy with rfl | rfl <;> rfl
theorem mo2_LiftB2 {p q : Prop} (k : q) (h : p := by first | exact rfl | exact Iff.rfl | exact ⟨rfl, rfl⟩ | exact decide_eq_true_iff | (constructor <;> first | exact rfl | (simp only [ei, eb, es, ec, c135, gmin, gmax, List.map_append, List.flatMap_append, List.nil_append, List.append_nil, List.append_assoc]; done) | omega | (simp only [List.nil_append, List.length_append, List.length_cons, List.length_nil]; omega) | (simp [ei, eb, es, ec, c135, gmin, gmax]; done)) | exact rfl | (simp only [ei, eb, es, ec, c135, gmin, gmax, List.map_append, List.flatMap_append, List.nil_append, List.append_nil, List.append_assoc]; done) | omega | (simp only [List.nil_append, List.length_append, List.length_cons, List.length_nil]; omega) | (simp [ei, eb, es, ec, c135, gmin, gmax]; done) | simp [ei, eb, es, ec, c135, gmin, gmax]) : Ob p ∧ q := ⟨⟨h⟩, k⟩
theorem mf2_LiftB2 {p q : Prop} (k : q) (h : p := by first | (rw [← hfin] <;> first | exact rfl | exact Iff.rfl | exact ⟨rfl, rfl⟩ | exact decide_eq_true_iff | (constructor <;> first | exact rfl | (simp only [ei, eb, es, ec, c135, gmin, gmax, List.map_append, List.flatMap_append, List.nil_append, List.append_nil, List.append_assoc]; done) | omega | (simp only [List.nil_append, List.length_append, List.length_cons, List.length_nil]; omega) | (simp [ei, eb, es, ec, c135, gmin, gmax]; done)) | exact rfl | (simp only [ei, eb, es, ec, c135, gmin, gmax, List.map_append, List.flatMap_append, List.nil_append, List.append_nil, List.append_assoc]; done) | omega | (simp only [List.nil_append, List.length_append, List.length_cons, List.length_nil]; omega) | (simp [ei, eb, es, ec, c135, gmin, gmax]; done) | simp [ei, eb, es, ec, c135, gmin, gmax]) | first | exact rfl | exact Iff.rfl | exact ⟨rfl, rfl⟩ | exact decide_eq_true_iff | (constructor <;> first | exact rfl | (simp only [ei, eb, es, ec, c135, gmin, gmax, List.map_append, List.flatMap_append, List.nil_append, List.append_nil, List.append_assoc]; done) | omega | (simp only [List.nil_append, List.length_append, List.length_cons, List.length_nil]; omega) | (simp [ei, eb, es, ec, c135, gmin, gmax]; done)) | exact rfl | (simp only [ei, eb, es, ec, c135, gmin, gmax, List.map_append, List.flatMap_append, List.nil_append, List.append_nil, List.append_assoc]; done) | omega | (simp only [List.nil_append, List.length_append, List.length_cons, List.length_nil]; omega) | (simp [ei, eb, es, ec, c135, gmin, gmax]; done) | simp [ei, eb, es, ec, c135, gmin, gmax]) : Ob p ∧ q := ⟨⟨h⟩, k⟩
/-- placard/placardref02.Marks -/
noncomputable def g109  : Option (List (Int × Int)) :=
  some ([(768, 879), (1155, 1161), (1425, 1469), (1471, 1471), (1473, 1474), (1476, 1477), (1479, 1479), (1552, 1562), (1611, 1631), (1648, 1648), (1750, 1756), (1759, 1764), (1767, 1768), (1770, 1773), (3633, 3633), (3636, 3642), (3655, 3662), (6832, 6911), (7616, 7679), (8203, 8207), (8288, 8292), (8400, 8432), (12330, 12333), (12441, 12442), (65024, 65039), (65056, 65071), (65279, 65279), (917760, 917999)])
noncomputable def k109 : Eng.CS := { f := 109, calm := false, more := 1, ι := List (Int × Int), ok := fun i => g109  = some i, rds := fun _ => [], args := fun i => [], res := fun i => .own 0, L' := fun i => [(0, .arr 135 2 i.length (ec c135 i))], rn := [(0, 0, 135, 2)] }
set_option maxRecDepth 60000 in
set_option maxHeartbeats 4000000 in
theorem k109_ok : CSOk Try.prog k109 := by
  refine R.cspec Try.func109 nm109 rfl ?_
  rintro r hok q _ args hargs
  match args, hargs with
  | [], hargs =>
  refine ⟨envC [] false [], 6, envC_ok (css_nil), ?_⟩
  have H : Gives (g109 ) (fun a => a = r) := ⟨r, hok, rfl⟩
  unfold g109 at H
  clear hok
  have hfin := fin_st H
  repeat refine mf2_LiftB2 ?_
  first | exact trivial | exact rfl

/-- placard/placardref02.Wides -/
noncomputable def g110  : Option (List (Int × Int)) :=
  some ([(4352, 4447), (8986, 8987), (9001, 9002), (9193, 9196), (9200, 9200), (9203, 9203), (9725, 9726), (9748, 9749), (9800, 9811), (9855, 9855), (9875, 9875), (9889, 9889), (9898, 9899), (9917, 9918), (9924, 9925), (9934, 9934), (9940, 9940), (9962, 9962), (9970, 9971), (9973, 9973), (9978, 9978), (9981, 9981), (9989, 9989), (9994, 9995), (10024, 10024), (10060, 10060), (10062, 10062), (10067, 10069), (10071, 10071), (10133, 10135), (10160, 10160), (10175, 10175), (11035, 11036), (11088, 11088), (11093, 11093), (11904, 12350), (12353, 19903), (19968, 42191), (43360, 43391), (44032, 55203), (63744, 64255), (65040, 65049), (65072, 65135), (65281, 65376), (65504, 65510), (127744, 128591), (128640, 128767), (129280, 129535), (129648, 129791), (131072, 196605), (196608, 262141)])
noncomputable def k110 : Eng.CS := { f := 110, calm := false, more := 1, ι := List (Int × Int), ok := fun i => g110  = some i, rds := fun _ => [], args := fun i => [], res := fun i => .own 0, L' := fun i => [(0, .arr 135 2 i.length (ec c135 i))], rn := [(0, 0, 135, 2)] }
set_option maxRecDepth 60000 in
set_option maxHeartbeats 4000000 in
theorem k110_ok : CSOk Try.prog k110 := by
  refine R.cspec Try.func110 nm110 rfl ?_
  rintro r hok q _ args hargs
  match args, hargs with
  | [], hargs =>
  refine ⟨envC [] false [], 6, envC_ok (css_nil), ?_⟩
  have H : Gives (g110 ) (fun a => a = r) := ⟨r, hok, rfl⟩
  unfold g110 at H
  clear hok
  have hfin := fin_st H
  repeat refine mf2_LiftB2 ?_
  first | exact trivial | exact rfl

/-- placard/placardref02.in -/
noncomputable def g108 (a0 : List (Int × Int)) (a1 : Int) : Option (Bool) :=
  jn (α := _) (β := Unit) (fun k235 =>
      (loopO (σ := Int) (ρ := (Unit) ⊕ (Unit)) (fun s238 =>
          if s238 < ((a0.length : Nat) : Int) then
            (
              ck (0 ≤ s238 ∧ s238 < ((a0.length : Nat) : Int)) <|
              if ((a0.getD s238.toNat default).1) ≤ a1 then
                (
                  ck (0 ≤ s238 ∧ s238 < ((a0.length : Nat) : Int)) <|
                  if a1 ≤ ((a0.getD s238.toNat default).2) then
                    some (.out (.inl (())))
                  else
                    (
                      ck (inR .i64 (s238 + 1)) <|
                      some (.go (s238 + 1))
                    )
                )
              else
                (
                  ck (inR .i64 (s238 + 1)) <|
                  some (.go (s238 + 1))
                )
            )
          else
            some (.out (.inr (())))
        ) 0).bind fun o254 =>
      sm o254 (fun o262 =>
          some true
        ) (fun o263 =>
          k235 ()
        )
  ) (fun v234 =>
    some false
  )
noncomputable def k108 : Eng.CS := { f := 108, calm := true, more := 0, ι := (List (Int × Int)) × Int × Bool, ok := fun i => g108 i.1 i.2.1 = some i.2.2, rds := fun _ => [], args := fun i => [.sl 2 i.1.length (ec c135 i.1), .w (.v (.int .i32 (i.2.1)))], res := fun i => bS i.2.2 }
set_option maxRecDepth 8000 in
set_option maxHeartbeats 4000000 in
theorem k108_ok : CalmOk Try.prog k108 := by
  refine R.calmspec Try.func108 nm108 rfl ?_
  rintro ⟨a0, a1, r⟩ hok q _ args hargs
  match args, hargs with
  | [_, _], hargs =>
  obtain ⟨⟨A0, cp0, rfl, hc0, _, hR0⟩, rfl, _⟩ := hargs
  refine ⟨envC [] false [(108, 6)], 6, envC_ok (css_nil), rfl, (by intro x hx; simp only [List.mem_cons, List.not_mem_nil, or_false] at hx; rcases hx with rfl | rfl <;> rfl), ?_⟩
  have H : Gives (g108 a0 a1) (fun a => a = r) := ⟨r, hok, rfl⟩
  unfold g108 at H
  clear hok
  refine R.cut_fam H 8 [] [] (fun v234 => []) (fun v234 => []) [] 0 (fun H => ?_)
  refine And.intro ?_ ?_
  · refine R.loop_fam (bind_st H) [0, 1] [] (fun _ s238 => [(5, .v (.int .i64 (s238)))]) (fun _ s238 => []) 0 (fun n264 H => ?_)
    refine ⟨(n264, _), ⟨H⟩, ⟨trivial⟩, ?_⟩
    repeat refine mo2_LiftB2 ?_
    rintro ⟨m0, s238⟩ H _
    obtain ⟨m239, hm0, H⟩ := IG_succ H
    dsimp only at hm0
    subst hm0
    try dsimp only at H
    refine if_st H (fun h255 H => ?_) (fun h255 H => ?_)
    · refine ob_ix hR0 (fun h => ec0 c135_len (by decide) h) H fun h256 H => ?_
      refine ld_int (e := (a0.getD s238.toNat default).1) (rd_get hR0 ((ec_get (i := s238.toNat) (o := 0) c135_len (tn h256) (by decide)).trans rfl)) ?_
      refine if_st H (fun h257 H => ?_) (fun h257 H => ?_)
      · refine ob_ix hR0 (fun h => ec0 c135_len (by decide) h) H fun h258 H => ?_
        refine ld_int (e := (a0.getD s238.toNat default).2) (rd_get hR0 ((ec_get (i := s238.toNat) (o := 1) c135_len (tn h258) (by decide)).trans rfl)) ?_
        refine if_st H (fun h259 H => ?_) (fun h259 H => ?_)
        · replace H := some_st H
          dsimp only [stp, sm] at H
          have hfin := fin_st H
          repeat refine mf2_LiftB2 ?_
          first | exact trivial | exact rfl
        · refine ob_ck H fun h260 H => ?_
          replace H := some_st H
          refine ⟨(m239, s238 + 1), ⟨H, Nat.lt_succ_self _⟩, ⟨trivial⟩, ⟨rfl⟩, ?_⟩
          repeat refine mo2_LiftB2 ?_
          first | exact trivial | exact rfl
      · refine ob_ck H fun h261 H => ?_
        replace H := some_st H
        refine ⟨(m239, s238 + 1), ⟨H, Nat.lt_succ_self _⟩, ⟨trivial⟩, ⟨rfl⟩, ?_⟩
        repeat refine mo2_LiftB2 ?_
        first | exact trivial | exact rfl
    · replace H := some_st H
      dsimp only [stp, sm] at H
      refine ⟨(), ⟨H⟩, ⟨rfl⟩, ?_⟩
      repeat refine mo2_LiftB2 ?_
      first | exact trivial | exact rfl
  · intro v234 H
    have hfin := fin_st H
    repeat refine mf2_LiftB2 ?_
    first | exact trivial | exact rfl

/-- placard/placardref02.Is -/
noncomputable def g87 (a0 : Int) : Option (Bool) :=
  if 0 ≤ a0 then
    (
      if a0 ≤ 1114111 then
        (
          if 55296 ≤ a0 then
            some (decide (¬ (a0 ≤ 57343)))
          else
            some true
        )
      else
        some false
    )
  else
    some false
noncomputable def k87 : Eng.CS := { f := 87, calm := true, more := 0, ι := Int × Bool, ok := fun i => g87 i.1 = some i.2, rds := fun _ => [], args := fun i => [.w (.v (.int .i32 (i.1)))], res := fun i => bS i.2 }
set_option maxRecDepth 8000 in
set_option maxHeartbeats 4000000 in
theorem k87_ok : CalmOk Try.prog k87 := by
  refine R.calmspec Try.func87 nm87 rfl ?_
  rintro ⟨a0, r⟩ hok q _ args hargs
  match args, hargs with
  | [_], hargs =>
  obtain ⟨rfl, _⟩ := hargs
  refine ⟨envC [] false [], 6, envC_ok (css_nil), rfl, (by intro x hx; simp only [List.mem_cons, List.not_mem_nil, or_false] at hx; rcases hx with rfl <;> rfl), ?_⟩
  have H : Gives (g87 a0) (fun a => a = r) := ⟨r, hok, rfl⟩
  unfold g87 at H
  clear hok
  refine if_st H (fun h265 H => ?_) (fun h265 H => ?_)
  · refine if_st H (fun h266 H => ?_) (fun h266 H => ?_)
    · refine if_st H (fun h267 H => ?_) (fun h267 H => ?_)
      · have hfin := fin_st H
        repeat refine mf2_LiftB2 ?_
        first | exact trivial | exact rfl
      · have hfin := fin_st H
        repeat refine mf2_LiftB2 ?_
        first | exact trivial | exact rfl
    · have hfin := fin_st H
      repeat refine mf2_LiftB2 ?_
      first | exact trivial | exact rfl
  · have hfin := fin_st H
    repeat refine mf2_LiftB2 ?_
    first | exact trivial | exact rfl

/-- placard/placardref02.Control -/
noncomputable def g88 (a0 : Int) : Option (Bool) :=
  if 0 ≤ a0 then
    (
      if a0 ≤ 31 then
        some true
      else
        (
          if 127 ≤ a0 then
            some (decide (a0 ≤ 159))
          else
            some false
        )
    )
  else
    (
      if 127 ≤ a0 then
        some (decide (a0 ≤ 159))
      else
        some false
    )
noncomputable def k88 : Eng.CS := { f := 88, calm := true, more := 0, ι := Int × Bool, ok := fun i => g88 i.1 = some i.2, rds := fun _ => [], args := fun i => [.w (.v (.int .i32 (i.1)))], res := fun i => bS i.2 }
set_option maxRecDepth 8000 in
set_option maxHeartbeats 4000000 in
theorem k88_ok : CalmOk Try.prog k88 := by
  refine R.calmspec Try.func88 nm88 rfl ?_
  rintro ⟨a0, r⟩ hok q _ args hargs
  match args, hargs with
  | [_], hargs =>
  obtain ⟨rfl, _⟩ := hargs
  refine ⟨envC [] false [], 6, envC_ok (css_nil), rfl, (by intro x hx; simp only [List.mem_cons, List.not_mem_nil, or_false] at hx; rcases hx with rfl <;> rfl), ?_⟩
  have H : Gives (g88 a0) (fun a => a = r) := ⟨r, hok, rfl⟩
  unfold g88 at H
  clear hok
  refine if_st H (fun h268 H => ?_) (fun h268 H => ?_)
  · refine if_st H (fun h269 H => ?_) (fun h269 H => ?_)
    · have hfin := fin_st H
      repeat refine mf2_LiftB2 ?_
      first | exact trivial | exact rfl
    · refine if_st H (fun h270 H => ?_) (fun h270 H => ?_)
      · have hfin := fin_st H
        repeat refine mf2_LiftB2 ?_
        first | exact trivial | exact rfl
      · have hfin := fin_st H
        repeat refine mf2_LiftB2 ?_
        first | exact trivial | exact rfl
  · refine if_st H (fun h271 H => ?_) (fun h271 H => ?_)
    · have hfin := fin_st H
      repeat refine mf2_LiftB2 ?_
      first | exact trivial | exact rfl
    · have hfin := fin_st H
      repeat refine mf2_LiftB2 ?_
      first | exact trivial | exact rfl

/-- placard/placardref02.Mark -/
noncomputable def g89 (a0 : Int) : Option (Bool) :=
  (g109).bind fun v272 =>
  (g108 v272 a0).bind fun v274 =>
  some v274
noncomputable def k89 : Eng.CS := { f := 89, calm := true, more := 0, ι := Int × Bool, ok := fun i => g89 i.1 = some i.2, rds := fun _ => [], args := fun i => [.w (.v (.int .i32 (i.1)))], res := fun i => bS i.2 }
set_option maxRecDepth 8000 in
set_option maxHeartbeats 4000000 in
theorem k89_ok : CalmOk Try.prog k89 := by
  refine R.calmspec Try.func89 nm89 rfl ?_
  rintro ⟨a0, r⟩ hok q _ args hargs
  match args, hargs with
  | [_], hargs =>
  obtain ⟨rfl, _⟩ := hargs
  refine ⟨envC [k108, k109] false [], 6, envC_ok (css_cons ⟨fun _ => k108_ok, fun h => (by cases h)⟩ (css_cons ⟨fun h => (by cases h), fun _ => k109_ok⟩ (css_nil))), rfl, (by intro x hx; simp only [List.mem_cons, List.not_mem_nil, or_false] at hx; rcases hx with rfl <;> rfl), ?_⟩
  have H : Gives (g89 a0) (fun a => a = r) := ⟨r, hok, rfl⟩
  unfold g89 at H
  clear hok
  obtain ⟨v272, hv273, H⟩ := call_st H
  refine ⟨v272, ⟨hv273⟩, ⟨trivial⟩, ?_⟩
  obtain ⟨v274, hv275, H⟩ := call_st H
  refine ⟨(v272, a0, v274), ⟨hv275⟩, ⟨trivial⟩, ?_⟩
  refine And.intro ⟨by first | rfl | (simp; done), by first | rfl | (simp [ei, eb, es, ec, c135]; done) | (simp only [ei, eb, es, ec, c135, List.map_append, List.nil_append, List.append_assoc]; rfl)⟩ ?_
  refine And.intro ⟨rfl⟩ ?_
  have hfin := fin_st H
  repeat refine mf2_LiftB2 ?_
  first | exact trivial | exact rfl

/-- placard/placardref02.Wide -/
noncomputable def g90 (a0 : Int) : Option (Bool) :=
  (g89 a0).bind fun v276 =>
  if ¬ (v276 = true) then
    (
      (g110).bind fun v279 =>
      (g108 v279 a0).bind fun v281 =>
      some v281
    )
  else
    some false
noncomputable def k90 : Eng.CS := { f := 90, calm := true, more := 0, ι := Int × Bool, ok := fun i => g90 i.1 = some i.2, rds := fun _ => [], args := fun i => [.w (.v (.int .i32 (i.1)))], res := fun i => bS i.2 }
set_option maxRecDepth 8000 in
set_option maxHeartbeats 4000000 in
theorem k90_ok : CalmOk Try.prog k90 := by
  refine R.calmspec Try.func90 nm90 rfl ?_
  rintro ⟨a0, r⟩ hok q _ args hargs
  match args, hargs with
  | [_], hargs =>
  obtain ⟨rfl, _⟩ := hargs
  refine ⟨envC [k89, k108, k110] false [], 6, envC_ok (css_cons ⟨fun _ => k89_ok, fun h => (by cases h)⟩ (css_cons ⟨fun _ => k108_ok, fun h => (by cases h)⟩ (css_cons ⟨fun h => (by cases h), fun _ => k110_ok⟩ (css_nil)))), rfl, (by intro x hx; simp only [List.mem_cons, List.not_mem_nil, or_false] at hx; rcases hx with rfl <;> rfl), ?_⟩
  have H : Gives (g90 a0) (fun a => a = r) := ⟨r, hok, rfl⟩
  unfold g90 at H
  clear hok
  obtain ⟨v276, hv277, H⟩ := call_st H
  refine ⟨(a0, v276), ⟨hv277⟩, ⟨trivial⟩, ?_⟩
  refine And.intro ⟨rfl⟩ ?_
  refine if_st H (fun h278 H => ?_) (fun h278 H => ?_)
  · obtain ⟨v279, hv280, H⟩ := call_st H
    refine ⟨v279, ⟨hv280⟩, ⟨trivial⟩, ?_⟩
    obtain ⟨v281, hv282, H⟩ := call_st H
    refine ⟨(v279, a0, v281), ⟨hv282⟩, ⟨trivial⟩, ?_⟩
    refine And.intro ⟨by first | rfl | (simp; done), by first | rfl | (simp [ei, eb, es, ec, c135]; done) | (simp only [ei, eb, es, ec, c135, List.map_append, List.nil_append, List.append_assoc]; rfl)⟩ ?_
    refine And.intro ⟨rfl⟩ ?_
    have hfin := fin_st H
    repeat refine mf2_LiftB2 ?_
    first | exact trivial | exact rfl
  · have hfin := fin_st H
    repeat refine mf2_LiftB2 ?_
    first | exact trivial | exact rfl

/-- placard/placardref02.Of -/
noncomputable def g52 (a0 : Int) : Option (Int) :=
  (g87 a0).bind fun v300 =>
  if ¬ (v300 = true) then
    some 0
  else
    (
      (g88 a0).bind fun v303 =>
      if v303 = true then
        some 0
      else
        (
          (g89 a0).bind fun v306 =>
          if v306 = true then
            some 0
          else
            (
              (g90 a0).bind fun v312 =>
              if v312 = true then
                some 2
              else
                some 1
            )
        )
    )
noncomputable def k52 : Eng.CS := { f := 52, calm := true, more := 0, ι := Int × Int, ok := fun i => g52 i.1 = some i.2, rds := fun _ => [], args := fun i => [.w (.v (.int .i32 (i.1)))], res := fun i => .v (.int .i64 (i.2)) }
set_option maxRecDepth 8000 in
set_option maxHeartbeats 4000000 in
theorem k52_ok : CalmOk Try.prog k52 := by
  refine R.calmspec Try.func52 nm52 rfl ?_
  rintro ⟨a0, r⟩ hok q _ args hargs
  match args, hargs with
  | [_], hargs =>
  obtain ⟨rfl, _⟩ := hargs
  refine ⟨envC [k87, k88, k89, k90] false [], 6, envC_ok (css_cons ⟨fun _ => k87_ok, fun h => (by cases h)⟩ (css_cons ⟨fun _ => k88_ok, fun h => (by cases h)⟩ (css_cons ⟨fun _ => k89_ok, fun h => (by cases h)⟩ (css_cons ⟨fun _ => k90_ok, fun h => (by cases h)⟩ (css_nil))))), rfl, (by intro x hx; simp only [List.mem_cons, List.not_mem_nil, or_false] at hx; rcases hx with rfl <;> rfl), ?_⟩
  have H : Gives (g52 a0) (fun a => a = r) := ⟨r, hok, rfl⟩
  unfold g52 at H
  clear hok
  obtain ⟨v300, hv301, H⟩ := call_st H
  refine ⟨(a0, v300), ⟨hv301⟩, ⟨trivial⟩, ?_⟩
  refine And.intro ⟨rfl⟩ ?_
  refine if_st H (fun h302 H => ?_) (fun h302 H => ?_)
  · have hfin := fin_st H
    repeat refine mf2_LiftB2 ?_
    first | exact trivial | exact rfl
  · obtain ⟨v303, hv304, H⟩ := call_st H
    refine ⟨(a0, v303), ⟨hv304⟩, ⟨trivial⟩, ?_⟩
    refine And.intro ⟨rfl⟩ ?_
    refine if_st H (fun h305 H => ?_) (fun h305 H => ?_)
    · have hfin := fin_st H
      repeat refine mf2_LiftB2 ?_
      first | exact trivial | exact rfl
    · obtain ⟨v306, hv307, H⟩ := call_st H
      refine ⟨(a0, v306), ⟨hv307⟩, ⟨trivial⟩, ?_⟩
      refine And.intro ⟨rfl⟩ ?_
      refine if_st H (fun h308 H => ?_) (fun h308 H => ?_)
      · have hfin := fin_st H
        repeat refine mf2_LiftB2 ?_
        first | exact trivial | exact rfl
      · obtain ⟨v312, hv313, H⟩ := call_st H
        refine ⟨(a0, v312), ⟨hv313⟩, ⟨trivial⟩, ?_⟩
        refine And.intro ⟨rfl⟩ ?_
        refine if_st H (fun h314 H => ?_) (fun h314 H => ?_)
        · have hfin := fin_st H
          repeat refine mf2_LiftB2 ?_
          first | exact trivial | exact rfl
        · have hfin := fin_st H
          repeat refine mf2_LiftB2 ?_
          first | exact trivial | exact rfl

/-- placard/placardref03.control -/
noncomputable def g91 (a0 : Int) : Option (Bool) :=
  if 0 ≤ a0 then
    (
      if a0 ≤ 31 then
        some true
      else
        (
          if 127 ≤ a0 then
            some (decide (a0 ≤ 159))
          else
            some false
        )
    )
  else
    (
      if 127 ≤ a0 then
        some (decide (a0 ≤ 159))
      else
        some false
    )
noncomputable def k91 : Eng.CS := { f := 91, calm := true, more := 0, ι := Int × Bool, ok := fun i => g91 i.1 = some i.2, rds := fun _ => [], args := fun i => [.w (.v (.int .i32 (i.1)))], res := fun i => bS i.2 }
set_option maxRecDepth 8000 in
set_option maxHeartbeats 4000000 in
theorem k91_ok : CalmOk Try.prog k91 := by
  refine R.calmspec Try.func91 nm91 rfl ?_
  rintro ⟨a0, r⟩ hok q _ args hargs
  match args, hargs with
  | [_], hargs =>
  obtain ⟨rfl, _⟩ := hargs
  refine ⟨envC [] false [], 6, envC_ok (css_nil), rfl, (by intro x hx; simp only [List.mem_cons, List.not_mem_nil, or_false] at hx; rcases hx with rfl <;> rfl), ?_⟩
  have H : Gives (g91 a0) (fun a => a = r) := ⟨r, hok, rfl⟩
  unfold g91 at H
  clear hok
  refine if_st H (fun h315 H => ?_) (fun h315 H => ?_)
  · refine if_st H (fun h316 H => ?_) (fun h316 H => ?_)
    · have hfin := fin_st H
      repeat refine mf2_LiftB2 ?_
      first | exact trivial | exact rfl
    · refine if_st H (fun h317 H => ?_) (fun h317 H => ?_)
      · have hfin := fin_st H
        repeat refine mf2_LiftB2 ?_
        first | exact trivial | exact rfl
      · have hfin := fin_st H
        repeat refine mf2_LiftB2 ?_
        first | exact trivial | exact rfl
  · refine if_st H (fun h318 H => ?_) (fun h318 H => ?_)
    · have hfin := fin_st H
      repeat refine mf2_LiftB2 ?_
      first | exact trivial | exact rfl
    · have hfin := fin_st H
      repeat refine mf2_LiftB2 ?_
      first | exact trivial | exact rfl

/-- placard/placardref03.Mark -/
noncomputable def g53 (a0 : Int) : Option (Bool) :=
  (g52 a0).bind fun v319 =>
  if v319 = 0 then
    (
      (g85 a0).bind fun v322 =>
      if v322 = true then
        (
          (g91 a0).bind fun v325 =>
          some (decide (¬ (v325 = true)))
        )
      else
        some false
    )
  else
    some false
noncomputable def k53 : Eng.CS := { f := 53, calm := true, more := 0, ι := Int × Bool, ok := fun i => g53 i.1 = some i.2, rds := fun _ => [], args := fun i => [.w (.v (.int .i32 (i.1)))], res := fun i => bS i.2 }
set_option maxRecDepth 8000 in
set_option maxHeartbeats 4000000 in
theorem k53_ok : CalmOk Try.prog k53 := by
  refine R.calmspec Try.func53 nm53 rfl ?_
  rintro ⟨a0, r⟩ hok q _ args hargs
  match args, hargs with
  | [_], hargs =>
  obtain ⟨rfl, _⟩ := hargs
  refine ⟨envC [k52, k85, k91] false [], 6, envC_ok (css_cons ⟨fun _ => k52_ok, fun h => (by cases h)⟩ (css_cons ⟨fun _ => k85_ok, fun h => (by cases h)⟩ (css_cons ⟨fun _ => k91_ok, fun h => (by cases h)⟩ (css_nil)))), rfl, (by intro x hx; simp only [List.mem_cons, List.not_mem_nil, or_false] at hx; rcases hx with rfl <;> rfl), ?_⟩
  have H : Gives (g53 a0) (fun a => a = r) := ⟨r, hok, rfl⟩
  unfold g53 at H
  clear hok
  obtain ⟨v319, hv320, H⟩ := call_st H
  refine ⟨(a0, v319), ⟨hv320⟩, ⟨trivial⟩, ?_⟩
  refine And.intro ⟨rfl⟩ ?_
  refine if_st H (fun h321 H => ?_) (fun h321 H => ?_)
  · obtain ⟨v322, hv323, H⟩ := call_st H
    refine ⟨(a0, v322), ⟨hv323⟩, ⟨trivial⟩, ?_⟩
    refine And.intro ⟨rfl⟩ ?_
    refine if_st H (fun h324 H => ?_) (fun h324 H => ?_)
    · obtain ⟨v325, hv326, H⟩ := call_st H
      refine ⟨(a0, v325), ⟨hv326⟩, ⟨trivial⟩, ?_⟩
      refine And.intro ⟨rfl⟩ ?_
      have hfin := fin_st H
      repeat refine mf2_LiftB2 ?_
      first | exact trivial | exact rfl
    · have hfin := fin_st H
      repeat refine mf2_LiftB2 ?_
      first | exact trivial | exact rfl
  · have hfin := fin_st H
    repeat refine mf2_LiftB2 ?_
    first | exact trivial | exact rfl

/-- placard/placardref03.Cut -/
noncomputable def g15 (a0 : ByteArray) : Option (List ByteArray) :=
  ck (a0.size ≤ 140737488355328) <|
  (g50 (bytesOf a0)).bind fun v336 =>
  jn (α := _) (β := List ByteArray) (fun k465 =>
      (loopO (σ := List ByteArray × Int) (ρ := List ByteArray) (fun s468 =>
          if s468.2 < ((v336.1.length : Nat) : Int) then
            (
              ck (0 ≤ s468.2 ∧ s468.2 < ((v336.1.length : Nat) : Int)) <|
              (g51 (v336.1.getD s468.2.toNat 0)).bind fun v532 =>
              ck (isBytes v532) <|
              ck (inR .i64 (((s468.1.length : Nat) : Int) - 1)) <|
              ck (0 ≤ s468.2 ∧ s468.2 < ((v336.1.length : Nat) : Int)) <|
              (g52 (v336.1.getD s468.2.toNat 0)).bind fun v537 =>
              if 0 < v537 then
                (
                  ck ((s468.1.length + 1) * 16 ≤ 140737488355328) <|
                  ck (inR .i64 (s468.2 + 1)) <|
                  some (.go ((s468.1 ++ [strOf v532]), s468.2 + 1))
                )
              else
                (
                  ck (0 ≤ s468.2 ∧ s468.2 < ((v336.1.length : Nat) : Int)) <|
                  (g53 (v336.1.getD s468.2.toNat 0)).bind fun v547 =>
                  if v547 = true then
                    (
                      if 0 ≤ (((s468.1.length : Nat) : Int) - 1) then
                        (
                          ck (0 ≤ ((s468.1.length : Nat) : Int) - 1 ∧ ((s468.1.length : Nat) : Int) - 1 < ((s468.1.length : Nat) : Int)) <|
                          ck (inR .i64 (((s468.1.getD (((s468.1.length : Nat) : Int) - 1).toNat default).size : Int) + ((strOf v532).size : Int))) <|
                          if (((s468.1.getD (((s468.1.length : Nat) : Int) - 1).toNat default).size : Int) + ((strOf v532).size : Int)) ≤ 64 then
                            (
                              ck (0 ≤ ((s468.1.length : Nat) : Int) - 1 ∧ ((s468.1.length : Nat) : Int) - 1 < ((s468.1.length : Nat) : Int)) <|
                              ck ((s468.1.getD (((s468.1.length : Nat) : Int) - 1).toNat default).size + (strOf v532).size ≤ 9223372036854775807) <|
                              ck (0 ≤ ((s468.1.length : Nat) : Int) - 1 ∧ ((s468.1.length : Nat) : Int) - 1 < ((s468.1.length : Nat) : Int)) <|
                              ck (inR .i64 (s468.2 + 1)) <|
                              some (.go ((s468.1.set (((s468.1.length : Nat) : Int) - 1).toNat ((s468.1.getD (((s468.1.length : Nat) : Int) - 1).toNat default) ++ (strOf v532))), s468.2 + 1))
                            )
                          else
                            (
                              ck (inR .i64 (s468.2 + 1)) <|
                              some (.go (s468.1, s468.2 + 1))
                            )
                        )
                      else
                        (
                          ck (inR .i64 (s468.2 + 1)) <|
                          some (.go (s468.1, s468.2 + 1))
                        )
                    )
                  else
                    (
                      ck (inR .i64 (s468.2 + 1)) <|
                      some (.go (s468.1, s468.2 + 1))
                    )
                )
            )
          else
            some (.out s468.1)
        ) ([], 0)).bind fun o529 =>
        k465 o529
  ) (fun v464 =>
    some v464
  )
noncomputable def k15 : Eng.CS := { f := 15, calm := false, more := 1, ι := ByteArray × List ByteArray, ok := fun i => g15 i.1 = some i.2, rds := fun _ => [], args := fun i => [.w (.v (.string (i.1)))], res := fun i => .own 0, L' := fun i => [(0, .arr 9 1 i.2.length (es i.2))], rn := [(0, 0, 9, 1)] }
set_option maxRecDepth 8000 in
set_option maxHeartbeats 4000000 in
theorem k15_ok : CSOk Try.prog k15 := by
  refine R.cspec Try.func15 nm15 rfl ?_
  rintro ⟨a0, r⟩ hok q _ args hargs
  match args, hargs with
  | [_], hargs =>
  obtain ⟨rfl, _⟩ := hargs
  refine ⟨envC [k50, k51, k52, k53] false [(15, 12)], 6, envC_ok (css_cons ⟨fun h => (by cases h), fun _ => k50_ok⟩ (css_cons ⟨fun h => (by cases h), fun _ => k51_ok⟩ (css_cons ⟨fun _ => k52_ok, fun h => (by cases h)⟩ (css_cons ⟨fun _ => k53_ok, fun h => (by cases h)⟩ (css_nil))))), ?_⟩
  have H : Gives (g15 a0) (fun a => a = r) := ⟨r, hok, rfl⟩
  unfold g15 at H
  clear hok
  refine ob_sb H fun h332 H q333 A327 c328 hq329 hc330 hR331 => ?_
  intro n334 hn335
  obtain rfl : n334 = (bytesOf a0).length := hn335.trans (bytesOf_len a0).symm
  obtain ⟨v336, hv337, H⟩ := call_st H
  refine ⟨(bytesOf a0, v336), ⟨hv337⟩, ⟨trivial⟩, ?_⟩
  refine And.intro ⟨rfl, (Nat.le_trans (Nat.le_of_eq (bytesOf_len a0)) hc330), ei_len.trans ((show _ = _ from rfl).trans (Nat.mul_one _).symm), hR331⟩ ?_
  refine R.cut_fam H 22 [] [] (fun v464 => [(3, .own 22)]) (fun v464 => [(22, .arr 9 1 (v464.length) (es (v464)))]) [(10, .arr 21 1 (v336.1.length) (ei .i32 (v336.1))), (11, .arr 3 1 (v336.2.length) (ei .i64 (v336.2)))] 1 (fun H => ?_)
  refine And.intro ?_ ?_
  · refine R.loop_fam (bind_st H) [4] [(3, 0, 9, 1)] (fun _ s468 => [(3, .own 14), (6, .v (.int .i64 (s468.2)))]) (fun _ s468 => [(14, .arr 9 1 (s468.1.length) (es (s468.1)))]) 1 (fun n566 H => ?_)
    refine ⟨(n566, _), ⟨H⟩, ⟨trivial⟩, ?_⟩
    repeat refine mo2_LiftB2 ?_
    rintro ⟨m0, s468⟩ H _
    obtain ⟨m469, hm0, H⟩ := IG_succ H
    dsimp only at hm0
    subst hm0
    try dsimp only at H
    refine if_st H (fun h530 H => ?_) (fun h530 H => ?_)
    · refine ob_ck H fun h531 H => ?_
      refine ld_int (e := v336.1.getD s468.2.toNat 0) (own_get (ys := ei .i32 v336.1) (by first | rfl | simp [ei, eb, es, ec, c135]) (ei_get (l := v336.1) (by first | exact tn h531 | (have := tn h531; simp at this ⊢; omega) | (have := tn h531; simp; omega)))) ?_
      obtain ⟨v532, hv533, H⟩ := call_st H
      refine ⟨(v336.1.getD s468.2.toNat 0, v532), ⟨hv533⟩, ⟨trivial⟩, ?_⟩
      refine And.intro ⟨rfl⟩ ?_
      refine ob_str (l := v532) H fun h534 H => ?_
      refine ob_ck H fun h535 H => ?_
      refine ob_ck H fun h536 H => ?_
      refine ld_int (e := v336.1.getD s468.2.toNat 0) (own_get (ys := ei .i32 v336.1) (by first | rfl | simp [ei, eb, es, ec, c135]) (ei_get (l := v336.1) (by first | exact tn h536 | (have := tn h536; simp at this ⊢; omega) | (have := tn h536; simp; omega)))) ?_
      obtain ⟨v537, hv538, H⟩ := call_st H
      refine ⟨(v336.1.getD s468.2.toNat 0, v537), ⟨hv538⟩, ⟨trivial⟩, ?_⟩
      refine And.intro ⟨rfl⟩ ?_
      refine if_st H (fun h539 H => ?_) (fun h539 H => ?_)
      · refine ob_app (by decide) (by first | exact es_one | ((repeat (refine List.forall_mem_cons.2 ⟨rfl, ?_⟩)); intro y hy; cases hy; done) | (intro y hy; simp [ei, eb, es, ec, c135] at hy; (first | (rcases hy with rfl | hy) | subst hy | skip); all_goals first | rfl | simp_all [Value.oneCell'])) H fun h540 H => ?_
        intro n541 zs543 hn542 hz544
        obtain rfl : n541 = (s468.1 ++ [strOf v532]).length := hn542.trans (by first | exact List.length_append.symm | (simp; done) | (simp; omega))
        obtain rfl : zs543 = es (s468.1 ++ [strOf v532]) := by first | exact hz544.trans (es_app (xs := s468.1) (ys := ([strOf v532]))).symm | (rw [hz544, es_vw]; first | exact es_app.symm | exact (es_app (xs := s468.1)).symm) | (rw [hz544]; simp [ei, eb, es, ec, c135])
        refine ob_ck H fun h545 H => ?_
        replace H := some_st H
        refine ⟨(m469, ((s468.1 ++ [strOf v532]), s468.2 + 1)), ⟨H, Nat.lt_succ_self _⟩, ⟨trivial⟩, ⟨rfl⟩, ?_⟩
        repeat refine mo2_LiftB2 ?_
        first | exact trivial | exact rfl
      · refine ob_ck H fun h546 H => ?_
        refine ld_int (e := v336.1.getD s468.2.toNat 0) (own_get (ys := ei .i32 v336.1) (by first | rfl | simp [ei, eb, es, ec, c135]) (ei_get (l := v336.1) (by first | exact tn h546 | (have := tn h546; simp at this ⊢; omega) | (have := tn h546; simp; omega)))) ?_
        obtain ⟨v547, hv548, H⟩ := call_st H
        refine ⟨(v336.1.getD s468.2.toNat 0, v547), ⟨hv548⟩, ⟨trivial⟩, ?_⟩
        refine And.intro ⟨rfl⟩ ?_
        refine if_st H (fun h549 H => ?_) (fun h549 H => ?_)
        · refine if_st H (fun h550 H => ?_) (fun h550 H => ?_)
          · refine ob_ck H fun h551 H => ?_
            refine ld_str (e := s468.1.getD (((s468.1.length : Nat) : Int) - 1).toNat default) (own_get (ys := es s468.1) (by first | rfl | simp [ei, eb, es, ec, c135]) (es_get (l := s468.1) (by first | exact tn h551 | (have := tn h551; simp at this ⊢; omega) | (have := tn h551; simp; omega)))) ?_
            refine ob_ck H fun h552 H => ?_
            refine if_st H (fun h553 H => ?_) (fun h553 H => ?_)
            · refine ob_ck H fun h554 H => ?_
              refine ld_str (e := s468.1.getD (((s468.1.length : Nat) : Int) - 1).toNat default) (own_get (ys := es s468.1) (by first | rfl | simp [ei, eb, es, ec, c135]) (es_get (l := s468.1) (by first | exact tn h554 | (have := tn h554; simp at this ⊢; omega) | (have := tn h554; simp; omega)))) ?_
              refine ob_ck H fun h555 H => ?_
              refine ob_ck H fun h556 H => ?_
              refine And.intro ⟨by first | (have := tn h556; simp [ei, eb, es, ec, c135] at this ⊢; omega) | (have := tn h556; simp [ei, eb, es, ec, c135]; omega)⟩ ?_
              intro n557 zs559 hn558 hz560
              subst hn558
              have hl561 : (s468.1.set (((s468.1.length : Nat) : Int) - 1).toNat ((s468.1.getD (((s468.1.length : Nat) : Int) - 1).toNat default) ++ (strOf v532))).length = s468.1.length := List.length_set
              obtain rfl : zs559 = es (s468.1.set (((s468.1.length : Nat) : Int) - 1).toNat ((s468.1.getD (((s468.1.length : Nat) : Int) - 1).toNat default) ++ (strOf v532))) := hz560.trans es_set.symm
              refine ob_ck H fun h562 H => ?_
              replace H := some_st H
              refine ⟨(m469, ((s468.1.set (((s468.1.length : Nat) : Int) - 1).toNat ((s468.1.getD (((s468.1.length : Nat) : Int) - 1).toNat default) ++ (strOf v532))), s468.2 + 1)), ⟨H, Nat.lt_succ_self _⟩, ⟨trivial⟩, ⟨rfl⟩, ?_⟩
              repeat refine mo2_LiftB2 ?_
              first | exact trivial | exact rfl
            · refine ob_ck H fun h563 H => ?_
              replace H := some_st H
              refine ⟨(m469, (s468.1, s468.2 + 1)), ⟨H, Nat.lt_succ_self _⟩, ⟨trivial⟩, ⟨rfl⟩, ?_⟩
              repeat refine mo2_LiftB2 ?_
              first | exact trivial | exact rfl
          · refine ob_ck H fun h564 H => ?_
            replace H := some_st H
            refine ⟨(m469, (s468.1, s468.2 + 1)), ⟨H, Nat.lt_succ_self _⟩, ⟨trivial⟩, ⟨rfl⟩, ?_⟩
            repeat refine mo2_LiftB2 ?_
            first | exact trivial | exact rfl
        · refine ob_ck H fun h565 H => ?_
          replace H := some_st H
          refine ⟨(m469, (s468.1, s468.2 + 1)), ⟨H, Nat.lt_succ_self _⟩, ⟨trivial⟩, ⟨rfl⟩, ?_⟩
          repeat refine mo2_LiftB2 ?_
          first | exact trivial | exact rfl
    · replace H := some_st H
      dsimp only [stp, sm] at H
      refine ⟨s468.1, ⟨H⟩, ⟨rfl⟩, ?_⟩
      repeat refine mo2_LiftB2 ?_
      first | exact trivial | exact rfl
  · intro v464 H
    have hfin := fin_st H
    repeat refine mf2_LiftB2 ?_
    first | exact trivial | exact rfl

/-- placard/placardref03.SameAll -/
noncomputable def g14 (a0 : List ByteArray) (a1 : List ByteArray) : Option (Bool) :=
  if ¬ ((a0.length : Nat) : Int) = ((a1.length : Nat) : Int) then
    some false
  else
    (
      jn (α := _) (β := Unit) (fun k597 =>
          (loopO (σ := Int) (ρ := (Unit) ⊕ (Unit)) (fun s600 =>
              if s600 < ((a0.length : Nat) : Int) then
                (
                  ck (0 ≤ s600 ∧ s600 < ((a0.length : Nat) : Int)) <|
                  ck (0 ≤ s600 ∧ s600 < ((a1.length : Nat) : Int)) <|
                  if ¬ ((a0.getD s600.toNat default).data.toList = (a1.getD s600.toNat default).data.toList) then
                    some (.out (.inl (())))
                  else
                    (
                      ck (inR .i64 (s600 + 1)) <|
                      some (.go (s600 + 1))
                    )
                )
              else
                some (.out (.inr (())))
            ) 0).bind fun o612 =>
          sm o612 (fun o618 =>
              some false
            ) (fun o619 =>
              k597 ()
            )
      ) (fun v596 =>
        some true
      )
    )
noncomputable def k14 : Eng.CS := { f := 14, calm := true, more := 0, ι := (List ByteArray) × (List ByteArray) × Bool, ok := fun i => g14 i.1 i.2.1 = some i.2.2, rds := fun _ => [], args := fun i => [.sl 1 i.1.length (es i.1), .sl 1 i.2.1.length (es i.2.1)], res := fun i => bS i.2.2 }
set_option maxRecDepth 8000 in
set_option maxHeartbeats 4000000 in
theorem k14_ok : CalmOk Try.prog k14 := by
  refine R.calmspec Try.func14 nm14 rfl ?_
  rintro ⟨a0, a1, r⟩ hok q _ args hargs
  match args, hargs with
  | [_, _], hargs =>
  obtain ⟨⟨A0, cp0, rfl, hc0, _, hR0⟩, ⟨A1, cp1, rfl, hc1, _, hR1⟩, _⟩ := hargs
  refine ⟨envC [] false [(14, 8)], 6, envC_ok (css_nil), rfl, (by intro x hx; simp only [List.mem_cons, List.not_mem_nil, or_false] at hx; rcases hx with rfl | rfl <;> rfl), ?_⟩
  have H : Gives (g14 a0 a1) (fun a => a = r) := ⟨r, hok, rfl⟩
  unfold g14 at H
  clear hok
  refine if_st H (fun h568 H => ?_) (fun h568 H => ?_)
  · have hfin := fin_st H
    repeat refine mf2_LiftB2 ?_
    first | exact trivial | exact rfl
  · refine R.cut_fam H 13 [] [] (fun v596 => []) (fun v596 => []) [] 0 (fun H => ?_)
    refine And.intro ?_ ?_
    · refine R.loop_fam (bind_st H) [0, 1] [] (fun _ s600 => [(5, .v (.int .i64 (s600)))]) (fun _ s600 => []) 0 (fun n620 H => ?_)
      refine ⟨(n620, _), ⟨H⟩, ⟨trivial⟩, ?_⟩
      repeat refine mo2_LiftB2 ?_
      rintro ⟨m0, s600⟩ H _
      obtain ⟨m601, hm0, H⟩ := IG_succ H
      dsimp only at hm0
      subst hm0
      try dsimp only at H
      refine if_st H (fun h613 H => ?_) (fun h613 H => ?_)
      · refine And.intro ⟨by kernel_rfl⟩ ?_
        refine ob_ix hR0 (fun h => es0 h) H fun h614 H => ?_
        refine ld_str (e := a0.getD s600.toNat default) (rd_get hR0 (es_get (l := a0) (tn h614))) ?_
        refine ob_ix hR1 (fun h => es0 h) H fun h615 H => ?_
        refine ld_str (e := a1.getD s600.toNat default) (rd_get hR1 (es_get (l := a1) (tn h615))) ?_
        refine if_st H (fun h616 H => ?_) (fun h616 H => ?_)
        · replace H := some_st H
          dsimp only [stp, sm] at H
          have hfin := fin_st H
          repeat refine mf2_LiftB2 ?_
          first | exact trivial | exact rfl
        · refine ob_ck H fun h617 H => ?_
          replace H := some_st H
          refine ⟨(m601, s600 + 1), ⟨H, Nat.lt_succ_self _⟩, ⟨trivial⟩, ⟨rfl⟩, ?_⟩
          repeat refine mo2_LiftB2 ?_
          first | exact trivial | exact rfl
      · replace H := some_st H
        dsimp only [stp, sm] at H
        refine ⟨(), ⟨H⟩, ⟨rfl⟩, ?_⟩
        repeat refine mo2_LiftB2 ?_
        first | exact trivial | exact rfl
    · intro v596 H
      have hfin := fin_st H
      repeat refine mf2_LiftB2 ?_
      first | exact trivial | exact rfl

/-- placard/width.marks -/
noncomputable def g132  : Option (List Int) :=
  some ([768, 879, 1155, 1161, 1425, 1469, 1471, 1471, 1473, 1474, 1476, 1477, 1479, 1479, 1552, 1562, 1611, 1631, 1648, 1648, 1750, 1756, 1759, 1764, 1767, 1768, 1770, 1773, 3633, 3633, 3636, 3642, 3655, 3662, 6832, 6911, 7616, 7679, 8203, 8207, 8288, 8292, 8400, 8432, 12330, 12333, 12441, 12442, 65024, 65039, 65056, 65071, 65279, 65279, 917760, 917999])
noncomputable def k132 : Eng.CS := { f := 132, calm := false, more := 1, ι := List Int, ok := fun i => g132  = some i, rds := fun _ => [], args := fun i => [], res := fun i => .own 0, L' := fun i => [(0, .arr 21 1 i.length (ei .i32 i))], rn := [(0, 0, 21, 1)] }
set_option maxRecDepth 60000 in
set_option maxHeartbeats 4000000 in
theorem k132_ok : CSOk Try.prog k132 := by
  refine R.cspec Try.func132 nm132 rfl ?_
  rintro r hok q _ args hargs
  match args, hargs with
  | [], hargs =>
  refine ⟨envC [] false [], 6, envC_ok (css_nil), ?_⟩
  have H : Gives (g132 ) (fun a => a = r) := ⟨r, hok, rfl⟩
  unfold g132 at H
  clear hok
  have hfin := fin_st H
  repeat refine mf2_LiftB2 ?_
  first | exact trivial | exact rfl

/-- placard/width.wides -/
noncomputable def g127  : Option (List Int) :=
  some ([4352, 4447, 8986, 8987, 9001, 9002, 9193, 9196, 9200, 9200, 9203, 9203, 9725, 9726, 9748, 9749, 9800, 9811, 9855, 9855, 9875, 9875, 9889, 9889, 9898, 9899, 9917, 9918, 9924, 9925, 9934, 9934, 9940, 9940, 9962, 9962, 9970, 9971, 9973, 9973, 9978, 9978, 9981, 9981, 9989, 9989, 9994, 9995, 10024, 10024, 10060, 10060, 10062, 10062, 10067, 10069, 10071, 10071, 10133, 10135, 10160, 10160, 10175, 10175, 11035, 11036, 11088, 11088, 11093, 11093, 11904, 12350, 12353, 19903, 19968, 42191, 43360, 43391, 44032, 55203, 63744, 64255, 65040, 65049, 65072, 65135, 65281, 65376, 65504, 65510, 127744, 128591, 128640, 128767, 129280, 129535, 129648, 129791, 131072, 196605, 196608, 262141])
noncomputable def k127 : Eng.CS := { f := 127, calm := false, more := 1, ι := List Int, ok := fun i => g127  = some i, rds := fun _ => [], args := fun i => [], res := fun i => .own 0, L' := fun i => [(0, .arr 21 1 i.length (ei .i32 i))], rn := [(0, 0, 21, 1)] }
set_option maxRecDepth 60000 in
set_option maxHeartbeats 4000000 in
theorem k127_ok : CSOk Try.prog k127 := by
  refine R.cspec Try.func127 nm127 rfl ?_
  rintro r hok q _ args hargs
  match args, hargs with
  | [], hargs =>
  refine ⟨envC [] false [], 6, envC_ok (css_nil), ?_⟩
  have H : Gives (g127 ) (fun a => a = r) := ⟨r, hok, rfl⟩
  unfold g127 at H
  clear hok
  have hfin := fin_st H
  repeat refine mf2_LiftB2 ?_
  first | exact trivial | exact rfl

/-- placard/width.Control -/
noncomputable def g98 (a0 : Int) : Option (Bool) :=
  if 0 ≤ a0 then
    (
      if a0 ≤ 31 then
        some true
      else
        (
          if 127 ≤ a0 then
            some (decide (a0 ≤ 159))
          else
            some false
        )
    )
  else
    (
      if 127 ≤ a0 then
        some (decide (a0 ≤ 159))
      else
        some false
    )
noncomputable def k98 : Eng.CS := { f := 98, calm := true, more := 0, ι := Int × Bool, ok := fun i => g98 i.1 = some i.2, rds := fun _ => [], args := fun i => [.w (.v (.int .i32 (i.1)))], res := fun i => bS i.2 }
set_option maxRecDepth 8000 in
set_option maxHeartbeats 4000000 in
theorem k98_ok : CalmOk Try.prog k98 := by
  refine R.calmspec Try.func98 nm98 rfl ?_
  rintro ⟨a0, r⟩ hok q _ args hargs
  match args, hargs with
  | [_], hargs =>
  obtain ⟨rfl, _⟩ := hargs
  refine ⟨envC [] false [], 6, envC_ok (css_nil), rfl, (by intro x hx; simp only [List.mem_cons, List.not_mem_nil, or_false] at hx; rcases hx with rfl <;> rfl), ?_⟩
  have H : Gives (g98 a0) (fun a => a = r) := ⟨r, hok, rfl⟩
  unfold g98 at H
  clear hok
  refine if_st H (fun h621 H => ?_) (fun h621 H => ?_)
  · refine if_st H (fun h622 H => ?_) (fun h622 H => ?_)
    · have hfin := fin_st H
      repeat refine mf2_LiftB2 ?_
      first | exact trivial | exact rfl
    · refine if_st H (fun h623 H => ?_) (fun h623 H => ?_)
      · have hfin := fin_st H
        repeat refine mf2_LiftB2 ?_
        first | exact trivial | exact rfl
      · have hfin := fin_st H
        repeat refine mf2_LiftB2 ?_
        first | exact trivial | exact rfl
  · refine if_st H (fun h624 H => ?_) (fun h624 H => ?_)
    · have hfin := fin_st H
      repeat refine mf2_LiftB2 ?_
      first | exact trivial | exact rfl
    · have hfin := fin_st H
      repeat refine mf2_LiftB2 ?_
      first | exact trivial | exact rfl

/-- placard/width.is -/
noncomputable def g114 (a0 : Int) : Option (Bool) :=
  if 0 ≤ a0 then
    (
      if a0 ≤ 1114111 then
        (
          if a0 < 55296 then
            some true
          else
            some (decide (57343 < a0))
        )
      else
        some false
    )
  else
    some false
noncomputable def k114 : Eng.CS := { f := 114, calm := true, more := 0, ι := Int × Bool, ok := fun i => g114 i.1 = some i.2, rds := fun _ => [], args := fun i => [.w (.v (.int .i32 (i.1)))], res := fun i => bS i.2 }
set_option maxRecDepth 8000 in
set_option maxHeartbeats 4000000 in
theorem k114_ok : CalmOk Try.prog k114 := by
  refine R.calmspec Try.func114 nm114 rfl ?_
  rintro ⟨a0, r⟩ hok q _ args hargs
  match args, hargs with
  | [_], hargs =>
  obtain ⟨rfl, _⟩ := hargs
  refine ⟨envC [] false [], 6, envC_ok (css_nil), rfl, (by intro x hx; simp only [List.mem_cons, List.not_mem_nil, or_false] at hx; rcases hx with rfl <;> rfl), ?_⟩
  have H : Gives (g114 a0) (fun a => a = r) := ⟨r, hok, rfl⟩
  unfold g114 at H
  clear hok
  refine if_st H (fun h625 H => ?_) (fun h625 H => ?_)
  · refine if_st H (fun h626 H => ?_) (fun h626 H => ?_)
    · refine if_st H (fun h627 H => ?_) (fun h627 H => ?_)
      · have hfin := fin_st H
        repeat refine mf2_LiftB2 ?_
        first | exact trivial | exact rfl
      · have hfin := fin_st H
        repeat refine mf2_LiftB2 ?_
        first | exact trivial | exact rfl
    · have hfin := fin_st H
      repeat refine mf2_LiftB2 ?_
      first | exact trivial | exact rfl
  · have hfin := fin_st H
    repeat refine mf2_LiftB2 ?_
    first | exact trivial | exact rfl

/-- placard/width.Mark -/
noncomputable def g115 (a0 : Int) : Option (Bool) :=
  (g132).bind fun v628 =>
  jn (α := _) (β := Unit) (fun k671 =>
      (loopO (σ := Int) (ρ := (Bool) ⊕ (Unit)) (fun s674 =>
          ck (inR .i64 (s674 + 1)) <|
          if (s674 + 1) < ((v628.length : Nat) : Int) then
            (
              ck (0 ≤ s674 ∧ s674 < ((v628.length : Nat) : Int)) <|
              ck (inR .i64 (s674 + 1)) <|
              ck (0 ≤ s674 + 1 ∧ s674 + 1 < ((v628.length : Nat) : Int)) <|
              if a0 < (v628.getD s674.toNat 0) then
                some (.out (.inl (false)))
              else
                (
                  if a0 ≤ (v628.getD (s674 + 1).toNat 0) then
                    some (.out (.inl (true)))
                  else
                    (
                      ck (inR .i64 (s674 + 2)) <|
                      some (.go (s674 + 2))
                    )
                )
            )
          else
            some (.out (.inr (())))
        ) 0).bind fun o692 =>
      sm o692 (fun o701 =>
          some o701
        ) (fun o702 =>
          k671 ()
        )
  ) (fun v670 =>
    some false
  )
noncomputable def k115 : Eng.CS := { f := 115, calm := true, more := 0, ι := Int × Bool, ok := fun i => g115 i.1 = some i.2, rds := fun _ => [], args := fun i => [.w (.v (.int .i32 (i.1)))], res := fun i => bS i.2 }
set_option maxRecDepth 8000 in
set_option maxHeartbeats 4000000 in
theorem k115_ok : CalmOk Try.prog k115 := by
  refine R.calmspec Try.func115 nm115 rfl ?_
  rintro ⟨a0, r⟩ hok q _ args hargs
  match args, hargs with
  | [_], hargs =>
  obtain ⟨rfl, _⟩ := hargs
  refine ⟨envC [k132] false [(116, 8)], 6, envC_ok (css_cons ⟨fun h => (by cases h), fun _ => k132_ok⟩ (css_nil)), rfl, (by intro x hx; simp only [List.mem_cons, List.not_mem_nil, or_false] at hx; rcases hx with rfl <;> rfl), ?_⟩
  have H : Gives (g115 a0) (fun a => a = r) := ⟨r, hok, rfl⟩
  unfold g115 at H
  clear hok
  obtain ⟨v628, hv629, H⟩ := call_st H
  refine ⟨v628, ⟨hv629⟩, ⟨trivial⟩, ?_⟩
  refine R.cut_fam H 27 [4] [] (fun v670 => []) (fun v670 => []) [(9, .arr 21 1 (v628.length) (ei .i32 (v628))), (10, .cells 79 [.own 9]), (14, .cells 21 [.v (.int .i32 (a0))]), (15, .cells 4 [.bb false])] 0 (fun H => ?_)
  refine And.intro ?_ ?_
  · refine R.loop_fam (bind_st H) [0, 1] [] (fun _ s674 => [(3, .v (.int .i64 (s674)))]) (fun _ s674 => []) 0 (fun n703 H => ?_)
    refine ⟨(n703, _), ⟨H⟩, ⟨trivial⟩, ?_⟩
    repeat refine mo2_LiftB2 ?_
    rintro ⟨m0, s674⟩ H _
    obtain ⟨m675, hm0, H⟩ := IG_succ H
    dsimp only at hm0
    subst hm0
    try dsimp only at H
    refine ob_ck H fun h693 H => ?_
    refine if_st H (fun h694 H => ?_) (fun h694 H => ?_)
    · refine And.intro ⟨by kernel_rfl⟩ ?_
      refine ⟨(Pn.calm 0 (Pn.calm 1 (Pn.calm 2 (Pn.calm 3 (Pn.calm 4 (Pn.calm 5 (Pn.calm 6 (Pn.calm 7 (Pn.calm 8 (Pn.calm 9 (Pn.eff 10 [0, 4, 9, 3, 8, 1, 2, 5, 7, 6] (Pn.calm 11 Pn.done) Pn.no))))))))))), ⟨by kernel_rfl⟩, ?_⟩
      refine ob_ck H fun h695 H => ?_
      refine ld_int (e := v628.getD s674.toNat 0) (own_get (ys := ei .i32 v628) (by first | rfl | simp [ei, eb, es, ec, c135]) (ei_get (l := v628) (by first | exact tn h695 | (have := tn h695; simp at this ⊢; omega) | (have := tn h695; simp; omega)))) ?_
      refine ob_ck H fun h696 H => ?_
      refine ob_ck H fun h697 H => ?_
      refine ld_int (e := v628.getD (s674 + 1).toNat 0) (own_get (ys := ei .i32 v628) (by first | rfl | simp [ei, eb, es, ec, c135]) (ei_get (l := v628) (by first | exact tn h697 | (have := tn h697; simp at this ⊢; omega) | (have := tn h697; simp; omega)))) ?_
      refine And.intro ?_ trivial
      refine if_st H (fun h698 H => ?_) (fun h698 H => ?_)
      · refine And.intro ⟨fun _ _ _ h => h⟩ ?_
        replace H := some_st H
        dsimp only [stp, sm] at H
        have hfin := fin_st H
        repeat refine mf2_LiftB2 ?_
        first | exact trivial | exact rfl
      · refine if_st H (fun h699 H => ?_) (fun h699 H => ?_)
        · refine And.intro ⟨fun _ _ _ h => h⟩ ?_
          replace H := some_st H
          dsimp only [stp, sm] at H
          have hfin := fin_st H
          repeat refine mf2_LiftB2 ?_
          first | exact trivial | exact rfl
        · refine And.intro ⟨fun _ _ _ h => h⟩ ?_
          refine ob_ck H fun h700 H => ?_
          replace H := some_st H
          refine ⟨(m675, s674 + 2), ⟨H, Nat.lt_succ_self _⟩, ⟨trivial⟩, ⟨rfl⟩, ?_⟩
          repeat refine mo2_LiftB2 ?_
          first | exact trivial | exact rfl
    · replace H := some_st H
      dsimp only [stp, sm] at H
      refine ⟨(), ⟨H⟩, ⟨rfl⟩, ?_⟩
      repeat refine mo2_LiftB2 ?_
      first | exact trivial | exact rfl
  · intro v670 H
    have hfin := fin_st H
    repeat refine mf2_LiftB2 ?_
    first | exact trivial | exact rfl

/-- placard/width.Of -/
noncomputable def g96 (a0 : Int) : Option (Int) :=
  jn (α := _) (β := Bool) (fun k885 =>
      (g114 a0).bind fun v886 =>
      if ¬ (v886 = true) then
        k885 true
      else
        (
          (g98 a0).bind fun v889 =>
          if v889 = true then
            k885 true
          else
            (
              (g115 a0).bind fun v892 =>
              k885 v892
            )
        )
  ) (fun v884 =>
    if v884 = true then
      some 0
    else
      (
        (g127).bind fun v895 =>
        jn (α := _) (β := Unit) (fun k930 =>
            (loopO (σ := Int) (ρ := (Bool) ⊕ (Unit)) (fun s933 =>
                ck (inR .i64 (s933 + 1)) <|
                if (s933 + 1) < ((v895.length : Nat) : Int) then
                  (
                    ck (0 ≤ s933 ∧ s933 < ((v895.length : Nat) : Int)) <|
                    ck (inR .i64 (s933 + 1)) <|
                    ck (0 ≤ s933 + 1 ∧ s933 + 1 < ((v895.length : Nat) : Int)) <|
                    if a0 < (v895.getD s933.toNat 0) then
                      some (.out (.inl (false)))
                    else
                      (
                        if a0 ≤ (v895.getD (s933 + 1).toNat 0) then
                          some (.out (.inl (true)))
                        else
                          (
                            ck (inR .i64 (s933 + 2)) <|
                            some (.go (s933 + 2))
                          )
                      )
                  )
                else
                  some (.out (.inr (())))
              ) 0).bind fun o951 =>
            sm o951 (fun o960 =>
                if o960 = true then
                  some 2
                else
                  some 1
              ) (fun o962 =>
                k930 ()
              )
        ) (fun v929 =>
          some 1
        )
      )
  )
noncomputable def k96 : Eng.CS := { f := 96, calm := true, more := 0, ι := Int × Int, ok := fun i => g96 i.1 = some i.2, rds := fun _ => [], args := fun i => [.w (.v (.int .i32 (i.1)))], res := fun i => .v (.int .i64 (i.2)) }
set_option maxRecDepth 8000 in
set_option maxHeartbeats 4000000 in
theorem k96_ok : CalmOk Try.prog k96 := by
  refine R.calmspec Try.func96 nm96 rfl ?_
  rintro ⟨a0, r⟩ hok q _ args hargs
  match args, hargs with
  | [_], hargs =>
  obtain ⟨rfl, _⟩ := hargs
  refine ⟨envC [k98, k114, k115, k127] false [(96, 2), (116, 8)], 6, envC_ok (css_cons ⟨fun _ => k98_ok, fun h => (by cases h)⟩ (css_cons ⟨fun _ => k114_ok, fun h => (by cases h)⟩ (css_cons ⟨fun _ => k115_ok, fun h => (by cases h)⟩ (css_cons ⟨fun h => (by cases h), fun _ => k127_ok⟩ (css_nil))))), rfl, (by intro x hx; simp only [List.mem_cons, List.not_mem_nil, or_false] at hx; rcases hx with rfl <;> rfl), ?_⟩
  have H : Gives (g96 a0) (fun a => a = r) := ⟨r, hok, rfl⟩
  unfold g96 at H
  clear hok
  refine R.cut_fam H 14 [0] [] (fun v884 => [(3, bS v884)]) (fun v884 => []) [] 0 (fun H => ?_)
  refine And.intro ?_ ?_
  · obtain ⟨v886, hv887, H⟩ := call_st H
    refine ⟨(a0, v886), ⟨hv887⟩, ⟨trivial⟩, ?_⟩
    refine And.intro ⟨rfl⟩ ?_
    refine if_st H (fun h888 H => ?_) (fun h888 H => ?_)
    · refine ⟨true, ⟨H⟩, ⟨rfl⟩, ?_⟩
      repeat refine mo2_LiftB2 ?_
      first | exact trivial | exact rfl
    · obtain ⟨v889, hv890, H⟩ := call_st H
      refine ⟨(a0, v889), ⟨hv890⟩, ⟨trivial⟩, ?_⟩
      refine And.intro ⟨rfl⟩ ?_
      refine if_st H (fun h891 H => ?_) (fun h891 H => ?_)
      · refine ⟨true, ⟨H⟩, ⟨rfl⟩, ?_⟩
        repeat refine mo2_LiftB2 ?_
        first | exact trivial | exact rfl
      · obtain ⟨v892, hv893, H⟩ := call_st H
        refine ⟨(a0, v892), ⟨hv893⟩, ⟨trivial⟩, ?_⟩
        refine And.intro ⟨rfl⟩ ?_
        refine ⟨v892, ⟨H⟩, ⟨rfl⟩, ?_⟩
        repeat refine mo2_LiftB2 ?_
        first | exact trivial | exact rfl
  · intro v884 H
    refine if_st H (fun h894 H => ?_) (fun h894 H => ?_)
    · have hfin := fin_st H
      repeat refine mf2_LiftB2 ?_
      first | exact trivial | exact rfl
    · obtain ⟨v895, hv896, H⟩ := call_st H
      refine ⟨v895, ⟨hv896⟩, ⟨trivial⟩, ?_⟩
      refine R.cut_fam H 40 [4] [] (fun v929 => []) (fun v929 => []) [(22, .arr 21 1 (v895.length) (ei .i32 (v895))), (23, .cells 79 [.own 22]), (27, .cells 21 [.v (.int .i32 (a0))]), (28, .cells 4 [.bb false])] 0 (fun H => ?_)
      refine And.intro ?_ ?_
      · refine R.loop_fam (bind_st H) [0, 1] [] (fun _ s933 => [(3, .v (.int .i64 (s933)))]) (fun _ s933 => []) 0 (fun n963 H => ?_)
        refine ⟨(n963, _), ⟨H⟩, ⟨trivial⟩, ?_⟩
        repeat refine mo2_LiftB2 ?_
        rintro ⟨m0, s933⟩ H _
        obtain ⟨m934, hm0, H⟩ := IG_succ H
        dsimp only at hm0
        subst hm0
        try dsimp only at H
        refine ob_ck H fun h952 H => ?_
        refine if_st H (fun h953 H => ?_) (fun h953 H => ?_)
        · refine And.intro ⟨by kernel_rfl⟩ ?_
          refine ⟨(Pn.calm 0 (Pn.calm 1 (Pn.calm 2 (Pn.calm 3 (Pn.calm 4 (Pn.calm 5 (Pn.calm 6 (Pn.calm 7 (Pn.calm 8 (Pn.calm 9 (Pn.eff 10 [0, 4, 9, 3, 8, 1, 2, 5, 7, 6] (Pn.calm 11 Pn.done) Pn.no))))))))))), ⟨by kernel_rfl⟩, ?_⟩
          refine ob_ck H fun h954 H => ?_
          refine ld_int (e := v895.getD s933.toNat 0) (own_get (ys := ei .i32 v895) (by first | rfl | simp [ei, eb, es, ec, c135]) (ei_get (l := v895) (by first | exact tn h954 | (have := tn h954; simp at this ⊢; omega) | (have := tn h954; simp; omega)))) ?_
          refine ob_ck H fun h955 H => ?_
          refine ob_ck H fun h956 H => ?_
          refine ld_int (e := v895.getD (s933 + 1).toNat 0) (own_get (ys := ei .i32 v895) (by first | rfl | simp [ei, eb, es, ec, c135]) (ei_get (l := v895) (by first | exact tn h956 | (have := tn h956; simp at this ⊢; omega) | (have := tn h956; simp; omega)))) ?_
          refine And.intro ?_ trivial
          refine if_st H (fun h957 H => ?_) (fun h957 H => ?_)
          · refine And.intro ⟨fun _ _ _ h => h⟩ ?_
            replace H := some_st H
            dsimp only [stp, sm] at H
            have hfin := fin_st H
            repeat refine mf2_LiftB2 ?_
            first | exact trivial | exact rfl
          · refine if_st H (fun h958 H => ?_) (fun h958 H => ?_)
            · refine And.intro ⟨fun _ _ _ h => h⟩ ?_
              replace H := some_st H
              dsimp only [stp, sm] at H
              have hfin := fin_st H
              repeat refine mf2_LiftB2 ?_
              first | exact trivial | exact rfl
            · refine And.intro ⟨fun _ _ _ h => h⟩ ?_
              refine ob_ck H fun h959 H => ?_
              replace H := some_st H
              refine ⟨(m934, s933 + 2), ⟨H, Nat.lt_succ_self _⟩, ⟨trivial⟩, ⟨rfl⟩, ?_⟩
              repeat refine mo2_LiftB2 ?_
              first | exact trivial | exact rfl
        · replace H := some_st H
          dsimp only [stp, sm] at H
          refine ⟨(), ⟨H⟩, ⟨rfl⟩, ?_⟩
          repeat refine mo2_LiftB2 ?_
          first | exact trivial | exact rfl
      · intro v929 H
        have hfin := fin_st H
        repeat refine mf2_LiftB2 ?_
        first | exact trivial | exact rfl

/-- placard/cluster.isMark -/
noncomputable def g118 (a0 : Int) : Option (Bool) :=
  (g96 a0).bind fun v975 =>
  if ¬ v975 = 0 then
    some false
  else
    (
      (g98 a0).bind fun v978 =>
      if v978 = true then
        some false
      else
        (
          if 0 ≤ a0 then
            (
              if a0 ≤ 1114111 then
                (
                  if a0 < 55296 then
                    some true
                  else
                    some (decide (57343 < a0))
                )
              else
                some false
            )
          else
            some false
        )
    )
noncomputable def k118 : Eng.CS := { f := 118, calm := true, more := 0, ι := Int × Bool, ok := fun i => g118 i.1 = some i.2, rds := fun _ => [], args := fun i => [.w (.v (.int .i32 (i.1)))], res := fun i => bS i.2 }
set_option maxRecDepth 8000 in
set_option maxHeartbeats 4000000 in
theorem k118_ok : CalmOk Try.prog k118 := by
  refine R.calmspec Try.func118 nm118 rfl ?_
  rintro ⟨a0, r⟩ hok q _ args hargs
  match args, hargs with
  | [_], hargs =>
  obtain ⟨rfl, _⟩ := hargs
  refine ⟨envC [k96, k98] false [], 6, envC_ok (css_cons ⟨fun _ => k96_ok, fun h => (by cases h)⟩ (css_cons ⟨fun _ => k98_ok, fun h => (by cases h)⟩ (css_nil))), rfl, (by intro x hx; simp only [List.mem_cons, List.not_mem_nil, or_false] at hx; rcases hx with rfl <;> rfl), ?_⟩
  have H : Gives (g118 a0) (fun a => a = r) := ⟨r, hok, rfl⟩
  unfold g118 at H
  clear hok
  obtain ⟨v975, hv976, H⟩ := call_st H
  refine ⟨(a0, v975), ⟨hv976⟩, ⟨trivial⟩, ?_⟩
  refine And.intro ⟨rfl⟩ ?_
  refine if_st H (fun h977 H => ?_) (fun h977 H => ?_)
  · have hfin := fin_st H
    repeat refine mf2_LiftB2 ?_
    first | exact trivial | exact rfl
  · obtain ⟨v978, hv979, H⟩ := call_st H
    refine ⟨(a0, v978), ⟨hv979⟩, ⟨trivial⟩, ?_⟩
    refine And.intro ⟨rfl⟩ ?_
    refine if_st H (fun h980 H => ?_) (fun h980 H => ?_)
    · have hfin := fin_st H
      repeat refine mf2_LiftB2 ?_
      first | exact trivial | exact rfl
    · refine if_st H (fun h981 H => ?_) (fun h981 H => ?_)
      · refine if_st H (fun h982 H => ?_) (fun h982 H => ?_)
        · refine if_st H (fun h983 H => ?_) (fun h983 H => ?_)
          · have hfin := fin_st H
            repeat refine mf2_LiftB2 ?_
            first | exact trivial | exact rfl
          · have hfin := fin_st H
            repeat refine mf2_LiftB2 ?_
            first | exact trivial | exact rfl
        · have hfin := fin_st H
          repeat refine mf2_LiftB2 ?_
          first | exact trivial | exact rfl
      · have hfin := fin_st H
        repeat refine mf2_LiftB2 ?_
        first | exact trivial | exact rfl

/-- placard/cluster.isBase -/
noncomputable def g120 (a0 : Int) : Option (Bool) :=
  (g96 a0).bind fun v984 =>
  some (decide (0 < v984))
noncomputable def k120 : Eng.CS := { f := 120, calm := true, more := 0, ι := Int × Bool, ok := fun i => g120 i.1 = some i.2, rds := fun _ => [], args := fun i => [.w (.v (.int .i32 (i.1)))], res := fun i => bS i.2 }
set_option maxRecDepth 8000 in
set_option maxHeartbeats 4000000 in
theorem k120_ok : CalmOk Try.prog k120 := by
  refine R.calmspec Try.func120 nm120 rfl ?_
  rintro ⟨a0, r⟩ hok q _ args hargs
  match args, hargs with
  | [_], hargs =>
  obtain ⟨rfl, _⟩ := hargs
  refine ⟨envC [k96] false [], 6, envC_ok (css_cons ⟨fun _ => k96_ok, fun h => (by cases h)⟩ (css_nil)), rfl, (by intro x hx; simp only [List.mem_cons, List.not_mem_nil, or_false] at hx; rcases hx with rfl <;> rfl), ?_⟩
  have H : Gives (g120 a0) (fun a => a = r) := ⟨r, hok, rfl⟩
  unfold g120 at H
  clear hok
  obtain ⟨v984, hv985, H⟩ := call_st H
  refine ⟨(a0, v984), ⟨hv985⟩, ⟨trivial⟩, ?_⟩
  refine And.intro ⟨rfl⟩ ?_
  have hfin := fin_st H
  repeat refine mf2_LiftB2 ?_
  first | exact trivial | exact rfl

end Go.Proofs.Ytenjkphlbdhaiaa
