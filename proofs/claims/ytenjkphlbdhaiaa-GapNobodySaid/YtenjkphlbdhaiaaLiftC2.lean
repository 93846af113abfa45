/-
  Functions of the program, lifted: each with its walk. Printed by lift.py.
  Nothing here is trusted.
-/
import Derived.Test.YtenjkphlbdhaiaaLiftC1
set_option linter.unusedVariables false
set_option linter.unusedSimpArgs false
namespace Go.Proofs.Ytenjkphlbdhaiaa
open Go Go.Eng

theorem mo1_LiftC2 {p q : Prop} (k : q) (h : p := by first | exact rfl | exact Iff.rfl | exact ⟨rfl, rfl⟩ | exact decide_eq_true_iff | (constructor <;> first | exact rfl | (simp only [ei, eb, es, ec, c135, gmin, gmax, List.map_append, List.flatMap_append, List.nil_append, List.append_nil, List.append_assoc]; done) | omega | (simp only [List.nil_append, List.length_append, List.length_cons, List.length_nil]; omega) | (simp [ei, eb, es, ec, c135, gmin, gmax]; done)) | exact rfl | (simp only [ei, eb, es, ec, c135, gmin, gmax, List.map_append, List.flatMap_append, List.nil_append, List.append_nil, List.append_assoc]; done) | omega | (simp only [List.nil_append, List.length_append, List.length_cons, List.length_nil]; omega) | (simp [ei, eb, es, ec, c135, gmin, gmax]; done) | simp [ei, eb, es, ec, c135, gmin, gmax]) : Ob p ∧ q := ⟨⟨h⟩, k⟩
theorem mf1_LiftC2 {p q : Prop} (k : q) (h : p := by first | (rw [← hfin] <;> first | exact rfl | exact Iff.rfl | exact ⟨rfl, rfl⟩ | exact decide_eq_true_iff | (constructor <;> first | exact rfl | (simp only [ei, eb, es, ec, c135, gmin, gmax, List.map_append, List.flatMap_append, List.nil_append, List.append_nil, List.append_assoc]; done) | omega | (simp only [List.nil_append, List.length_append, List.length_cons, List.length_nil]; omega) | (simp [ei, eb, es, ec, c135, gmin, gmax]; done)) | exact rfl | (simp only [ei, eb, es, ec, c135, gmin, gmax, List.map_append, List.flatMap_append, List.nil_append, List.append_nil, List.append_assoc]; done) | omega | (simp only [List.nil_append, List.length_append, List.length_cons, List.length_nil]; omega) | (simp [ei, eb, es, ec, c135, gmin, gmax]; done) | simp [ei, eb, es, ec, c135, gmin, gmax]) | first | exact rfl | exact Iff.rfl | exact ⟨rfl, rfl⟩ | exact decide_eq_true_iff | (constructor <;> first | exact rfl | (simp only [ei, eb, es, ec, c135, gmin, gmax, List.map_append, List.flatMap_append, List.nil_append, List.append_nil, List.append_assoc]; done) | omega | (simp only [List.nil_append, List.length_append, List.length_cons, List.length_nil]; omega) | (simp [ei, eb, es, ec, c135, gmin, gmax]; done)) | exact rfl | (simp only [ei, eb, es, ec, c135, gmin, gmax, List.map_append, List.flatMap_append, List.nil_append, List.append_nil, List.append_assoc]; done) | omega | (simp only [List.nil_append, List.length_append, List.length_cons, List.length_nil]; omega) | (simp [ei, eb, es, ec, c135, gmin, gmax]; done) | simp [ei, eb, es, ec, c135, gmin, gmax]) : Ob p ∧ q := ⟨⟨h⟩, k⟩
/-- placard/cluster.columnsOf -/
noncomputable def g94 (a0 : ByteArray) : Option (Int) :=
  jn (α := _) (β := Unit) (fun k56 =>
      ck (a0.size ≤ 140737488355328) <|
      (loopO (σ := Unit) (ρ := (Int) ⊕ (Unit)) (fun s68 =>
          if 0 < (((bytesOf a0).length : Nat) : Int) then
            (
              ck (0 ≤ (0 : Int) ∧ (0 : Int) ≤ (((bytesOf a0).length : Nat) : Int) ∧ (((bytesOf a0).length : Nat) : Int) ≤ (((bytesOf a0).length : Nat) : Int)) <|
              (g131 (((bytesOf a0).drop (0 : Int).toNat).take ((((bytesOf a0).length : Nat) : Int).toNat - (0 : Int).toNat))).bind fun v88 =>
              if v88.2.2 = true then
                (
                  (g96 65533).bind fun v91 =>
                  some (.out (.inl (v91)))
                )
              else
                (
                  (g96 v88.1).bind fun v93 =>
                  some (.out (.inl (v93)))
                )
            )
          else
            some (.out (.inr (())))
        ) ()).bind fun o82 =>
      sm o82 (fun o95 =>
          some o95
        ) (fun o96 =>
          k56 ()
        )
  ) (fun v55 =>
    some 0
  )
noncomputable def k94 : Eng.CS := { f := 94, calm := true, more := 0, ι := ByteArray × Int, ok := fun i => g94 i.1 = some i.2, rds := fun _ => [], args := fun i => [.w (.v (.string (i.1)))], res := fun i => .v (.int .i64 (i.2)) }
set_option maxRecDepth 8000 in
set_option maxHeartbeats 4000000 in
theorem k94_ok : CalmOk Try.prog k94 := by
  refine R.calmspec Try.func94 nm94 rfl ?_
  rintro ⟨a0, r⟩ hok q _ args hargs
  match args, hargs with
  | [_], hargs =>
  obtain ⟨rfl, _⟩ := hargs
  refine ⟨envC [k96, k131] false [(94, 4)], 6, envC_ok (css_cons ⟨fun _ => k96_ok, fun h => (by cases h)⟩ (css_cons ⟨fun _ => k131_ok, fun h => (by cases h)⟩ (css_nil))), rfl, (by intro x hx; simp only [List.mem_cons, List.not_mem_nil, or_false] at hx; rcases hx with rfl <;> rfl), ?_⟩
  have H : Gives (g94 a0) (fun a => a = r) := ⟨r, hok, rfl⟩
  unfold g94 at H
  clear hok
  refine R.cut_famG H 21 [2] [] [] (fun v55 => []) (fun v55 => []) [(0, .cells 3 [.v (.int .i64 (0))])] 0 (fun H => ?_)
  refine And.intro ?_ ?_
  · refine ob_sb H fun h62 H q63 A57 c58 hq59 hc60 hR61 => ?_
    intro n64 hn65
    obtain rfl : n64 = (bytesOf a0).length := hn65.trans (bytesOf_len a0).symm
    refine R.loop_fam (bind_st H) [0, 1, 3] [] (fun _ s68 => []) (fun _ s68 => []) 0 (fun n97 H => ?_)
    refine ⟨(n97, _), ⟨H⟩, ⟨trivial⟩, ?_⟩
    repeat refine mo1_LiftC2 ?_
    rintro ⟨m0, s68⟩ H _
    obtain ⟨m69, hm0, H⟩ := IG_succ H
    dsimp only at hm0
    subst hm0
    try dsimp only at H
    refine if_st H (fun h83 H => ?_) (fun h83 H => ?_)
    · refine ob_sl (Nat.le_trans (Nat.le_of_eq (bytesOf_len a0)) hc60) H fun h84 H => ?_
      have hs85 := sl_ei hR61 rfl (Nat.le_trans (Nat.le_of_eq (bytesOf_len a0)) hc60) h84
      intro n86 hn87
      obtain rfl : n86 = (((bytesOf a0).drop (0 : Int).toNat).take ((((bytesOf a0).length : Nat) : Int).toNat - (0 : Int).toNat)).length := hn87.trans hs85.2.1.symm
      obtain ⟨v88, hv89, H⟩ := call_st H
      refine ⟨((((bytesOf a0).drop (0 : Int).toNat).take ((((bytesOf a0).length : Nat) : Int).toNat - (0 : Int).toNat)), v88), ⟨hv89⟩, ⟨trivial⟩, ?_⟩
      refine And.intro ⟨rfl, (Nat.le_trans (Nat.le_of_eq hs85.2.1) hs85.2.2), ei_len.trans ((show _ = _ from rfl).trans (Nat.mul_one _).symm), hs85.1⟩ ?_
      refine if_st H (fun h90 H => ?_) (fun h90 H => ?_)
      · obtain ⟨v91, hv92, H⟩ := call_st H
        refine ⟨(65533, v91), ⟨hv92⟩, ⟨trivial⟩, ?_⟩
        refine And.intro ⟨rfl⟩ ?_
        replace H := some_st H
        dsimp only [stp, sm] at H
        have hfin := fin_st H
        repeat refine mf1_LiftC2 ?_
        first | exact trivial | exact rfl
      · obtain ⟨v93, hv94, H⟩ := call_st H
        refine ⟨(v88.1, v93), ⟨hv94⟩, ⟨trivial⟩, ?_⟩
        refine And.intro ⟨rfl⟩ ?_
        replace H := some_st H
        dsimp only [stp, sm] at H
        have hfin := fin_st H
        repeat refine mf1_LiftC2 ?_
        first | exact trivial | exact rfl
    · replace H := some_st H
      dsimp only [stp, sm] at H
      refine ⟨(), ⟨H⟩, ⟨fun _ _ _ h => (hq59 _ _ _ h)⟩, ?_⟩
      repeat refine mo1_LiftC2 ?_
      first | exact trivial | exact rfl
  · intro q54 hq53 v55 H
    have hfin := fin_st H
    repeat refine mf1_LiftC2 ?_
    first | exact trivial | exact rfl

/-- placard/cluster.Width -/
noncomputable def g63 (a0 : ByteArray) : Option (Int) :=
  jn (α := _) (β := Unit) (fun k123 =>
      (g67 a0).bind fun v124 =>
      (loopO (σ := Unit) (ρ := (Int) ⊕ (Unit)) (fun s128 =>
          if 0 < ((v124.length : Nat) : Int) then
            (
              ck (0 ≤ (0 : Int) ∧ 0 < ((v124.length : Nat) : Int)) <|
              (g94 (v124.getD (0 : Int).toNat default)).bind fun v137 =>
              some (.out (.inl (v137)))
            )
          else
            some (.out (.inr (())))
        ) ()).bind fun o134 =>
      sm o134 (fun o139 =>
          some o139
        ) (fun o140 =>
          k123 ()
        )
  ) (fun v122 =>
    some 0
  )
noncomputable def k63 : Eng.CS := { f := 63, calm := true, more := 0, ι := ByteArray × Int, ok := fun i => g63 i.1 = some i.2, rds := fun _ => [], args := fun i => [.w (.v (.string (i.1)))], res := fun i => .v (.int .i64 (i.2)) }
set_option maxRecDepth 8000 in
set_option maxHeartbeats 4000000 in
theorem k63_ok : CalmOk Try.prog k63 := by
  refine R.calmspec Try.func63 nm63 rfl ?_
  rintro ⟨a0, r⟩ hok q _ args hargs
  match args, hargs with
  | [_], hargs =>
  obtain ⟨rfl, _⟩ := hargs
  refine ⟨envC [k67, k94] false [(63, 4)], 6, envC_ok (css_cons ⟨fun h => (by cases h), fun _ => k67_ok⟩ (css_cons ⟨fun _ => k94_ok, fun h => (by cases h)⟩ (css_nil))), rfl, (by intro x hx; simp only [List.mem_cons, List.not_mem_nil, or_false] at hx; rcases hx with rfl <;> rfl), ?_⟩
  have H : Gives (g63 a0) (fun a => a = r) := ⟨r, hok, rfl⟩
  unfold g63 at H
  clear hok
  refine R.cut_fam H 18 [2] [] (fun v122 => []) (fun v122 => []) [(0, .cells 3 [.v (.int .i64 (0))])] 0 (fun H => ?_)
  refine And.intro ?_ ?_
  · obtain ⟨v124, hv125, H⟩ := call_st H
    refine ⟨(a0, v124), ⟨hv125⟩, ⟨trivial⟩, ?_⟩
    refine And.intro ⟨rfl⟩ ?_
    refine R.loop_fam (bind_st H) [0, 3, 7, 8, 9] [] (fun _ s128 => []) (fun _ s128 => []) 0 (fun n141 H => ?_)
    refine ⟨(n141, _), ⟨H⟩, ⟨trivial⟩, ?_⟩
    repeat refine mo1_LiftC2 ?_
    rintro ⟨m0, s128⟩ H _
    obtain ⟨m129, hm0, H⟩ := IG_succ H
    dsimp only at hm0
    subst hm0
    try dsimp only at H
    refine if_st H (fun h135 H => ?_) (fun h135 H => ?_)
    · refine ob_ck H fun h136 H => ?_
      refine ld_str (e := v124.getD (0 : Int).toNat default) (own_get (ys := es v124) (by first | rfl | simp [ei, eb, es, ec, c135]) (es_get (l := v124) (by first | exact tn h136 | (have := tn h136; simp at this ⊢; omega) | (have := tn h136; simp; omega)))) ?_
      obtain ⟨v137, hv138, H⟩ := call_st H
      refine ⟨(v124.getD (0 : Int).toNat default, v137), ⟨hv138⟩, ⟨trivial⟩, ?_⟩
      refine And.intro ⟨rfl⟩ ?_
      replace H := some_st H
      dsimp only [stp, sm] at H
      have hfin := fin_st H
      repeat refine mf1_LiftC2 ?_
      first | exact trivial | exact rfl
    · replace H := some_st H
      dsimp only [stp, sm] at H
      refine ⟨(), ⟨H⟩, ⟨rfl⟩, ?_⟩
      repeat refine mo1_LiftC2 ?_
      first | exact trivial | exact rfl
  · intro v122 H
    have hfin := fin_st H
    repeat refine mf1_LiftC2 ?_
    first | exact trivial | exact rfl

/-- placard/placardlaw12.few -/
noncomputable def g22 (a0 : List ByteArray) : Option (List ByteArray) :=
  jn (α := _) (β := List ByteArray) (fun k215 =>
      (loopO (σ := List ByteArray × Int) (ρ := List ByteArray) (fun s218 =>
          if s218.2 < ((a0.length : Nat) : Int) then
            (
              if s218.2 < 12 then
                (
                  ck (0 ≤ s218.2 ∧ s218.2 < ((a0.length : Nat) : Int)) <|
                  if 80 < ((a0.getD s218.2.toNat default).size : Int) then
                    (
                      ck (0 ≤ (0 : Int) ∧ (0 : Int) ≤ (80 : Int) ∧ (80 : Int) ≤ ((a0.getD s218.2.toNat default).size : Int)) <|
                      ck ((s218.1.length + 1) * 16 ≤ 140737488355328) <|
                      ck (inR .i64 (s218.2 + 1)) <|
                      some (.go ((s218.1 ++ [(a0.getD s218.2.toNat default).extract (0 : Int).toNat (80 : Int).toNat]), s218.2 + 1))
                    )
                  else
                    (
                      ck ((s218.1.length + 1) * 16 ≤ 140737488355328) <|
                      ck (inR .i64 (s218.2 + 1)) <|
                      some (.go ((s218.1 ++ [a0.getD s218.2.toNat default]), s218.2 + 1))
                    )
                )
              else
                some (.out s218.1)
            )
          else
            some (.out s218.1)
        ) ([], 0)).bind fun o253 =>
        k215 o253
  ) (fun v214 =>
    some v214
  )
noncomputable def k22 : Eng.CS := { f := 22, calm := false, more := 1, ι := (List ByteArray) × List ByteArray, ok := fun i => g22 i.1 = some i.2, rds := fun _ => [], args := fun i => [.sl 1 i.1.length (es i.1)], res := fun i => .own 0, L' := fun i => [(0, .arr 9 1 i.2.length (es i.2))], rn := [(0, 0, 9, 1)] }
set_option maxRecDepth 8000 in
set_option maxHeartbeats 4000000 in
theorem k22_ok : CSOk Try.prog k22 := by
  refine R.cspec Try.func22 nm22 rfl ?_
  rintro ⟨a0, r⟩ hok q _ args hargs
  match args, hargs with
  | [_], hargs =>
  obtain ⟨⟨A0, cp0, rfl, hc0, _, hR0⟩, _⟩ := hargs
  refine ⟨envC [] false [(22, 9)], 6, envC_ok (css_nil), ?_⟩
  have H : Gives (g22 a0) (fun a => a = r) := ⟨r, hok, rfl⟩
  unfold g22 at H
  clear hok
  refine R.cut_fam H 16 [] [] (fun v214 => [(3, .own 16)]) (fun v214 => [(16, .arr 9 1 (v214.length) (es (v214)))]) [] 1 (fun H => ?_)
  refine And.intro ?_ ?_
  · refine R.loop_fam (bind_st H) [0] [(3, 0, 9, 1)] (fun _ s218 => [(3, .own 4), (4, .v (.int .i64 (s218.2)))]) (fun _ s218 => [(4, .arr 9 1 (s218.1.length) (es (s218.1)))]) 1 (fun n271 H => ?_)
    refine ⟨(n271, _), ⟨H⟩, ⟨trivial⟩, ?_⟩
    repeat refine mo1_LiftC2 ?_
    rintro ⟨m0, s218⟩ H _
    obtain ⟨m219, hm0, H⟩ := IG_succ H
    dsimp only at hm0
    subst hm0
    try dsimp only at H
    refine if_st H (fun h254 H => ?_) (fun h254 H => ?_)
    · refine if_st H (fun h255 H => ?_) (fun h255 H => ?_)
      · refine ob_ix hR0 (fun h => es0 h) H fun h256 H => ?_
        refine ld_str (e := a0.getD s218.2.toNat default) (rd_get hR0 (es_get (l := a0) (tn h256))) ?_
        refine if_st H (fun h257 H => ?_) (fun h257 H => ?_)
        · refine ob_ck H fun h258 H => ?_
          refine ob_app (by decide) (by first | exact es_one | ((repeat (refine List.forall_mem_cons.2 ⟨rfl, ?_⟩)); intro y hy; cases hy; done) | (intro y hy; simp [ei, eb, es, ec, c135] at hy; (first | (rcases hy with rfl | hy) | subst hy | skip); all_goals first | rfl | simp_all [Value.oneCell'])) H fun h259 H => ?_
          intro n260 zs262 hn261 hz263
          obtain rfl : n260 = (s218.1 ++ [(a0.getD s218.2.toNat default).extract (0 : Int).toNat (80 : Int).toNat]).length := hn261.trans (by first | exact List.length_append.symm | (simp; done) | (simp; omega))
          obtain rfl : zs262 = es (s218.1 ++ [(a0.getD s218.2.toNat default).extract (0 : Int).toNat (80 : Int).toNat]) := by first | exact hz263.trans (es_app (xs := s218.1) (ys := ([(a0.getD s218.2.toNat default).extract (0 : Int).toNat (80 : Int).toNat]))).symm | (rw [hz263, es_vw]; first | exact es_app.symm | exact (es_app (xs := s218.1)).symm) | (rw [hz263]; simp [ei, eb, es, ec, c135])
          refine ob_ck H fun h264 H => ?_
          replace H := some_st H
          refine ⟨(m219, ((s218.1 ++ [(a0.getD s218.2.toNat default).extract (0 : Int).toNat (80 : Int).toNat]), s218.2 + 1)), ⟨H, Nat.lt_succ_self _⟩, ⟨trivial⟩, ⟨rfl⟩, ?_⟩
          repeat refine mo1_LiftC2 ?_
          first | exact trivial | exact rfl
        · refine ob_app (by decide) (by first | exact es_one | ((repeat (refine List.forall_mem_cons.2 ⟨rfl, ?_⟩)); intro y hy; cases hy; done) | (intro y hy; simp [ei, eb, es, ec, c135] at hy; (first | (rcases hy with rfl | hy) | subst hy | skip); all_goals first | rfl | simp_all [Value.oneCell'])) H fun h265 H => ?_
          intro n266 zs268 hn267 hz269
          obtain rfl : n266 = (s218.1 ++ [a0.getD s218.2.toNat default]).length := hn267.trans (by first | exact List.length_append.symm | (simp; done) | (simp; omega))
          obtain rfl : zs268 = es (s218.1 ++ [a0.getD s218.2.toNat default]) := by first | exact hz269.trans (es_app (xs := s218.1) (ys := ([a0.getD s218.2.toNat default]))).symm | (rw [hz269, es_vw]; first | exact es_app.symm | exact (es_app (xs := s218.1)).symm) | (rw [hz269]; simp [ei, eb, es, ec, c135])
          refine ob_ck H fun h270 H => ?_
          replace H := some_st H
          refine ⟨(m219, ((s218.1 ++ [a0.getD s218.2.toNat default]), s218.2 + 1)), ⟨H, Nat.lt_succ_self _⟩, ⟨trivial⟩, ⟨rfl⟩, ?_⟩
          repeat refine mo1_LiftC2 ?_
          first | exact trivial | exact rfl
      · replace H := some_st H
        dsimp only [stp, sm] at H
        refine ⟨s218.1, ⟨H⟩, ⟨rfl⟩, ?_⟩
        repeat refine mo1_LiftC2 ?_
        first | exact trivial | exact rfl
    · replace H := some_st H
      dsimp only [stp, sm] at H
      refine ⟨s218.1, ⟨H⟩, ⟨rfl⟩, ?_⟩
      repeat refine mo1_LiftC2 ?_
      first | exact trivial | exact rfl
  · intro v214 H
    have hfin := fin_st H
    repeat refine mf1_LiftC2 ?_
    first | exact trivial | exact rfl

end Go.Proofs.Ytenjkphlbdhaiaa
