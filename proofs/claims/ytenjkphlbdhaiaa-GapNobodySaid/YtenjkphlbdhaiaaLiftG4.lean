/-
  Functions of the program, lifted: each with its walk. Printed by lift.py.
  Nothing here is trusted.
-/
import Derived.Test.YtenjkphlbdhaiaaLiftC2
import Derived.Test.YtenjkphlbdhaiaaLiftG3
set_option linter.unusedVariables false
set_option linter.unusedSimpArgs false
namespace Go.Proofs.Ytenjkphlbdhaiaa
open Go Go.Eng

theorem mo1_LiftG4 {p q : Prop} (k : q) (h : p := by first | exact rfl | exact Iff.rfl | exact ⟨rfl, rfl⟩ | exact decide_eq_true_iff | (constructor <;> first | exact rfl | (simp only [ei, eb, es, ec, c135, gmin, gmax, List.map_append, List.flatMap_append, List.nil_append, List.append_nil, List.append_assoc]; done) | omega | (simp only [List.nil_append, List.length_append, List.length_cons, List.length_nil]; omega) | (simp [ei, eb, es, ec, c135, gmin, gmax]; done)) | exact rfl | (simp only [ei, eb, es, ec, c135, gmin, gmax, List.map_append, List.flatMap_append, List.nil_append, List.append_nil, List.append_assoc]; done) | omega | (simp only [List.nil_append, List.length_append, List.length_cons, List.length_nil]; omega) | (simp [ei, eb, es, ec, c135, gmin, gmax]; done) | simp [ei, eb, es, ec, c135, gmin, gmax]) : Ob p ∧ q := ⟨⟨h⟩, k⟩
theorem mf1_LiftG4 {p q : Prop} (k : q) (h : p := by first | (rw [← hfin] <;> first | exact rfl | exact Iff.rfl | exact ⟨rfl, rfl⟩ | exact decide_eq_true_iff | (constructor <;> first | exact rfl | (simp only [ei, eb, es, ec, c135, gmin, gmax, List.map_append, List.flatMap_append, List.nil_append, List.append_nil, List.append_assoc]; done) | omega | (simp only [List.nil_append, List.length_append, List.length_cons, List.length_nil]; omega) | (simp [ei, eb, es, ec, c135, gmin, gmax]; done)) | exact rfl | (simp only [ei, eb, es, ec, c135, gmin, gmax, List.map_append, List.flatMap_append, List.nil_append, List.append_nil, List.append_assoc]; done) | omega | (simp only [List.nil_append, List.length_append, List.length_cons, List.length_nil]; omega) | (simp [ei, eb, es, ec, c135, gmin, gmax]; done) | simp [ei, eb, es, ec, c135, gmin, gmax]) | first | exact rfl | exact Iff.rfl | exact ⟨rfl, rfl⟩ | exact decide_eq_true_iff | (constructor <;> first | exact rfl | (simp only [ei, eb, es, ec, c135, gmin, gmax, List.map_append, List.flatMap_append, List.nil_append, List.append_nil, List.append_assoc]; done) | omega | (simp only [List.nil_append, List.length_append, List.length_cons, List.length_nil]; omega) | (simp [ei, eb, es, ec, c135, gmin, gmax]; done)) | exact rfl | (simp only [ei, eb, es, ec, c135, gmin, gmax, List.map_append, List.flatMap_append, List.nil_append, List.append_nil, List.append_assoc]; done) | omega | (simp only [List.nil_append, List.length_append, List.length_cons, List.length_nil]; omega) | (simp [ei, eb, es, ec, c135, gmin, gmax]; done) | simp [ei, eb, es, ec, c135, gmin, gmax]) : Ob p ∧ q := ⟨⟨h⟩, k⟩
/-- (*placard/gap.Buffer).index -/
noncomputable def g62 (a0 : (Int × List ByteArray × Int × Int)) (a1 : Int) : Option (Int) :=
  if a1 < a0.2.2.1 then
    some a1
  else
    (
      ck (inR .i64 (a1 + a0.2.2.2)) <|
      ck (inR .i64 ((a1 + a0.2.2.2) - a0.2.2.1)) <|
      some ((a1 + a0.2.2.2) - a0.2.2.1)
    )
noncomputable def k62 : Eng.CS := { f := 62, calm := true, more := 0, ι := (Int × List ByteArray × Int × Int) × Int × Int, ok := fun i => g62 i.1 i.2.1 = some i.2.2, rds := fun _ => [], args := fun i => [.pt [.w (.int .i64 i.1.1), .row 1 i.1.2.1.length (es i.1.2.1), .w (.int .i64 i.1.2.2.1), .w (.int .i64 i.1.2.2.2)], .w (.v (.int .i64 (i.2.1)))], res := fun i => .v (.int .i64 (i.2.2)) }
set_option maxRecDepth 8000 in
set_option maxHeartbeats 4000000 in
theorem k62_ok : CalmOk Try.prog k62 := by
  refine R.calmspec Try.func62 nm62 rfl ?_
  rintro ⟨a0, a1, r⟩ hok q _ args hargs
  dsimp only [k62] at hargs ⊢
  match args, hargs with
  | [_, _], hargs =>
  obtain ⟨⟨P0, us0, rfl, hs0, _, hR0, hpc0⟩, rfl, _⟩ := hargs
  match us0, hR0, hpc0 with
  | [_, _, _, _], hR0, hpc0 =>
  obtain ⟨rfl, ⟨A0_1, c0_1, rfl, hcr0_1, _, hRr0_1⟩, rfl, rfl, _⟩ := hpc0
  refine ⟨envC [] false [], 6, envC_ok (css_nil), rfl, (by intro x hx; simp only [List.mem_cons, List.not_mem_nil, or_false] at hx; rcases hx with rfl | rfl <;> rfl), ?_⟩
  have H : Gives (g62 a0 a1) (fun a => a = r) := ⟨r, hok, rfl⟩
  unfold g62 at H
  clear hok
  refine ob_nc ?_
  refine ld_int (e := a0.2.2.1) (rd_get hR0 rfl) ?_
  refine if_st H (fun h2 H => ?_) (fun h2 H => ?_)
  · have hfin := fin_st H
    repeat refine mf1_LiftG4 ?_
    first | exact trivial | exact rfl
  · refine And.intro ⟨by kernel_rfl⟩ ?_
    refine ob_nc ?_
    refine ld_int (e := a0.2.2.2) (rd_get hR0 rfl) ?_
    refine ob_ck H fun h3 H => ?_
    refine ob_nc ?_
    refine ld_int (e := a0.2.2.1) (rd_get hR0 rfl) ?_
    refine ob_ck H fun h4 H => ?_
    have hfin := fin_st H
    repeat refine mf1_LiftG4 ?_
    first | exact trivial | exact rfl

/-- (*placard/gap.Buffer).at -/
noncomputable def g59 (a0 : (Int × List ByteArray × Int × Int)) (a1 : Int) : Option (ByteArray) :=
  (g62 a0 a1).bind fun v5 =>
  ck (0 ≤ v5 ∧ v5 < ((a0.2.1.length : Nat) : Int)) <|
  some (a0.2.1.getD v5.toNat default)
noncomputable def k59 : Eng.CS := { f := 59, calm := true, more := 0, ι := (Int × List ByteArray × Int × Int) × Int × ByteArray, ok := fun i => g59 i.1 i.2.1 = some i.2.2, rds := fun _ => [], args := fun i => [.pt [.w (.int .i64 i.1.1), .row 1 i.1.2.1.length (es i.1.2.1), .w (.int .i64 i.1.2.2.1), .w (.int .i64 i.1.2.2.2)], .w (.v (.int .i64 (i.2.1)))], res := fun i => .v (.string (i.2.2)) }
set_option maxRecDepth 8000 in
set_option maxHeartbeats 4000000 in
theorem k59_ok : CalmOk Try.prog k59 := by
  refine R.calmspec Try.func59 nm59 rfl ?_
  rintro ⟨a0, a1, r⟩ hok q _ args hargs
  dsimp only [k59] at hargs ⊢
  match args, hargs with
  | [_, _], hargs =>
  obtain ⟨⟨P0, us0, rfl, hs0, _, hR0, hpc0⟩, rfl, _⟩ := hargs
  match us0, hR0, hpc0 with
  | [_, _, _, _], hR0, hpc0 =>
  obtain ⟨rfl, ⟨A0_1, c0_1, rfl, hcr0_1, _, hRr0_1⟩, rfl, rfl, _⟩ := hpc0
  refine ⟨envC [k62] false [], 6, envC_ok (css_cons ⟨fun _ => k62_ok, fun h => (by cases h)⟩ (css_nil)), rfl, (by intro x hx; simp only [List.mem_cons, List.not_mem_nil, or_false] at hx; rcases hx with rfl | rfl <;> rfl), ?_⟩
  have H : Gives (g59 a0 a1) (fun a => a = r) := ⟨r, hok, rfl⟩
  unfold g59 at H
  clear hok
  refine And.intro ⟨by kernel_rfl⟩ ?_
  refine ob_nc ?_
  refine ld_sl (A := A0_1) (n := a0.2.1.length) (c := c0_1) (rd_get hR0 rfl) ?_
  obtain ⟨v5, hv6, H⟩ := call_st H
  refine ⟨(a0, a1, v5), ⟨hv6⟩, ⟨trivial⟩, ?_⟩
  refine And.intro ⟨hs0, _, rfl, hR0, rfl, ⟨_, _, rfl, hcr0_1, es_len.trans (Nat.mul_one _).symm, hRr0_1⟩, rfl, rfl, trivial⟩ ?_
  refine And.intro ⟨rfl⟩ ?_
  refine ob_ix hRr0_1 (fun h => es0 h) H fun h7 H => ?_
  refine ld_str (e := a0.2.1.getD v5.toNat default) (rd_get hRr0_1 (es_get (l := a0.2.1) (tn h7))) ?_
  have hfin := fin_st H
  repeat refine mf1_LiftG4 ?_
  first | exact trivial | exact rfl

/-- (*placard/gap.Buffer).At -/
noncomputable def g24 (a0 : (Int × List ByteArray × Int × Int)) (a1 : Int) : Option (ByteArray × Bool) :=
  (g47 a0).bind fun v21 =>
  if ¬ (v21 = true) then
    some ((lit []), false)
  else
    (
      if a1 < 0 then
        some ((lit []), false)
      else
        (
          (g48 a0).bind fun v25 =>
          if v25 ≤ a1 then
            some ((lit []), false)
          else
            (
              (g59 a0 a1).bind fun v28 =>
              some (v28, true)
            )
        )
    )
noncomputable def k24 : Eng.CS := { f := 24, calm := true, more := 0, ι := (Int × List ByteArray × Int × Int) × Int × (ByteArray × Bool), ok := fun i => g24 i.1 i.2.1 = some i.2.2, rds := fun _ => [], args := fun i => [.pt [.w (.int .i64 i.1.1), .row 1 i.1.2.1.length (es i.1.2.1), .w (.int .i64 i.1.2.2.1), .w (.int .i64 i.1.2.2.2)], .w (.v (.int .i64 (i.2.1)))], res := fun i => .tup [.v (.string (i.2.2.1)), bS i.2.2.2] }
set_option maxRecDepth 8000 in
set_option maxHeartbeats 4000000 in
theorem k24_ok : CalmOk Try.prog k24 := by
  refine R.calmspec Try.func24 nm24 rfl ?_
  rintro ⟨a0, a1, r⟩ hok q _ args hargs
  dsimp only [k24] at hargs ⊢
  match args, hargs with
  | [_, _], hargs =>
  obtain ⟨⟨P0, us0, rfl, hs0, _, hR0, hpc0⟩, rfl, _⟩ := hargs
  match us0, hR0, hpc0 with
  | [_, _, _, _], hR0, hpc0 =>
  obtain ⟨rfl, ⟨A0_1, c0_1, rfl, hcr0_1, _, hRr0_1⟩, rfl, rfl, _⟩ := hpc0
  refine ⟨envC [k47, k48, k59] false [], 6, envC_ok (css_cons ⟨fun _ => k47_ok, fun h => (by cases h)⟩ (css_cons ⟨fun _ => k48_ok, fun h => (by cases h)⟩ (css_cons ⟨fun _ => k59_ok, fun h => (by cases h)⟩ (css_nil)))), rfl, (by intro x hx; simp only [List.mem_cons, List.not_mem_nil, or_false] at hx; rcases hx with rfl | rfl <;> rfl), ?_⟩
  have H : Gives (g24 a0 a1) (fun a => a = r) := ⟨r, hok, rfl⟩
  unfold g24 at H
  clear hok
  obtain ⟨v21, hv22, H⟩ := call_st H
  refine ⟨(a0, v21), ⟨hv22⟩, ⟨trivial⟩, ?_⟩
  refine And.intro ⟨hs0, _, rfl, hR0, rfl, ⟨_, _, rfl, hcr0_1, es_len.trans (Nat.mul_one _).symm, hRr0_1⟩, rfl, rfl, trivial⟩ ?_
  refine if_st H (fun h23 H => ?_) (fun h23 H => ?_)
  · have hfin := fin_st H
    repeat refine mf1_LiftG4 ?_
    first | exact trivial | exact rfl
  · refine if_st H (fun h24 H => ?_) (fun h24 H => ?_)
    · have hfin := fin_st H
      repeat refine mf1_LiftG4 ?_
      first | exact trivial | exact rfl
    · obtain ⟨v25, hv26, H⟩ := call_st H
      refine ⟨(a0, v25), ⟨hv26⟩, ⟨trivial⟩, ?_⟩
      refine And.intro ⟨hs0, _, rfl, hR0, rfl, ⟨_, _, rfl, hcr0_1, es_len.trans (Nat.mul_one _).symm, hRr0_1⟩, rfl, rfl, trivial⟩ ?_
      refine if_st H (fun h27 H => ?_) (fun h27 H => ?_)
      · have hfin := fin_st H
        repeat refine mf1_LiftG4 ?_
        first | exact trivial | exact rfl
      · obtain ⟨v28, hv29, H⟩ := call_st H
        refine ⟨(a0, a1, v28), ⟨hv29⟩, ⟨trivial⟩, ?_⟩
        refine And.intro ⟨hs0, _, rfl, hR0, rfl, ⟨_, _, rfl, hcr0_1, es_len.trans (Nat.mul_one _).symm, hRr0_1⟩, rfl, rfl, trivial⟩ ?_
        refine And.intro ⟨rfl⟩ ?_
        have hfin := fin_st H
        repeat refine mf1_LiftG4 ?_
        first | exact trivial | exact rfl

/-- (*placard/gap.Buffer).stand -/
noncomputable def g58 (a0 : (Int × List ByteArray × Int × Int)) (a1 : Int) (a2 : List ByteArray) : Option (Bool) :=
  (g48 a0).bind fun v34 =>
  ck (inR .i64 (v34 - a1)) <|
  if (v34 - a1) < ((a2.length : Nat) : Int) then
    some false
  else
    (
      jn (α := _) (β := Unit) (fun k74 =>
          (loopO (σ := Int) (ρ := (Unit) ⊕ (Unit)) (fun s77 =>
              if s77 < ((a2.length : Nat) : Int) then
                (
                  ck (0 ≤ s77 ∧ s77 < ((a2.length : Nat) : Int)) <|
                  ck (inR .i64 (a1 + s77)) <|
                  (g59 a0 (a1 + s77)).bind fun v97 =>
                  if ¬ (v97.data.toList = (a2.getD s77.toNat default).data.toList) then
                    some (.out (.inl (())))
                  else
                    (
                      ck (inR .i64 (s77 + 1)) <|
                      some (.go (s77 + 1))
                    )
                )
              else
                some (.out (.inr (())))
            ) 0).bind fun o93 =>
          sm o93 (fun o101 =>
              some false
            ) (fun o102 =>
              k74 ()
            )
      ) (fun v73 =>
        some true
      )
    )
noncomputable def k58 : Eng.CS := { f := 58, calm := true, more := 0, ι := (Int × List ByteArray × Int × Int) × Int × (List ByteArray) × Bool, ok := fun i => g58 i.1 i.2.1 i.2.2.1 = some i.2.2.2, rds := fun _ => [], args := fun i => [.pt [.w (.int .i64 i.1.1), .row 1 i.1.2.1.length (es i.1.2.1), .w (.int .i64 i.1.2.2.1), .w (.int .i64 i.1.2.2.2)], .w (.v (.int .i64 (i.2.1))), .sl 1 i.2.2.1.length (es i.2.2.1)], res := fun i => bS i.2.2.2 }
set_option maxRecDepth 8000 in
set_option maxHeartbeats 4000000 in
theorem k58_ok : CalmOk Try.prog k58 := by
  refine R.calmspec Try.func58 nm58 rfl ?_
  rintro ⟨a0, a1, a2, r⟩ hok q _ args hargs
  dsimp only [k58] at hargs ⊢
  match args, hargs with
  | [_, _, _], hargs =>
  obtain ⟨⟨P0, us0, rfl, hs0, _, hR0, hpc0⟩, rfl, ⟨A2, cp2, rfl, hc2, _, hR2⟩, _⟩ := hargs
  match us0, hR0, hpc0 with
  | [_, _, _, _], hR0, hpc0 =>
  obtain ⟨rfl, ⟨A0_1, c0_1, rfl, hcr0_1, _, hRr0_1⟩, rfl, rfl, _⟩ := hpc0
  refine ⟨envC [k48, k59] false [(58, 9)], 6, envC_ok (css_cons ⟨fun _ => k48_ok, fun h => (by cases h)⟩ (css_cons ⟨fun _ => k59_ok, fun h => (by cases h)⟩ (css_nil))), rfl, (by intro x hx; simp only [List.mem_cons, List.not_mem_nil, or_false] at hx; rcases hx with rfl | rfl | rfl <;> rfl), ?_⟩
  have H : Gives (g58 a0 a1 a2) (fun a => a = r) := ⟨r, hok, rfl⟩
  unfold g58 at H
  clear hok
  obtain ⟨v34, hv35, H⟩ := call_st H
  refine ⟨(a0, v34), ⟨hv35⟩, ⟨trivial⟩, ?_⟩
  refine And.intro ⟨hs0, _, rfl, hR0, rfl, ⟨_, _, rfl, hcr0_1, es_len.trans (Nat.mul_one _).symm, hRr0_1⟩, rfl, rfl, trivial⟩ ?_
  refine ob_ck H fun h36 H => ?_
  refine if_st H (fun h37 H => ?_) (fun h37 H => ?_)
  · have hfin := fin_st H
    repeat refine mf1_LiftG4 ?_
    first | exact trivial | exact rfl
  · refine R.cut_fam H 14 [] [] (fun v73 => []) (fun v73 => []) [] 0 (fun H => ?_)
    refine And.intro ?_ ?_
    · refine R.loop_fam (bind_st H) [0, 1, 16, 17] [] (fun _ s77 => [(18, .v (.int .i64 (s77)))]) (fun _ s77 => []) 0 (fun n103 H => ?_)
      refine ⟨(n103, _), ⟨H⟩, ⟨trivial⟩, ?_⟩
      repeat refine mo1_LiftG4 ?_
      rintro ⟨m0, s77⟩ H _
      obtain ⟨m78, hm0, H⟩ := IG_succ H
      dsimp only at hm0
      subst hm0
      try dsimp only at H
      refine if_st H (fun h94 H => ?_) (fun h94 H => ?_)
      · refine ob_ix hR2 (fun h => es0 h) H fun h95 H => ?_
        refine ld_str (e := a2.getD s77.toNat default) (rd_get hR2 (es_get (l := a2) (tn h95))) ?_
        refine ob_ck H fun h96 H => ?_
        obtain ⟨v97, hv98, H⟩ := call_st H
        refine ⟨(a0, a1 + s77, v97), ⟨hv98⟩, ⟨trivial⟩, ?_⟩
        refine And.intro ⟨hs0, _, rfl, hR0, rfl, ⟨_, _, rfl, hcr0_1, es_len.trans (Nat.mul_one _).symm, hRr0_1⟩, rfl, rfl, trivial⟩ ?_
        refine And.intro ⟨rfl⟩ ?_
        refine if_st H (fun h99 H => ?_) (fun h99 H => ?_)
        · replace H := some_st H
          dsimp only [stp, sm] at H
          have hfin := fin_st H
          repeat refine mf1_LiftG4 ?_
          first | exact trivial | exact rfl
        · refine ob_ck H fun h100 H => ?_
          replace H := some_st H
          refine ⟨(m78, s77 + 1), ⟨H, Nat.lt_succ_self _⟩, ⟨trivial⟩, ⟨rfl⟩, ?_⟩
          repeat refine mo1_LiftG4 ?_
          first | exact trivial | exact rfl
      · replace H := some_st H
        dsimp only [stp, sm] at H
        refine ⟨(), ⟨H⟩, ⟨rfl⟩, ?_⟩
        repeat refine mo1_LiftG4 ?_
        first | exact trivial | exact rfl
    · intro v73 H
      have hfin := fin_st H
      repeat refine mf1_LiftG4 ?_
      first | exact trivial | exact rfl

/-- (*placard/gap.Buffer).Find -/
noncomputable def g23 (a0 : (Int × List ByteArray × Int × Int)) (a1 : List ByteArray) : Option (Int × Bool) :=
  (g47 a0).bind fun v111 =>
  if ¬ (v111 = true) then
    some (0, false)
  else
    (
      if ((a1.length : Nat) : Int) = 0 then
        some (0, false)
      else
        (
          jn (α := _) (β := Unit) (fun k159 =>
              (g11 a0).bind fun v160 =>
              (loopO (σ := Int) (ρ := (Int) ⊕ (Unit)) (fun s164 =>
                  if s164 < ((v160.length : Nat) : Int) then
                    (
                      ck (0 ≤ s164 ∧ s164 < ((v160.length : Nat) : Int)) <|
                      if a0.2.2.1 ≤ s164 then
                        (
                          (g58 a0 s164 a1).bind fun v186 =>
                          if v186 = true then
                            some (.out (.inl (s164)))
                          else
                            (
                              ck (inR .i64 (s164 + 1)) <|
                              some (.go (s164 + 1))
                            )
                        )
                      else
                        (
                          ck (inR .i64 (s164 + 1)) <|
                          some (.go (s164 + 1))
                        )
                    )
                  else
                    some (.out (.inr (())))
                ) 0).bind fun o182 =>
              sm o182 (fun o191 =>
                  some (o191, true)
                ) (fun o192 =>
                  k159 ()
                )
          ) (fun v158 =>
            some (0, false)
          )
        )
    )
noncomputable def k23 : Eng.CS := { f := 23, calm := true, more := 0, ι := (Int × List ByteArray × Int × Int) × (List ByteArray) × (Int × Bool), ok := fun i => g23 i.1 i.2.1 = some i.2.2, rds := fun _ => [], args := fun i => [.pt [.w (.int .i64 i.1.1), .row 1 i.1.2.1.length (es i.1.2.1), .w (.int .i64 i.1.2.2.1), .w (.int .i64 i.1.2.2.2)], .sl 1 i.2.1.length (es i.2.1)], res := fun i => .tup [.v (.int .i64 (i.2.2.1)), bS i.2.2.2] }
set_option maxRecDepth 8000 in
set_option maxHeartbeats 4000000 in
theorem k23_ok : CalmOk Try.prog k23 := by
  refine R.calmspec Try.func23 nm23 rfl ?_
  rintro ⟨a0, a1, r⟩ hok q _ args hargs
  dsimp only [k23] at hargs ⊢
  match args, hargs with
  | [_, _], hargs =>
  obtain ⟨⟨P0, us0, rfl, hs0, _, hR0, hpc0⟩, ⟨A1, cp1, rfl, hc1, _, hR1⟩, _⟩ := hargs
  match us0, hR0, hpc0 with
  | [_, _, _, _], hR0, hpc0 =>
  obtain ⟨rfl, ⟨A0_1, c0_1, rfl, hcr0_1, _, hRr0_1⟩, rfl, rfl, _⟩ := hpc0
  refine ⟨envC [k11, k47, k58] false [(23, 7)], 6, envC_ok (css_cons ⟨fun h => (by cases h), fun _ => k11_ok⟩ (css_cons ⟨fun _ => k47_ok, fun h => (by cases h)⟩ (css_cons ⟨fun _ => k58_ok, fun h => (by cases h)⟩ (css_nil)))), rfl, (by intro x hx; simp only [List.mem_cons, List.not_mem_nil, or_false] at hx; rcases hx with rfl | rfl <;> rfl), ?_⟩
  have H : Gives (g23 a0 a1) (fun a => a = r) := ⟨r, hok, rfl⟩
  unfold g23 at H
  clear hok
  obtain ⟨v111, hv112, H⟩ := call_st H
  refine ⟨(a0, v111), ⟨hv112⟩, ⟨trivial⟩, ?_⟩
  refine And.intro ⟨hs0, _, rfl, hR0, rfl, ⟨_, _, rfl, hcr0_1, es_len.trans (Nat.mul_one _).symm, hRr0_1⟩, rfl, rfl, trivial⟩ ?_
  refine if_st H (fun h113 H => ?_) (fun h113 H => ?_)
  · have hfin := fin_st H
    repeat refine mf1_LiftG4 ?_
    first | exact trivial | exact rfl
  · refine if_st H (fun h114 H => ?_) (fun h114 H => ?_)
    · have hfin := fin_st H
      repeat refine mf1_LiftG4 ?_
      first | exact trivial | exact rfl
    · refine R.cut_fam H 28 [4, 5] [] (fun v158 => []) (fun v158 => []) [(0, .cells 23 [.v (.pointer (some P0))]), (1, .cells 25 [.v (.slice (A1) (a1.length) (cp1))]), (2, .cells 3 [.v (.int .i64 (0))]), (3, .cells 4 [.bb false])] 0 (fun H => ?_)
      refine And.intro ?_ ?_
      · obtain ⟨v160, hv161, H⟩ := call_st H
        refine ⟨(a0, v160), ⟨hv161⟩, ⟨trivial⟩, ?_⟩
        refine And.intro ⟨hs0, _, rfl, hR0, rfl, ⟨_, _, rfl, hcr0_1, es_len.trans (Nat.mul_one _).symm, hRr0_1⟩, rfl, rfl, trivial⟩ ?_
        refine R.loop_fam (bind_st H) [0, 6, 7] [] (fun _ s164 => [(8, .v (.int .i64 (s164)))]) (fun _ s164 => []) 0 (fun n193 H => ?_)
        refine ⟨(n193, _), ⟨H⟩, ⟨trivial⟩, ?_⟩
        repeat refine mo1_LiftG4 ?_
        rintro ⟨m0, s164⟩ H _
        obtain ⟨m165, hm0, H⟩ := IG_succ H
        dsimp only at hm0
        subst hm0
        try dsimp only at H
        refine if_st H (fun h183 H => ?_) (fun h183 H => ?_)
        · refine ob_ck H fun h184 H => ?_
          refine ld_str (e := v160.getD s164.toNat default) (own_get (ys := es v160) (by first | rfl | simp [ei, eb, es, ec, c135]) (es_get (l := v160) (by first | exact tn h184 | (have := tn h184; simp at this ⊢; omega) | (have := tn h184; simp; omega)))) ?_
          refine ob_nc ?_
          refine ld_int (e := a0.2.2.1) (rd_get hR0 rfl) ?_
          refine if_st H (fun h185 H => ?_) (fun h185 H => ?_)
          · obtain ⟨v186, hv187, H⟩ := call_st H
            refine ⟨(a0, s164, a1, v186), ⟨hv187⟩, ⟨trivial⟩, ?_⟩
            refine And.intro ⟨hs0, _, rfl, hR0, rfl, ⟨_, _, rfl, hcr0_1, es_len.trans (Nat.mul_one _).symm, hRr0_1⟩, rfl, rfl, trivial⟩ ?_
            refine And.intro ⟨rfl⟩ ?_
            refine And.intro ⟨rfl, hc1, es_len.trans ((show _ = _ from rfl).trans (Nat.mul_one _).symm), hR1⟩ ?_
            refine if_st H (fun h188 H => ?_) (fun h188 H => ?_)
            · replace H := some_st H
              dsimp only [stp, sm] at H
              have hfin := fin_st H
              repeat refine mf1_LiftG4 ?_
              first | exact trivial | exact rfl
            · refine ob_ck H fun h189 H => ?_
              replace H := some_st H
              refine ⟨(m165, s164 + 1), ⟨H, Nat.lt_succ_self _⟩, ⟨trivial⟩, ⟨rfl⟩, ?_⟩
              repeat refine mo1_LiftG4 ?_
              first | exact trivial | exact rfl
          · refine ob_ck H fun h190 H => ?_
            replace H := some_st H
            refine ⟨(m165, s164 + 1), ⟨H, Nat.lt_succ_self _⟩, ⟨trivial⟩, ⟨rfl⟩, ?_⟩
            repeat refine mo1_LiftG4 ?_
            first | exact trivial | exact rfl
        · replace H := some_st H
          dsimp only [stp, sm] at H
          refine ⟨(), ⟨H⟩, ⟨rfl⟩, ?_⟩
          repeat refine mo1_LiftG4 ?_
          first | exact trivial | exact rfl
      · intro v158 H
        have hfin := fin_st H
        repeat refine mf1_LiftG4 ?_
        first | exact trivial | exact rfl

/-- (*placard/gap.Buffer).Widths -/
noncomputable def g29 (a0 : (Int × List ByteArray × Int × Int)) : Option (List Int) :=
  jn (α := _) (β := List Int) (fun k242 =>
      (g11 a0).bind fun v243 =>
      (loopO (σ := List Int × Int) (ρ := List Int) (fun s247 =>
          if s247.2 < ((v243.length : Nat) : Int) then
            (
              ck (0 ≤ s247.2 ∧ s247.2 < ((v243.length : Nat) : Int)) <|
              (g63 (v243.getD s247.2.toNat default)).bind fun v272 =>
              ck ((s247.1.length + 1) * 8 ≤ 140737488355328) <|
              ck (inR .i64 (s247.2 + 1)) <|
              some (.go ((s247.1 ++ [v272]), s247.2 + 1))
            )
          else
            some (.out s247.1)
        ) ([], 0)).bind fun o269 =>
        k242 o269
  ) (fun v241 =>
    some v241
  )
noncomputable def k29 : Eng.CS := { f := 29, calm := false, more := 1, ι := (Int × List ByteArray × Int × Int) × List Int, ok := fun i => g29 i.1 = some i.2, rds := fun _ => [], args := fun i => [.pt [.w (.int .i64 i.1.1), .row 1 i.1.2.1.length (es i.1.2.1), .w (.int .i64 i.1.2.2.1), .w (.int .i64 i.1.2.2.2)]], res := fun i => .own 0, L' := fun i => [(0, .arr 3 1 i.2.length (ei .i64 i.2))], rn := [(0, 0, 3, 1)] }
set_option maxRecDepth 8000 in
set_option maxHeartbeats 4000000 in
theorem k29_ok : CSOk Try.prog k29 := by
  refine R.cspec Try.func29 nm29 rfl ?_
  rintro ⟨a0, r⟩ hok q _ args hargs
  dsimp only [k29] at hargs ⊢
  match args, hargs with
  | [_], hargs =>
  obtain ⟨⟨P0, us0, rfl, hs0, _, hR0, hpc0⟩, _⟩ := hargs
  match us0, hR0, hpc0 with
  | [_, _, _, _], hR0, hpc0 =>
  obtain ⟨rfl, ⟨A0_1, c0_1, rfl, hcr0_1, _, hRr0_1⟩, rfl, rfl, _⟩ := hpc0
  refine ⟨envC [k11, k63] false [(29, 5)], 6, envC_ok (css_cons ⟨fun h => (by cases h), fun _ => k11_ok⟩ (css_cons ⟨fun _ => k63_ok, fun h => (by cases h)⟩ (css_nil))), ?_⟩
  have H : Gives (g29 a0) (fun a => a = r) := ⟨r, hok, rfl⟩
  unfold g29 at H
  clear hok
  refine R.cut_fam H 21 [3] [] (fun v241 => []) (fun v241 => [(1, .cells 22 [.own 21]), (21, .arr 3 1 (v241.length) (ei .i64 (v241)))]) [] 1 (fun H => ?_)
  refine And.intro ?_ ?_
  · obtain ⟨v243, hv244, H⟩ := call_st H
    refine ⟨(a0, v243), ⟨hv244⟩, ⟨trivial⟩, ?_⟩
    refine And.intro ⟨hs0, _, rfl, hR0, rfl, ⟨_, _, rfl, hcr0_1, es_len.trans (Nat.mul_one _).symm, hRr0_1⟩, rfl, rfl, trivial⟩ ?_
    refine R.loop_fam (bind_st H) [0, 6, 7] [(100001, 0, 3, 1)] (fun _ s247 => [(8, .v (.int .i64 (s247.2)))]) (fun _ s247 => [(1, .cells 22 [.own 16]), (16, .arr 3 1 (s247.1.length) (ei .i64 (s247.1)))]) 1 (fun n280 H => ?_)
    refine ⟨(n280, _), ⟨H⟩, ⟨trivial⟩, ?_⟩
    repeat refine mo1_LiftG4 ?_
    rintro ⟨m0, s247⟩ H _
    obtain ⟨m248, hm0, H⟩ := IG_succ H
    dsimp only at hm0
    subst hm0
    try dsimp only at H
    refine if_st H (fun h270 H => ?_) (fun h270 H => ?_)
    · refine ob_ck H fun h271 H => ?_
      refine ld_str (e := v243.getD s247.2.toNat default) (own_get (ys := es v243) (by first | rfl | simp [ei, eb, es, ec, c135]) (es_get (l := v243) (by first | exact tn h271 | (have := tn h271; simp at this ⊢; omega) | (have := tn h271; simp; omega)))) ?_
      refine And.intro ⟨by kernel_rfl⟩ ?_
      refine ⟨(Pn.calm 0 (Pn.calm 1 (Pn.calm 2 (Pn.eff 3 [2, 1] (Pn.eff 4 [0, 3, 2, 1] (Pn.eff 5 [4, 0, 1, 2, 3] Pn.done Pn.no) Pn.no) Pn.no)))), ⟨by kernel_rfl⟩, ?_⟩
      obtain ⟨v272, hv273, H⟩ := call_st H
      refine ⟨(v243.getD s247.2.toNat default, v272), ⟨hv273⟩, ⟨trivial⟩, ?_⟩
      refine And.intro ⟨rfl⟩ ?_
      refine And.intro ?_ trivial
      refine And.intro ⟨rfl⟩ ?_
      refine And.intro ?_ trivial
      refine ob_app (by decide) (by first | exact ei_one | ((repeat (refine List.forall_mem_cons.2 ⟨rfl, ?_⟩)); intro y hy; cases hy; done) | (intro y hy; simp [ei, eb, es, ec, c135] at hy; (first | (rcases hy with rfl | hy) | subst hy | skip); all_goals first | rfl | simp_all [Value.oneCell'])) H fun h274 H => ?_
      intro n275 zs277 hn276 hz278
      obtain rfl : n275 = (s247.1 ++ [v272]).length := hn276.trans (by first | exact List.length_append.symm | (simp; done) | (simp; omega))
      obtain rfl : zs277 = ei .i64 (s247.1 ++ [v272]) := by first | exact hz278.trans (ei_app (xs := s247.1) (ys := ([v272]))).symm | (rw [hz278, ei_vw]; first | exact ei_app.symm | exact (ei_app (xs := s247.1)).symm) | (rw [hz278]; simp [ei, eb, es, ec, c135])
      refine And.intro ⟨fun _ _ _ h => h⟩ ?_
      refine And.intro ?_ trivial
      refine And.intro ⟨fun _ _ _ h => h⟩ ?_
      refine ob_ck H fun h279 H => ?_
      replace H := some_st H
      refine ⟨(m248, ((s247.1 ++ [v272]), s247.2 + 1)), ⟨H, Nat.lt_succ_self _⟩, ⟨trivial⟩, ⟨rfl⟩, ?_⟩
      repeat refine mo1_LiftG4 ?_
      first | exact trivial | exact rfl
    · replace H := some_st H
      dsimp only [stp, sm] at H
      refine ⟨s247.1, ⟨H⟩, ⟨rfl⟩, ?_⟩
      repeat refine mo1_LiftG4 ?_
      first | exact trivial | exact rfl
  · intro v241 H
    have hfin := fin_st H
    repeat refine mf1_LiftG4 ?_
    first | exact trivial | exact rfl

end Go.Proofs.Ytenjkphlbdhaiaa
