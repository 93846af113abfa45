/-
  Functions of the program, lifted: each with its walk. Printed by lift.py.
  Nothing here is trusted.
-/
import Derived.Test.YtenjkphlbdhaiaaEngTB
import Derived.Test.YtenjkphlbdhaiaaEngLc
set_option linter.unusedVariables false
set_option linter.unusedSimpArgs false
namespace Go.Proofs.Ytenjkphlbdhaiaa
open Go Go.Eng

theorem mo1_LiftG1 {p q : Prop} (k : q) (h : p := by first | exact rfl | exact Iff.rfl | exact ⟨rfl, rfl⟩ | exact decide_eq_true_iff | (constructor <;> first | exact rfl | (simp only [ei, eb, es, ec, gmin, gmax, List.map_append, List.flatMap_append, List.nil_append, List.append_nil, List.append_assoc]; done) | omega | (simp only [List.nil_append, List.length_append, List.length_cons, List.length_nil]; omega) | (simp [ei, eb, es, ec, gmin, gmax]; done)) | exact rfl | (simp only [ei, eb, es, ec, gmin, gmax, List.map_append, List.flatMap_append, List.nil_append, List.append_nil, List.append_assoc]; done) | omega | (simp only [List.nil_append, List.length_append, List.length_cons, List.length_nil]; omega) | (simp [ei, eb, es, ec, gmin, gmax]; done) | simp [ei, eb, es, ec, gmin, gmax]) : Ob p ∧ q := ⟨⟨h⟩, k⟩
theorem mf1_LiftG1 {p q : Prop} (k : q) (h : p := by first | (rw [← hfin] <;> first | exact rfl | exact Iff.rfl | exact ⟨rfl, rfl⟩ | exact decide_eq_true_iff | (constructor <;> first | exact rfl | (simp only [ei, eb, es, ec, gmin, gmax, List.map_append, List.flatMap_append, List.nil_append, List.append_nil, List.append_assoc]; done) | omega | (simp only [List.nil_append, List.length_append, List.length_cons, List.length_nil]; omega) | (simp [ei, eb, es, ec, gmin, gmax]; done)) | exact rfl | (simp only [ei, eb, es, ec, gmin, gmax, List.map_append, List.flatMap_append, List.nil_append, List.append_nil, List.append_assoc]; done) | omega | (simp only [List.nil_append, List.length_append, List.length_cons, List.length_nil]; omega) | (simp [ei, eb, es, ec, gmin, gmax]; done) | simp [ei, eb, es, ec, gmin, gmax]) | first | exact rfl | exact Iff.rfl | exact ⟨rfl, rfl⟩ | exact decide_eq_true_iff | (constructor <;> first | exact rfl | (simp only [ei, eb, es, ec, gmin, gmax, List.map_append, List.flatMap_append, List.nil_append, List.append_nil, List.append_assoc]; done) | omega | (simp only [List.nil_append, List.length_append, List.length_cons, List.length_nil]; omega) | (simp [ei, eb, es, ec, gmin, gmax]; done)) | exact rfl | (simp only [ei, eb, es, ec, gmin, gmax, List.map_append, List.flatMap_append, List.nil_append, List.append_nil, List.append_assoc]; done) | omega | (simp only [List.nil_append, List.length_append, List.length_cons, List.length_nil]; omega) | (simp [ei, eb, es, ec, gmin, gmax]; done) | simp [ei, eb, es, ec, gmin, gmax]) : Ob p ∧ q := ⟨⟨h⟩, k⟩
/-- (*placard/gap.Buffer).made -/
noncomputable def g47 (a0 : (Int × List ByteArray × Int × Int)) : Option (Bool) :=
  some (decide (0 < a0.1))
noncomputable def k47 : Eng.CS := { f := 47, calm := true, more := 0, ι := (Int × List ByteArray × Int × Int) × Bool, ok := fun i => g47 i.1 = some i.2, rds := fun _ => [], args := fun i => [.pt [.w (.int .i64 i.1.1), .row 1 i.1.2.1.length (es i.1.2.1), .w (.int .i64 i.1.2.2.1), .w (.int .i64 i.1.2.2.2)]], res := fun i => bS i.2 }
set_option maxRecDepth 8000 in
set_option maxHeartbeats 4000000 in
theorem k47_ok : CalmOk Try.prog k47 := by
  refine R.calmspec Try.func47 nm47 rfl ?_
  rintro ⟨a0, r⟩ hok q _ args hargs
  dsimp only [k47] at hargs ⊢
  match args, hargs with
  | [_], hargs =>
  obtain ⟨⟨P0, us0, rfl, hs0, _, hR0, hpc0⟩, _⟩ := hargs
  match us0, hR0, hpc0 with
  | [_, _, _, _], hR0, hpc0 =>
  obtain ⟨rfl, ⟨A0_1, c0_1, rfl, hcr0_1, _, hRr0_1⟩, rfl, rfl, _⟩ := hpc0
  refine ⟨envC [] false [], 6, envC_ok (css_nil), rfl, (by intro x hx; simp only [List.mem_cons, List.not_mem_nil, or_false] at hx; rcases hx with rfl <;> rfl), ?_⟩
  have H : Gives (g47 a0) (fun a => a = r) := ⟨r, hok, rfl⟩
  unfold g47 at H
  clear hok
  refine ob_nc ?_
  refine ld_int (e := a0.1) (rd_get hR0 rfl) ?_
  have hfin := fin_st H
  repeat refine mf1_LiftG1 ?_
  first | exact trivial | exact rfl

/-- (*placard/gap.Buffer).size -/
noncomputable def g48 (a0 : (Int × List ByteArray × Int × Int)) : Option (Int) :=
  ck (inR .i64 (a0.2.2.2 - a0.2.2.1)) <|
  ck (inR .i64 (((a0.2.1.length : Nat) : Int) - (a0.2.2.2 - a0.2.2.1))) <|
  some (((a0.2.1.length : Nat) : Int) - (a0.2.2.2 - a0.2.2.1))
noncomputable def k48 : Eng.CS := { f := 48, calm := true, more := 0, ι := (Int × List ByteArray × Int × Int) × Int, ok := fun i => g48 i.1 = some i.2, rds := fun _ => [], args := fun i => [.pt [.w (.int .i64 i.1.1), .row 1 i.1.2.1.length (es i.1.2.1), .w (.int .i64 i.1.2.2.1), .w (.int .i64 i.1.2.2.2)]], res := fun i => .v (.int .i64 (i.2)) }
set_option maxRecDepth 8000 in
set_option maxHeartbeats 4000000 in
theorem k48_ok : CalmOk Try.prog k48 := by
  refine R.calmspec Try.func48 nm48 rfl ?_
  rintro ⟨a0, r⟩ hok q _ args hargs
  dsimp only [k48] at hargs ⊢
  match args, hargs with
  | [_], hargs =>
  obtain ⟨⟨P0, us0, rfl, hs0, _, hR0, hpc0⟩, _⟩ := hargs
  match us0, hR0, hpc0 with
  | [_, _, _, _], hR0, hpc0 =>
  obtain ⟨rfl, ⟨A0_1, c0_1, rfl, hcr0_1, _, hRr0_1⟩, rfl, rfl, _⟩ := hpc0
  refine ⟨envC [] false [], 6, envC_ok (css_nil), rfl, (by intro x hx; simp only [List.mem_cons, List.not_mem_nil, or_false] at hx; rcases hx with rfl <;> rfl), ?_⟩
  have H : Gives (g48 a0) (fun a => a = r) := ⟨r, hok, rfl⟩
  unfold g48 at H
  clear hok
  refine And.intro ⟨by kernel_rfl⟩ ?_
  refine ob_nc ?_
  refine ld_sl (A := A0_1) (n := a0.2.1.length) (c := c0_1) (rd_get hR0 rfl) ?_
  refine ob_nc ?_
  refine ld_int (e := a0.2.2.2) (rd_get hR0 rfl) ?_
  refine ob_nc ?_
  refine ld_int (e := a0.2.2.1) (rd_get hR0 rfl) ?_
  refine ob_ck H fun h1 H => ?_
  refine ob_ck H fun h2 H => ?_
  have hfin := fin_st H
  repeat refine mf1_LiftG1 ?_
  first | exact trivial | exact rfl

/-- (*placard/gap.Buffer).held -/
noncomputable def g49 (a0 : (Int × List ByteArray × Int × Int)) (a1 : Int) : Option (Int) :=
  (g48 a0).bind fun v3 =>
  some (gmax 0 (gmin a1 v3))
noncomputable def k49 : Eng.CS := { f := 49, calm := true, more := 0, ι := (Int × List ByteArray × Int × Int) × Int × Int, ok := fun i => g49 i.1 i.2.1 = some i.2.2, rds := fun _ => [], args := fun i => [.pt [.w (.int .i64 i.1.1), .row 1 i.1.2.1.length (es i.1.2.1), .w (.int .i64 i.1.2.2.1), .w (.int .i64 i.1.2.2.2)], .w (.v (.int .i64 (i.2.1)))], res := fun i => .v (.int .i64 (i.2.2)) }
set_option maxRecDepth 8000 in
set_option maxHeartbeats 4000000 in
theorem k49_ok : CalmOk Try.prog k49 := by
  refine R.calmspec Try.func49 nm49 rfl ?_
  rintro ⟨a0, a1, r⟩ hok q _ args hargs
  dsimp only [k49] at hargs ⊢
  match args, hargs with
  | [_, _], hargs =>
  obtain ⟨⟨P0, us0, rfl, hs0, _, hR0, hpc0⟩, rfl, _⟩ := hargs
  match us0, hR0, hpc0 with
  | [_, _, _, _], hR0, hpc0 =>
  obtain ⟨rfl, ⟨A0_1, c0_1, rfl, hcr0_1, _, hRr0_1⟩, rfl, rfl, _⟩ := hpc0
  refine ⟨envC [k48] false [], 6, envC_ok (css_cons ⟨fun _ => k48_ok, fun h => (by cases h)⟩ (css_nil)), rfl, (by intro x hx; simp only [List.mem_cons, List.not_mem_nil, or_false] at hx; rcases hx with rfl | rfl <;> rfl), ?_⟩
  have H : Gives (g49 a0 a1) (fun a => a = r) := ⟨r, hok, rfl⟩
  unfold g49 at H
  clear hok
  obtain ⟨v3, hv4, H⟩ := call_st H
  refine ⟨(a0, v3), ⟨hv4⟩, ⟨trivial⟩, ?_⟩
  refine And.intro ⟨hs0, _, rfl, hR0, rfl, ⟨_, _, rfl, hcr0_1, es_len.trans (Nat.mul_one _).symm, hRr0_1⟩, rfl, rfl, trivial⟩ ?_
  have hfin := fin_st H
  repeat refine mf1_LiftG1 ?_
  first | exact trivial | exact rfl

/-- (*placard/gap.Buffer).Cursor -/
noncomputable def g13 (a0 : (Int × List ByteArray × Int × Int)) : Option (Int) :=
  (g47 a0).bind fun v8 =>
  if ¬ (v8 = true) then
    some 0
  else
    some a0.2.2.1
noncomputable def k13 : Eng.CS := { f := 13, calm := true, more := 0, ι := (Int × List ByteArray × Int × Int) × Int, ok := fun i => g13 i.1 = some i.2, rds := fun _ => [], args := fun i => [.pt [.w (.int .i64 i.1.1), .row 1 i.1.2.1.length (es i.1.2.1), .w (.int .i64 i.1.2.2.1), .w (.int .i64 i.1.2.2.2)]], res := fun i => .v (.int .i64 (i.2)) }
set_option maxRecDepth 8000 in
set_option maxHeartbeats 4000000 in
theorem k13_ok : CalmOk Try.prog k13 := by
  refine R.calmspec Try.func13 nm13 rfl ?_
  rintro ⟨a0, r⟩ hok q _ args hargs
  dsimp only [k13] at hargs ⊢
  match args, hargs with
  | [_], hargs =>
  obtain ⟨⟨P0, us0, rfl, hs0, _, hR0, hpc0⟩, _⟩ := hargs
  match us0, hR0, hpc0 with
  | [_, _, _, _], hR0, hpc0 =>
  obtain ⟨rfl, ⟨A0_1, c0_1, rfl, hcr0_1, _, hRr0_1⟩, rfl, rfl, _⟩ := hpc0
  refine ⟨envC [k47] false [], 6, envC_ok (css_cons ⟨fun _ => k47_ok, fun h => (by cases h)⟩ (css_nil)), rfl, (by intro x hx; simp only [List.mem_cons, List.not_mem_nil, or_false] at hx; rcases hx with rfl <;> rfl), ?_⟩
  have H : Gives (g13 a0) (fun a => a = r) := ⟨r, hok, rfl⟩
  unfold g13 at H
  clear hok
  obtain ⟨v8, hv9, H⟩ := call_st H
  refine ⟨(a0, v8), ⟨hv9⟩, ⟨trivial⟩, ?_⟩
  refine And.intro ⟨hs0, _, rfl, hR0, rfl, ⟨_, _, rfl, hcr0_1, es_len.trans (Nat.mul_one _).symm, hRr0_1⟩, rfl, rfl, trivial⟩ ?_
  refine if_st H (fun h10 H => ?_) (fun h10 H => ?_)
  · have hfin := fin_st H
    repeat refine mf1_LiftG1 ?_
    first | exact trivial | exact rfl
  · refine ob_nc ?_
    refine ld_int (e := a0.2.2.1) (rd_get hR0 rfl) ?_
    have hfin := fin_st H
    repeat refine mf1_LiftG1 ?_
    first | exact trivial | exact rfl

/-- (*placard/gap.Buffer).Room -/
noncomputable def g18 (a0 : (Int × List ByteArray × Int × Int)) : Option (Int) :=
  (g47 a0).bind fun v14 =>
  if ¬ (v14 = true) then
    some 0
  else
    (
      (g48 a0).bind fun v17 =>
      ck (inR .i64 (a0.1 - v17)) <|
      some (a0.1 - v17)
    )
noncomputable def k18 : Eng.CS := { f := 18, calm := true, more := 0, ι := (Int × List ByteArray × Int × Int) × Int, ok := fun i => g18 i.1 = some i.2, rds := fun _ => [], args := fun i => [.pt [.w (.int .i64 i.1.1), .row 1 i.1.2.1.length (es i.1.2.1), .w (.int .i64 i.1.2.2.1), .w (.int .i64 i.1.2.2.2)]], res := fun i => .v (.int .i64 (i.2)) }
set_option maxRecDepth 8000 in
set_option maxHeartbeats 4000000 in
theorem k18_ok : CalmOk Try.prog k18 := by
  refine R.calmspec Try.func18 nm18 rfl ?_
  rintro ⟨a0, r⟩ hok q _ args hargs
  dsimp only [k18] at hargs ⊢
  match args, hargs with
  | [_], hargs =>
  obtain ⟨⟨P0, us0, rfl, hs0, _, hR0, hpc0⟩, _⟩ := hargs
  match us0, hR0, hpc0 with
  | [_, _, _, _], hR0, hpc0 =>
  obtain ⟨rfl, ⟨A0_1, c0_1, rfl, hcr0_1, _, hRr0_1⟩, rfl, rfl, _⟩ := hpc0
  refine ⟨envC [k47, k48] false [], 6, envC_ok (css_cons ⟨fun _ => k47_ok, fun h => (by cases h)⟩ (css_cons ⟨fun _ => k48_ok, fun h => (by cases h)⟩ (css_nil))), rfl, (by intro x hx; simp only [List.mem_cons, List.not_mem_nil, or_false] at hx; rcases hx with rfl <;> rfl), ?_⟩
  have H : Gives (g18 a0) (fun a => a = r) := ⟨r, hok, rfl⟩
  unfold g18 at H
  clear hok
  obtain ⟨v14, hv15, H⟩ := call_st H
  refine ⟨(a0, v14), ⟨hv15⟩, ⟨trivial⟩, ?_⟩
  refine And.intro ⟨hs0, _, rfl, hR0, rfl, ⟨_, _, rfl, hcr0_1, es_len.trans (Nat.mul_one _).symm, hRr0_1⟩, rfl, rfl, trivial⟩ ?_
  refine if_st H (fun h16 H => ?_) (fun h16 H => ?_)
  · have hfin := fin_st H
    repeat refine mf1_LiftG1 ?_
    first | exact trivial | exact rfl
  · refine And.intro ⟨by kernel_rfl⟩ ?_
    refine ob_nc ?_
    refine ld_int (e := a0.1) (rd_get hR0 rfl) ?_
    obtain ⟨v17, hv18, H⟩ := call_st H
    refine ⟨(a0, v17), ⟨hv18⟩, ⟨trivial⟩, ?_⟩
    refine And.intro ⟨hs0, _, rfl, hR0, rfl, ⟨_, _, rfl, hcr0_1, es_len.trans (Nat.mul_one _).symm, hRr0_1⟩, rfl, rfl, trivial⟩ ?_
    refine ob_ck H fun h19 H => ?_
    have hfin := fin_st H
    repeat refine mf1_LiftG1 ?_
    first | exact trivial | exact rfl

/-- (*placard/gap.Buffer).Len -/
noncomputable def g20 (a0 : (Int × List ByteArray × Int × Int)) : Option (Int) :=
  (g47 a0).bind fun v23 =>
  if ¬ (v23 = true) then
    some 0
  else
    (
      (g48 a0).bind fun v26 =>
      some v26
    )
noncomputable def k20 : Eng.CS := { f := 20, calm := true, more := 0, ι := (Int × List ByteArray × Int × Int) × Int, ok := fun i => g20 i.1 = some i.2, rds := fun _ => [], args := fun i => [.pt [.w (.int .i64 i.1.1), .row 1 i.1.2.1.length (es i.1.2.1), .w (.int .i64 i.1.2.2.1), .w (.int .i64 i.1.2.2.2)]], res := fun i => .v (.int .i64 (i.2)) }
set_option maxRecDepth 8000 in
set_option maxHeartbeats 4000000 in
theorem k20_ok : CalmOk Try.prog k20 := by
  refine R.calmspec Try.func20 nm20 rfl ?_
  rintro ⟨a0, r⟩ hok q _ args hargs
  dsimp only [k20] at hargs ⊢
  match args, hargs with
  | [_], hargs =>
  obtain ⟨⟨P0, us0, rfl, hs0, _, hR0, hpc0⟩, _⟩ := hargs
  match us0, hR0, hpc0 with
  | [_, _, _, _], hR0, hpc0 =>
  obtain ⟨rfl, ⟨A0_1, c0_1, rfl, hcr0_1, _, hRr0_1⟩, rfl, rfl, _⟩ := hpc0
  refine ⟨envC [k47, k48] false [], 6, envC_ok (css_cons ⟨fun _ => k47_ok, fun h => (by cases h)⟩ (css_cons ⟨fun _ => k48_ok, fun h => (by cases h)⟩ (css_nil))), rfl, (by intro x hx; simp only [List.mem_cons, List.not_mem_nil, or_false] at hx; rcases hx with rfl <;> rfl), ?_⟩
  have H : Gives (g20 a0) (fun a => a = r) := ⟨r, hok, rfl⟩
  unfold g20 at H
  clear hok
  obtain ⟨v23, hv24, H⟩ := call_st H
  refine ⟨(a0, v23), ⟨hv24⟩, ⟨trivial⟩, ?_⟩
  refine And.intro ⟨hs0, _, rfl, hR0, rfl, ⟨_, _, rfl, hcr0_1, es_len.trans (Nat.mul_one _).symm, hRr0_1⟩, rfl, rfl, trivial⟩ ?_
  refine if_st H (fun h25 H => ?_) (fun h25 H => ?_)
  · have hfin := fin_st H
    repeat refine mf1_LiftG1 ?_
    first | exact trivial | exact rfl
  · obtain ⟨v26, hv27, H⟩ := call_st H
    refine ⟨(a0, v26), ⟨hv27⟩, ⟨trivial⟩, ?_⟩
    refine And.intro ⟨hs0, _, rfl, hR0, rfl, ⟨_, _, rfl, hcr0_1, es_len.trans (Nat.mul_one _).symm, hRr0_1⟩, rfl, rfl, trivial⟩ ?_
    have hfin := fin_st H
    repeat refine mf1_LiftG1 ?_
    first | exact trivial | exact rfl

end Go.Proofs.Ytenjkphlbdhaiaa
