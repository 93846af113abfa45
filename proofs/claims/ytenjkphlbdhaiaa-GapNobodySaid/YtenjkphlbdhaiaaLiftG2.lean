/-
  Functions of the program, lifted: each with its walk. Printed by lift.py.
  Nothing here is trusted.
-/
import Derived.Test.YtenjkphlbdhaiaaLiftG1
set_option linter.unusedVariables false
set_option linter.unusedSimpArgs false
namespace Go.Proofs.Ytenjkphlbdhaiaa
open Go Go.Eng

theorem mo1_LiftG2 {p q : Prop} (k : q) (h : p := by first | exact rfl | exact Iff.rfl | exact ⟨rfl, rfl⟩ | exact decide_eq_true_iff | (constructor <;> first | exact rfl | (simp only [ei, eb, es, ec, gmin, gmax, List.map_append, List.flatMap_append, List.nil_append, List.append_nil, List.append_assoc]; done) | omega | (simp only [List.nil_append, List.length_append, List.length_cons, List.length_nil]; omega) | (simp [ei, eb, es, ec, gmin, gmax]; done)) | exact rfl | (simp only [ei, eb, es, ec, gmin, gmax, List.map_append, List.flatMap_append, List.nil_append, List.append_nil, List.append_assoc]; done) | omega | (simp only [List.nil_append, List.length_append, List.length_cons, List.length_nil]; omega) | (simp [ei, eb, es, ec, gmin, gmax]; done) | simp [ei, eb, es, ec, gmin, gmax]) : Ob p ∧ q := ⟨⟨h⟩, k⟩
theorem mf1_LiftG2 {p q : Prop} (k : q) (h : p := by first | (rw [← hfin] <;> first | exact rfl | exact Iff.rfl | exact ⟨rfl, rfl⟩ | exact decide_eq_true_iff | (constructor <;> first | exact rfl | (simp only [ei, eb, es, ec, gmin, gmax, List.map_append, List.flatMap_append, List.nil_append, List.append_nil, List.append_assoc]; done) | omega | (simp only [List.nil_append, List.length_append, List.length_cons, List.length_nil]; omega) | (simp [ei, eb, es, ec, gmin, gmax]; done)) | exact rfl | (simp only [ei, eb, es, ec, gmin, gmax, List.map_append, List.flatMap_append, List.nil_append, List.append_nil, List.append_assoc]; done) | omega | (simp only [List.nil_append, List.length_append, List.length_cons, List.length_nil]; omega) | (simp [ei, eb, es, ec, gmin, gmax]; done) | simp [ei, eb, es, ec, gmin, gmax]) | first | exact rfl | exact Iff.rfl | exact ⟨rfl, rfl⟩ | exact decide_eq_true_iff | (constructor <;> first | exact rfl | (simp only [ei, eb, es, ec, gmin, gmax, List.map_append, List.flatMap_append, List.nil_append, List.append_nil, List.append_assoc]; done) | omega | (simp only [List.nil_append, List.length_append, List.length_cons, List.length_nil]; omega) | (simp [ei, eb, es, ec, gmin, gmax]; done)) | exact rfl | (simp only [ei, eb, es, ec, gmin, gmax, List.map_append, List.flatMap_append, List.nil_append, List.append_nil, List.append_assoc]; done) | omega | (simp only [List.nil_append, List.length_append, List.length_cons, List.length_nil]; omega) | (simp [ei, eb, es, ec, gmin, gmax]; done) | simp [ei, eb, es, ec, gmin, gmax]) : Ob p ∧ q := ⟨⟨h⟩, k⟩
/-- (*placard/gap.Buffer).Line -/
noncomputable def g11 (a0 : (Int × List ByteArray × Int × Int)) : Option (List ByteArray) :=
  (g47 a0).bind fun v4 =>
  if ¬ (v4 = true) then
    some ([] : List ByteArray)
  else
    (
      (g48 a0).bind fun v7 =>
      ck (0 ≤ v7 ∧ v7 ≤ v7 ∧ v7 ≤ 9223372036854775807 ∧ v7 * ((16 : Nat) : Int) ≤ 140737488355328) <|
      ck (0 ≤ (0 : Int) ∧ (0 : Int) ≤ a0.2.2.1 ∧ a0.2.2.1 ≤ ((a0.2.1.length : Nat) : Int)) <|
      ck (0 ≤ (((min (((a0.2.1.drop (0 : Int).toNat).take (a0.2.2.1.toNat - (0 : Int).toNat)).length) v7.toNat) : Nat) : Int) ∧ (((min (((a0.2.1.drop (0 : Int).toNat).take (a0.2.2.1.toNat - (0 : Int).toNat)).length) v7.toNat) : Nat) : Int) ≤ ((v7.toNat : Nat) : Int) ∧ ((v7.toNat : Nat) : Int) ≤ ((v7.toNat : Nat) : Int)) <|
      ck (0 ≤ a0.2.2.2 ∧ a0.2.2.2 ≤ ((a0.2.1.length : Nat) : Int) ∧ ((a0.2.1.length : Nat) : Int) ≤ ((a0.2.1.length : Nat) : Int)) <|
      some (cpy (cpy (List.replicate v7.toNat (⟨#[]⟩ : ByteArray)) 0 ((a0.2.1.drop (0 : Int).toNat).take (a0.2.2.1.toNat - (0 : Int).toNat)) (min (((a0.2.1.drop (0 : Int).toNat).take (a0.2.2.1.toNat - (0 : Int).toNat)).length) v7.toNat)) ((((min (((a0.2.1.drop (0 : Int).toNat).take (a0.2.2.1.toNat - (0 : Int).toNat)).length) v7.toNat) : Nat) : Int).toNat) ((a0.2.1.drop a0.2.2.2.toNat).take (((a0.2.1.length : Nat) : Int).toNat - a0.2.2.2.toNat)) (min (((a0.2.1.drop a0.2.2.2.toNat).take (((a0.2.1.length : Nat) : Int).toNat - a0.2.2.2.toNat)).length) (((v7.toNat : Nat) : Int).toNat - (((min (((a0.2.1.drop (0 : Int).toNat).take (a0.2.2.1.toNat - (0 : Int).toNat)).length) v7.toNat) : Nat) : Int).toNat)))
    )
noncomputable def k11 : Eng.CS := { f := 11, calm := false, more := 1, ι := (Int × List ByteArray × Int × Int) × List ByteArray, ok := fun i => g11 i.1 = some i.2, rds := fun _ => [], args := fun i => [.pt [.w (.int .i64 i.1.1), .row 1 i.1.2.1.length (es i.1.2.1), .w (.int .i64 i.1.2.2.1), .w (.int .i64 i.1.2.2.2)]], res := fun i => .own 0, L' := fun i => [(0, .arr 9 1 i.2.length (es i.2))], rn := [(0, 0, 9, 1)] }
set_option maxRecDepth 8000 in
set_option maxHeartbeats 4000000 in
theorem k11_ok : CSOk Try.prog k11 := by
  refine R.cspec Try.func11 nm11 rfl ?_
  rintro ⟨a0, r⟩ hok q _ args hargs
  dsimp only [k11] at hargs ⊢
  match args, hargs with
  | [_], hargs =>
  obtain ⟨⟨P0, us0, rfl, hs0, _, hR0, hpc0⟩, _⟩ := hargs
  match us0, hR0, hpc0 with
  | [_, _, _, _], hR0, hpc0 =>
  obtain ⟨rfl, ⟨A0_1, c0_1, rfl, hcr0_1, _, hRr0_1⟩, rfl, rfl, _⟩ := hpc0
  refine ⟨envC [k47, k48] false [], 6, envC_ok (css_cons ⟨fun _ => k47_ok, fun h => (by cases h)⟩ (css_cons ⟨fun _ => k48_ok, fun h => (by cases h)⟩ (css_nil))), ?_⟩
  have H : Gives (g11 a0) (fun a => a = r) := ⟨r, hok, rfl⟩
  unfold g11 at H
  clear hok
  obtain ⟨v4, hv5, H⟩ := call_st H
  refine ⟨(a0, v4), ⟨hv5⟩, ⟨trivial⟩, ?_⟩
  refine And.intro ⟨hs0, _, rfl, hR0, rfl, ⟨_, _, rfl, hcr0_1, es_len.trans (Nat.mul_one _).symm, hRr0_1⟩, rfl, rfl, trivial⟩ ?_
  refine if_st H (fun h6 H => ?_) (fun h6 H => ?_)
  · have hfin := fin_st H
    repeat refine mf1_LiftG2 ?_
    first | exact trivial | exact rfl
  · obtain ⟨v7, hv8, H⟩ := call_st H
    refine ⟨(a0, v7), ⟨hv8⟩, ⟨trivial⟩, ?_⟩
    refine And.intro ⟨hs0, _, rfl, hR0, rfl, ⟨_, _, rfl, hcr0_1, es_len.trans (Nat.mul_one _).symm, hRr0_1⟩, rfl, rfl, trivial⟩ ?_
    refine ob_ck H fun h14 H => ?_
    intro n9 zs11 hn10 hz12
    subst hn10
    have hl13 : (List.replicate v7.toNat (⟨#[]⟩ : ByteArray)).length = v7.toNat := List.length_replicate
    obtain rfl : zs11 = es (List.replicate v7.toNat (⟨#[]⟩ : ByteArray)) := hz12.trans es_rep.symm
    refine And.intro ⟨by kernel_rfl⟩ ?_
    refine ⟨(Pn.calm 0 (Pn.calm 1 (Pn.calm 2 (Pn.calm 3 (Pn.calm 4 (Pn.calm 5 (Pn.calm 6 (Pn.calm 7 (Pn.calm 8 (Pn.calm 9 (Pn.eff 10 [0, 9, 4, 8, 3, 7, 2, 6, 1, 5] (Pn.calm 11 Pn.done) Pn.no))))))))))), ⟨by kernel_rfl⟩, ?_⟩
    refine ob_nc ?_
    refine ld_sl (A := A0_1) (n := a0.2.1.length) (c := c0_1) (rd_get hR0 rfl) ?_
    refine ob_nc ?_
    refine ld_int (e := a0.2.2.1) (rd_get hR0 rfl) ?_
    refine ob_sl hcr0_1 H fun h15 H => ?_
    have hs16 := sl_es hRr0_1 rfl hcr0_1 h15
    intro n17 hn18
    obtain rfl : n17 = ((a0.2.1.drop (0 : Int).toNat).take (a0.2.2.1.toNat - (0 : Int).toNat)).length := hn18.trans hs16.2.1.symm
    refine And.intro ?_ trivial
    refine rs_st hs16.1 (es_len.trans (Nat.mul_one _).symm) ?_
    refine And.intro ⟨es_one⟩ ?_
    intro r19 n21 zs23 hr20 hn22 hz24
    subst hr20
    subst hn22
    have hl25 : (cpy (List.replicate v7.toNat (⟨#[]⟩ : ByteArray)) 0 ((a0.2.1.drop (0 : Int).toNat).take (a0.2.2.1.toNat - (0 : Int).toNat)) (min (((a0.2.1.drop (0 : Int).toNat).take (a0.2.2.1.toNat - (0 : Int).toNat)).length) v7.toNat)).length = (List.replicate v7.toNat (⟨#[]⟩ : ByteArray)).length := len_cpy (by first | omega | (dsimp only; omega)) (by first | omega | (rw [len_vw (by omega)]; omega) | (dsimp only; rw [len_vw (by omega)]; omega))
    obtain rfl : zs23 = es (cpy (List.replicate v7.toNat (⟨#[]⟩ : ByteArray)) 0 ((a0.2.1.drop (0 : Int).toNat).take (a0.2.2.1.toNat - (0 : Int).toNat)) (min (((a0.2.1.drop (0 : Int).toNat).take (a0.2.2.1.toNat - (0 : Int).toNat)).length) v7.toNat)) := hz24.trans es_cpy0.symm
    refine And.intro ⟨fun _ _ _ h => h⟩ ?_
    refine And.intro ⟨by kernel_rfl⟩ ?_
    refine ⟨(Pn.calm 0 (Pn.calm 1 (Pn.calm 2 (Pn.calm 3 (Pn.calm 4 (Pn.calm 5 (Pn.calm 6 (Pn.calm 7 (Pn.calm 8 (Pn.calm 9 (Pn.calm 10 (Pn.calm 11 (Pn.eff 12 [2, 11, 0, 1, 6, 10, 5, 9, 4, 8, 3, 7] Pn.done Pn.no))))))))))))), ⟨by kernel_rfl⟩, ?_⟩
    refine ob_ck H fun h26 H => ?_
    try dsimp only at h26
    intro n27 hn28
    subst hn28
    refine ob_nc ?_
    refine ld_sl (A := A0_1) (n := a0.2.1.length) (c := c0_1) (rd_get hR0 rfl) ?_
    refine ob_nc ?_
    refine ld_int (e := a0.2.2.2) (rd_get hR0 rfl) ?_
    refine ob_sl hcr0_1 H fun h29 H => ?_
    have hs30 := sl_es hRr0_1 rfl hcr0_1 h29
    intro n31 hn32
    obtain rfl : n31 = ((a0.2.1.drop a0.2.2.2.toNat).take (((a0.2.1.length : Nat) : Int).toNat - a0.2.2.2.toNat)).length := hn32.trans hs30.2.1.symm
    refine And.intro ?_ trivial
    refine rs_st hs30.1 (es_len.trans (Nat.mul_one _).symm) ?_
    refine And.intro ⟨by first | omega | (dsimp only; omega), es_one⟩ ?_
    intro r33 n35 zs37 hr34 hn36 hz38
    subst hr34
    subst hn36
    have hl39 : (cpy (cpy (List.replicate v7.toNat (⟨#[]⟩ : ByteArray)) 0 ((a0.2.1.drop (0 : Int).toNat).take (a0.2.2.1.toNat - (0 : Int).toNat)) (min (((a0.2.1.drop (0 : Int).toNat).take (a0.2.2.1.toNat - (0 : Int).toNat)).length) v7.toNat)) ((((min (((a0.2.1.drop (0 : Int).toNat).take (a0.2.2.1.toNat - (0 : Int).toNat)).length) v7.toNat) : Nat) : Int).toNat) ((a0.2.1.drop a0.2.2.2.toNat).take (((a0.2.1.length : Nat) : Int).toNat - a0.2.2.2.toNat)) (min (((a0.2.1.drop a0.2.2.2.toNat).take (((a0.2.1.length : Nat) : Int).toNat - a0.2.2.2.toNat)).length) (((v7.toNat : Nat) : Int).toNat - (((min (((a0.2.1.drop (0 : Int).toNat).take (a0.2.2.1.toNat - (0 : Int).toNat)).length) v7.toNat) : Nat) : Int).toNat))).length = (cpy (List.replicate v7.toNat (⟨#[]⟩ : ByteArray)) 0 ((a0.2.1.drop (0 : Int).toNat).take (a0.2.2.1.toNat - (0 : Int).toNat)) (min (((a0.2.1.drop (0 : Int).toNat).take (a0.2.2.1.toNat - (0 : Int).toNat)).length) v7.toNat)).length := len_cpy (by first | omega | (dsimp only; omega)) (by first | omega | (rw [len_vw (by omega)]; omega) | (dsimp only; rw [len_vw (by omega)]; omega))
    obtain rfl : zs37 = es (cpy (cpy (List.replicate v7.toNat (⟨#[]⟩ : ByteArray)) 0 ((a0.2.1.drop (0 : Int).toNat).take (a0.2.2.1.toNat - (0 : Int).toNat)) (min (((a0.2.1.drop (0 : Int).toNat).take (a0.2.2.1.toNat - (0 : Int).toNat)).length) v7.toNat)) ((((min (((a0.2.1.drop (0 : Int).toNat).take (a0.2.2.1.toNat - (0 : Int).toNat)).length) v7.toNat) : Nat) : Int).toNat) ((a0.2.1.drop a0.2.2.2.toNat).take (((a0.2.1.length : Nat) : Int).toNat - a0.2.2.2.toNat)) (min (((a0.2.1.drop a0.2.2.2.toNat).take (((a0.2.1.length : Nat) : Int).toNat - a0.2.2.2.toNat)).length) (((v7.toNat : Nat) : Int).toNat - (((min (((a0.2.1.drop (0 : Int).toNat).take (a0.2.2.1.toNat - (0 : Int).toNat)).length) v7.toNat) : Nat) : Int).toNat))) := hz38.trans es_cpy.symm
    refine And.intro ⟨fun _ _ _ h => h⟩ ?_
    have hfin := fin_st H
    repeat refine mf1_LiftG2 ?_
    first | exact trivial | exact rfl

/-- (*placard/gap.Buffer).widen -/
noncomputable def g57 (a0 : (Int × List ByteArray × Int × Int)) (a1 : Int) : Option ((Int × List ByteArray × Int × Int)) :=
  ck (inR .i64 (a0.2.2.2 - a0.2.2.1)) <|
  if a1 ≤ (a0.2.2.2 - a0.2.2.1) then
    some (a0.1, a0.2.1, a0.2.2.1, a0.2.2.2)
  else
    (
      (g48 (a0.1, a0.2.1, a0.2.2.1, a0.2.2.2)).bind fun v44 =>
      ck (inR .i64 (a1 + v44)) <|
      ck (inR .i64 ((a1 + v44) + 8)) <|
      ck (inR .i64 (((a0.2.1.length : Nat) : Int) + ((a1 + v44) + 8))) <|
      ck (0 ≤ ((a0.2.1.length : Nat) : Int) + ((a1 + v44) + 8) ∧ ((a0.2.1.length : Nat) : Int) + ((a1 + v44) + 8) ≤ ((a0.2.1.length : Nat) : Int) + ((a1 + v44) + 8) ∧ ((a0.2.1.length : Nat) : Int) + ((a1 + v44) + 8) ≤ 9223372036854775807 ∧ (((a0.2.1.length : Nat) : Int) + ((a1 + v44) + 8)) * ((16 : Nat) : Int) ≤ 140737488355328) <|
      ck (0 ≤ (0 : Int) ∧ (0 : Int) ≤ a0.2.2.1 ∧ a0.2.2.1 ≤ ((a0.2.1.length : Nat) : Int)) <|
      ck (inR .i64 (a0.2.2.2 + ((a1 + v44) + 8))) <|
      ck (0 ≤ a0.2.2.2 + ((a1 + v44) + 8) ∧ a0.2.2.2 + ((a1 + v44) + 8) ≤ (((((a0.2.1.length : Nat) : Int) + ((a1 + v44) + 8)).toNat : Nat) : Int) ∧ (((((a0.2.1.length : Nat) : Int) + ((a1 + v44) + 8)).toNat : Nat) : Int) ≤ (((((a0.2.1.length : Nat) : Int) + ((a1 + v44) + 8)).toNat : Nat) : Int)) <|
      ck (0 ≤ a0.2.2.2 ∧ a0.2.2.2 ≤ ((a0.2.1.length : Nat) : Int) ∧ ((a0.2.1.length : Nat) : Int) ≤ ((a0.2.1.length : Nat) : Int)) <|
      ck (inR .i64 (a0.2.2.2 + ((a1 + v44) + 8))) <|
      some (a0.1, (cpy (cpy (List.replicate (((a0.2.1.length : Nat) : Int) + ((a1 + v44) + 8)).toNat (⟨#[]⟩ : ByteArray)) 0 ((a0.2.1.drop ((0 : Int).toNat)).take (a0.2.2.1.toNat - (0 : Int).toNat)) (min (a0.2.2.1.toNat - (0 : Int).toNat) ((((a0.2.1.length : Nat) : Int) + ((a1 + v44) + 8)).toNat))) ((a0.2.2.2 + ((a1 + v44) + 8)).toNat) ((a0.2.1.drop a0.2.2.2.toNat).take (((a0.2.1.length : Nat) : Int).toNat - a0.2.2.2.toNat)) (min (((a0.2.1.length : Nat) : Int).toNat - a0.2.2.2.toNat) ((((((a0.2.1.length : Nat) : Int) + ((a1 + v44) + 8)).toNat : Nat) : Int).toNat - (a0.2.2.2 + ((a1 + v44) + 8)).toNat))), a0.2.2.1, a0.2.2.2 + ((a1 + v44) + 8))
    )
noncomputable def k57 : Eng.CS := { f := 57, calm := false, more := 3, ι := (Int × List ByteArray × Int × Int) × Int × (Int × List ByteArray × Int × Int), ok := fun i => g57 i.1 i.2.1 = some i.2.2, rds := fun _ => [], args := fun i => [.w (.lp 0 0), .w (.v (.int .i64 (i.2.1)))], res := fun i => .tup [], L' := fun i => [(0, .cells 43 [.v (.int .i64 (i.2.2.1)), .own 2, .v (.int .i64 (i.2.2.2.2.1)), .v (.int .i64 (i.2.2.2.2.2))]), (2, .arr 9 1 i.2.2.2.1.length (es i.2.2.2.1))], rn := [(100000, 1, 9, 1)], keys := 2, L := fun i => [(0, .cells 43 [.v (.int .i64 (i.1.1)), .own 1, .v (.int .i64 (i.1.2.2.1)), .v (.int .i64 (i.1.2.2.2))]), (1, .arr 9 1 i.1.2.1.length (es i.1.2.1))] }
set_option maxRecDepth 8000 in
set_option maxHeartbeats 4000000 in
theorem k57_ok : CSOk Try.prog k57 := by
  refine R.cspec Try.func57 nm57 rfl ?_
  rintro ⟨a0, a1, r⟩ hok q _ args hargs
  dsimp only [k57] at hargs ⊢
  match args, hargs with
  | [_, _], hargs =>
  obtain ⟨rfl, rfl, _⟩ := hargs
  refine ⟨envC [k48] false [], 6, envC_ok (css_cons ⟨fun _ => k48_ok, fun h => (by cases h)⟩ (css_nil)), ?_⟩
  have H : Gives (g57 a0 a1) (fun a => a = r) := ⟨r, hok, rfl⟩
  unfold g57 at H
  clear hok
  refine And.intro ⟨by kernel_rfl⟩ ?_
  refine ob_ck H fun h42 H => ?_
  refine if_st H (fun h43 H => ?_) (fun h43 H => ?_)
  · have hfin := fin_st H
    repeat refine mf1_LiftG2 ?_
    first | exact trivial | exact rfl
  · obtain ⟨v44, hv45, H⟩ := call_st H
    refine ⟨((a0.1, a0.2.1, a0.2.2.1, a0.2.2.2), v44), ⟨hv45⟩, ⟨trivial⟩, ?_⟩
    refine mo1_LiftG2 ?_
    refine mo1_LiftG2 ?_
    refine mo1_LiftG2 ?_
    refine mo1_LiftG2 ?_
    refine ob_ck H fun h46 H => ?_
    refine ob_ck H fun h47 H => ?_
    refine ob_ck H fun h48 H => ?_
    refine ob_ck H fun h54 H => ?_
    intro n49 zs51 hn50 hz52
    subst hn50
    have hl53 : (List.replicate (((a0.2.1.length : Nat) : Int) + ((a1 + v44) + 8)).toNat (⟨#[]⟩ : ByteArray)).length = (((a0.2.1.length : Nat) : Int) + ((a1 + v44) + 8)).toNat := List.length_replicate
    obtain rfl : zs51 = es (List.replicate (((a0.2.1.length : Nat) : Int) + ((a1 + v44) + 8)).toNat (⟨#[]⟩ : ByteArray)) := hz52.trans es_rep.symm
    refine And.intro ⟨by kernel_rfl⟩ ?_
    refine ⟨(Pn.calm 0 (Pn.calm 1 (Pn.calm 2 (Pn.calm 3 (Pn.calm 4 (Pn.calm 5 (Pn.calm 6 (Pn.calm 7 (Pn.calm 8 (Pn.calm 9 (Pn.eff 10 [0, 9, 4, 8, 3, 7, 2, 6, 1, 5] Pn.done Pn.no))))))))))), ⟨by kernel_rfl⟩, ?_⟩
    refine ob_ck H fun h55 H => ?_
    try dsimp only at h55
    intro n56 hn57
    subst hn57
    refine And.intro ?_ trivial
    refine And.intro ⟨by first | omega | (dsimp only; omega)⟩ ?_
    refine And.intro ⟨(vw_one es_one)⟩ ?_
    intro r58 n60 zs62 hr59 hn61 hz63
    subst hr59
    subst hn61
    have hl64 : (cpy (List.replicate (((a0.2.1.length : Nat) : Int) + ((a1 + v44) + 8)).toNat (⟨#[]⟩ : ByteArray)) 0 ((a0.2.1.drop ((0 : Int).toNat)).take (a0.2.2.1.toNat - (0 : Int).toNat)) (min (a0.2.2.1.toNat - (0 : Int).toNat) ((((a0.2.1.length : Nat) : Int) + ((a1 + v44) + 8)).toNat))).length = (List.replicate (((a0.2.1.length : Nat) : Int) + ((a1 + v44) + 8)).toNat (⟨#[]⟩ : ByteArray)).length := len_cpy (by first | omega | (dsimp only; omega)) (by first | omega | (rw [len_vw (by omega)]; omega) | (dsimp only; rw [len_vw (by omega)]; omega))
    obtain rfl : zs62 = es (cpy (List.replicate (((a0.2.1.length : Nat) : Int) + ((a1 + v44) + 8)).toNat (⟨#[]⟩ : ByteArray)) 0 ((a0.2.1.drop ((0 : Int).toNat)).take (a0.2.2.1.toNat - (0 : Int).toNat)) (min (a0.2.2.1.toNat - (0 : Int).toNat) ((((a0.2.1.length : Nat) : Int) + ((a1 + v44) + 8)).toNat))) := by rw [hz63, es_vw]; exact es_cpy0.symm
    refine And.intro ⟨fun _ _ _ h => h⟩ ?_
    refine And.intro ⟨by kernel_rfl⟩ ?_
    refine ⟨(Pn.calm 0 (Pn.calm 1 (Pn.calm 2 (Pn.calm 3 (Pn.calm 4 (Pn.calm 5 (Pn.calm 6 (Pn.calm 7 (Pn.calm 8 (Pn.calm 9 (Pn.calm 10 (Pn.calm 11 (Pn.calm 12 (Pn.calm 13 (Pn.calm 14 (Pn.calm 15 (Pn.calm 16 (Pn.eff 17 [7, 16, 0, 6, 11, 15, 4, 5, 10, 14, 3, 9, 13, 2, 8, 12, 1] Pn.done Pn.no)))))))))))))))))), ⟨by kernel_rfl⟩, ?_⟩
    refine ob_ck H fun h65 H => ?_
    refine ob_ck H fun h66 H => ?_
    try dsimp only at h66
    intro n67 hn68
    subst hn68
    refine ob_ck H fun h69 H => ?_
    try dsimp only at h69
    intro n70 hn71
    subst hn71
    refine And.intro ?_ trivial
    refine And.intro ⟨by first | omega | (dsimp only; omega)⟩ ?_
    refine And.intro ⟨by first | omega | (dsimp only; omega), (vw_one es_one)⟩ ?_
    intro r72 n74 zs76 hr73 hn75 hz77
    subst hr73
    subst hn75
    have hl78 : (cpy (cpy (List.replicate (((a0.2.1.length : Nat) : Int) + ((a1 + v44) + 8)).toNat (⟨#[]⟩ : ByteArray)) 0 ((a0.2.1.drop ((0 : Int).toNat)).take (a0.2.2.1.toNat - (0 : Int).toNat)) (min (a0.2.2.1.toNat - (0 : Int).toNat) ((((a0.2.1.length : Nat) : Int) + ((a1 + v44) + 8)).toNat))) ((a0.2.2.2 + ((a1 + v44) + 8)).toNat) ((a0.2.1.drop a0.2.2.2.toNat).take (((a0.2.1.length : Nat) : Int).toNat - a0.2.2.2.toNat)) (min (((a0.2.1.length : Nat) : Int).toNat - a0.2.2.2.toNat) ((((((a0.2.1.length : Nat) : Int) + ((a1 + v44) + 8)).toNat : Nat) : Int).toNat - (a0.2.2.2 + ((a1 + v44) + 8)).toNat))).length = (cpy (List.replicate (((a0.2.1.length : Nat) : Int) + ((a1 + v44) + 8)).toNat (⟨#[]⟩ : ByteArray)) 0 ((a0.2.1.drop ((0 : Int).toNat)).take (a0.2.2.1.toNat - (0 : Int).toNat)) (min (a0.2.2.1.toNat - (0 : Int).toNat) ((((a0.2.1.length : Nat) : Int) + ((a1 + v44) + 8)).toNat))).length := len_cpy (by first | omega | (dsimp only; omega)) (by first | omega | (rw [len_vw (by omega)]; omega) | (dsimp only; rw [len_vw (by omega)]; omega))
    obtain rfl : zs76 = es (cpy (cpy (List.replicate (((a0.2.1.length : Nat) : Int) + ((a1 + v44) + 8)).toNat (⟨#[]⟩ : ByteArray)) 0 ((a0.2.1.drop ((0 : Int).toNat)).take (a0.2.2.1.toNat - (0 : Int).toNat)) (min (a0.2.2.1.toNat - (0 : Int).toNat) ((((a0.2.1.length : Nat) : Int) + ((a1 + v44) + 8)).toNat))) ((a0.2.2.2 + ((a1 + v44) + 8)).toNat) ((a0.2.1.drop a0.2.2.2.toNat).take (((a0.2.1.length : Nat) : Int).toNat - a0.2.2.2.toNat)) (min (((a0.2.1.length : Nat) : Int).toNat - a0.2.2.2.toNat) ((((((a0.2.1.length : Nat) : Int) + ((a1 + v44) + 8)).toNat : Nat) : Int).toNat - (a0.2.2.2 + ((a1 + v44) + 8)).toNat))) := by rw [hz77, es_vw]; exact es_cpy.symm
    refine And.intro ⟨fun _ _ _ h => h⟩ ?_
    refine ob_ck H fun h79 H => ?_
    have hfin := fin_st H
    repeat refine mf1_LiftG2 ?_
    first | exact trivial | exact rfl

/-- (*placard/gap.Buffer).Move -/
noncomputable def g12 (a0 : (Int × List ByteArray × Int × Int)) (a1 : Int) : Option (Int × (Int × List ByteArray × Int × Int)) :=
  (g47 (a0.1, a0.2.1, a0.2.2.1, a0.2.2.2)).bind fun v83 =>
  if ¬ (v83 = true) then
    some (0, (a0.1, a0.2.1, a0.2.2.1, a0.2.2.2))
  else
    (
      (g49 (a0.1, a0.2.1, a0.2.2.1, a0.2.2.2) a1).bind fun v86 =>
      if v86 < a0.2.2.1 then
        (
          ck (inR .i64 (a0.2.2.1 - v86)) <|
          ck (inR .i64 (a0.2.2.2 - (a0.2.2.1 - v86))) <|
          ck (0 ≤ a0.2.2.2 - (a0.2.2.1 - v86) ∧ a0.2.2.2 - (a0.2.2.1 - v86) ≤ a0.2.2.2 ∧ a0.2.2.2 ≤ ((a0.2.1.length : Nat) : Int)) <|
          ck (0 ≤ v86 ∧ v86 ≤ a0.2.2.1 ∧ a0.2.2.1 ≤ ((a0.2.1.length : Nat) : Int)) <|
          ck (inR .i64 (a0.2.2.2 - (a0.2.2.1 - v86))) <|
          some (v86, (a0.1, (cpy a0.2.1 ((a0.2.2.2 - (a0.2.2.1 - v86)).toNat) ((a0.2.1.drop v86.toNat).take (a0.2.2.1.toNat - v86.toNat)) (min (a0.2.2.1.toNat - v86.toNat) (a0.2.2.2.toNat - (a0.2.2.2 - (a0.2.2.1 - v86)).toNat))), v86, a0.2.2.2 - (a0.2.2.1 - v86)))
        )
      else
        (
          ck (inR .i64 (v86 - a0.2.2.1)) <|
          ck (0 ≤ a0.2.2.1 ∧ a0.2.2.1 ≤ ((a0.2.1.length : Nat) : Int) ∧ ((a0.2.1.length : Nat) : Int) ≤ ((a0.2.1.length : Nat) : Int)) <|
          ck (inR .i64 (a0.2.2.2 + (v86 - a0.2.2.1))) <|
          ck (0 ≤ a0.2.2.2 ∧ a0.2.2.2 ≤ a0.2.2.2 + (v86 - a0.2.2.1) ∧ a0.2.2.2 + (v86 - a0.2.2.1) ≤ ((a0.2.1.length : Nat) : Int)) <|
          ck (inR .i64 (a0.2.2.2 + (v86 - a0.2.2.1))) <|
          some (v86, (a0.1, (cpy a0.2.1 a0.2.2.1.toNat ((a0.2.1.drop a0.2.2.2.toNat).take ((a0.2.2.2 + (v86 - a0.2.2.1)).toNat - a0.2.2.2.toNat)) (min ((a0.2.2.2 + (v86 - a0.2.2.1)).toNat - a0.2.2.2.toNat) (((a0.2.1.length : Nat) : Int).toNat - a0.2.2.1.toNat))), v86, a0.2.2.2 + (v86 - a0.2.2.1)))
        )
    )
noncomputable def k12 : Eng.CS := { f := 12, calm := false, more := 3, ι := (Int × List ByteArray × Int × Int) × Int × (Int × (Int × List ByteArray × Int × Int)), ok := fun i => g12 i.1 i.2.1 = some i.2.2, rds := fun _ => [], args := fun i => [.w (.lp 0 0), .w (.v (.int .i64 (i.2.1)))], res := fun i => .v (.int .i64 (i.2.2.1)), L' := fun i => [(0, .cells 43 [.v (.int .i64 (i.2.2.2.1)), .own 2, .v (.int .i64 (i.2.2.2.2.2.1)), .v (.int .i64 (i.2.2.2.2.2.2))]), (2, .arr 9 1 i.2.2.2.2.1.length (es i.2.2.2.2.1))], rn := [(100000, 1, 9, 1)], keys := 2, L := fun i => [(0, .cells 43 [.v (.int .i64 (i.1.1)), .own 1, .v (.int .i64 (i.1.2.2.1)), .v (.int .i64 (i.1.2.2.2))]), (1, .arr 9 1 i.1.2.1.length (es i.1.2.1))] }
set_option maxRecDepth 8000 in
set_option maxHeartbeats 4000000 in
theorem k12_ok : CSOk Try.prog k12 := by
  refine R.cspec Try.func12 nm12 rfl ?_
  rintro ⟨a0, a1, r⟩ hok q _ args hargs
  dsimp only [k12] at hargs ⊢
  match args, hargs with
  | [_, _], hargs =>
  obtain ⟨rfl, rfl, _⟩ := hargs
  refine ⟨envC [k47, k49] false [], 6, envC_ok (css_cons ⟨fun _ => k47_ok, fun h => (by cases h)⟩ (css_cons ⟨fun _ => k49_ok, fun h => (by cases h)⟩ (css_nil))), ?_⟩
  have H : Gives (g12 a0 a1) (fun a => a = r) := ⟨r, hok, rfl⟩
  unfold g12 at H
  clear hok
  obtain ⟨v83, hv84, H⟩ := call_st H
  refine ⟨((a0.1, a0.2.1, a0.2.2.1, a0.2.2.2), v83), ⟨hv84⟩, ⟨trivial⟩, ?_⟩
  refine mo1_LiftG2 ?_
  refine mo1_LiftG2 ?_
  refine mo1_LiftG2 ?_
  refine mo1_LiftG2 ?_
  refine if_st H (fun h85 H => ?_) (fun h85 H => ?_)
  · have hfin := fin_st H
    repeat refine mf1_LiftG2 ?_
    first | exact trivial | exact rfl
  · obtain ⟨v86, hv87, H⟩ := call_st H
    refine ⟨((a0.1, a0.2.1, a0.2.2.1, a0.2.2.2), a1, v86), ⟨hv87⟩, ⟨trivial⟩, ?_⟩
    refine mo1_LiftG2 ?_
    refine mo1_LiftG2 ?_
    refine mo1_LiftG2 ?_
    refine mo1_LiftG2 ?_
    refine And.intro ⟨rfl⟩ ?_
    refine if_st H (fun h121 H => ?_) (fun h121 H => ?_)
    · refine ob_ck H fun h122 H => ?_
      refine And.intro ⟨by kernel_rfl⟩ ?_
      refine ⟨(Pn.calm 0 (Pn.calm 1 (Pn.calm 2 (Pn.calm 3 (Pn.calm 4 (Pn.calm 5 (Pn.calm 6 (Pn.calm 7 (Pn.calm 8 (Pn.calm 9 (Pn.calm 10 (Pn.calm 11 (Pn.calm 12 (Pn.calm 13 (Pn.calm 14 (Pn.calm 15 (Pn.calm 16 (Pn.calm 17 (Pn.calm 18 (Pn.calm 19 (Pn.calm 20 (Pn.calm 21 (Pn.calm 22 (Pn.calm 23 (Pn.calm 24 (Pn.eff 25 [14, 24, 3, 9, 13, 18, 19, 23, 2, 7, 8, 12, 17, 22, 1, 6, 11, 16, 21, 0, 5, 10, 15, 20, 4] Pn.done Pn.no)))))))))))))))))))))))))), ⟨by kernel_rfl⟩, ?_⟩
      refine ob_ck H fun h123 H => ?_
      refine ob_ck H fun h124 H => ?_
      try dsimp only at h124
      intro n125 hn126
      subst hn126
      refine ob_ck H fun h127 H => ?_
      try dsimp only at h127
      intro n128 hn129
      subst hn129
      refine And.intro ?_ trivial
      refine And.intro ⟨by first | omega | (dsimp only; omega)⟩ ?_
      refine And.intro ⟨by first | omega | (dsimp only; omega), (vw_one es_one)⟩ ?_
      intro r130 n132 zs134 hr131 hn133 hz135
      subst hr131
      subst hn133
      have hl136 : (cpy a0.2.1 ((a0.2.2.2 - (a0.2.2.1 - v86)).toNat) ((a0.2.1.drop v86.toNat).take (a0.2.2.1.toNat - v86.toNat)) (min (a0.2.2.1.toNat - v86.toNat) (a0.2.2.2.toNat - (a0.2.2.2 - (a0.2.2.1 - v86)).toNat))).length = a0.2.1.length := len_cpy (by first | omega | (dsimp only; omega)) (by first | omega | (rw [len_vw (by omega)]; omega) | (dsimp only; rw [len_vw (by omega)]; omega))
      obtain rfl : zs134 = es (cpy a0.2.1 ((a0.2.2.2 - (a0.2.2.1 - v86)).toNat) ((a0.2.1.drop v86.toNat).take (a0.2.2.1.toNat - v86.toNat)) (min (a0.2.2.1.toNat - v86.toNat) (a0.2.2.2.toNat - (a0.2.2.2 - (a0.2.2.1 - v86)).toNat))) := by rw [hz135, es_vw]; exact es_cpy.symm
      refine And.intro ⟨fun _ _ _ h => h⟩ ?_
      refine ob_ck H fun h137 H => ?_
      have hfin := fin_st H
      repeat refine mf1_LiftG2 ?_
      first | exact trivial | exact rfl
    · refine ob_ck H fun h138 H => ?_
      refine And.intro ⟨by kernel_rfl⟩ ?_
      refine ⟨(Pn.calm 0 (Pn.calm 1 (Pn.calm 2 (Pn.calm 3 (Pn.calm 4 (Pn.calm 5 (Pn.calm 6 (Pn.calm 7 (Pn.calm 8 (Pn.calm 9 (Pn.calm 10 (Pn.calm 11 (Pn.calm 12 (Pn.calm 13 (Pn.calm 14 (Pn.calm 15 (Pn.calm 16 (Pn.calm 17 (Pn.calm 18 (Pn.calm 19 (Pn.calm 20 (Pn.calm 21 (Pn.calm 22 (Pn.calm 23 (Pn.eff 24 [8, 23, 3, 7, 12, 16, 22, 2, 6, 11, 15, 20, 21, 1, 5, 10, 14, 19, 0, 4, 9, 13, 18, 17] Pn.done Pn.no))))))))))))))))))))))))), ⟨by kernel_rfl⟩, ?_⟩
      refine ob_ck H fun h139 H => ?_
      try dsimp only at h139
      intro n140 hn141
      subst hn141
      refine ob_ck H fun h142 H => ?_
      refine ob_ck H fun h143 H => ?_
      try dsimp only at h143
      intro n144 hn145
      subst hn145
      refine And.intro ?_ trivial
      refine And.intro ⟨by first | omega | (dsimp only; omega)⟩ ?_
      refine And.intro ⟨by first | omega | (dsimp only; omega), (vw_one es_one)⟩ ?_
      intro r146 n148 zs150 hr147 hn149 hz151
      subst hr147
      subst hn149
      have hl152 : (cpy a0.2.1 a0.2.2.1.toNat ((a0.2.1.drop a0.2.2.2.toNat).take ((a0.2.2.2 + (v86 - a0.2.2.1)).toNat - a0.2.2.2.toNat)) (min ((a0.2.2.2 + (v86 - a0.2.2.1)).toNat - a0.2.2.2.toNat) (((a0.2.1.length : Nat) : Int).toNat - a0.2.2.1.toNat))).length = a0.2.1.length := len_cpy (by first | omega | (dsimp only; omega)) (by first | omega | (rw [len_vw (by omega)]; omega) | (dsimp only; rw [len_vw (by omega)]; omega))
      obtain rfl : zs150 = es (cpy a0.2.1 a0.2.2.1.toNat ((a0.2.1.drop a0.2.2.2.toNat).take ((a0.2.2.2 + (v86 - a0.2.2.1)).toNat - a0.2.2.2.toNat)) (min ((a0.2.2.2 + (v86 - a0.2.2.1)).toNat - a0.2.2.2.toNat) (((a0.2.1.length : Nat) : Int).toNat - a0.2.2.1.toNat))) := by rw [hz151, es_vw]; exact es_cpy.symm
      refine And.intro ⟨fun _ _ _ h => h⟩ ?_
      refine ob_ck H fun h153 H => ?_
      have hfin := fin_st H
      repeat refine mf1_LiftG2 ?_
      first | exact trivial | exact rfl

end Go.Proofs.Ytenjkphlbdhaiaa
