/-
  Functions of the program, lifted: each with its walk. Printed by lift.py.
  Nothing here is trusted.
-/
import Derived.Test.YtenjkphlbdhaiaaLiftC1
import Derived.Test.YtenjkphlbdhaiaaLiftG2
set_option linter.unusedVariables false
set_option linter.unusedSimpArgs false
namespace Go.Proofs.Ytenjkphlbdhaiaa
open Go Go.Eng

theorem mo1_LiftG3 {p q : Prop} (k : q) (h : p := by first | exact rfl | exact Iff.rfl | exact ⟨rfl, rfl⟩ | exact decide_eq_true_iff | (constructor <;> first | exact rfl | (simp only [ei, eb, es, ec, c135, gmin, gmax, List.map_append, List.flatMap_append, List.nil_append, List.append_nil, List.append_assoc]; done) | omega | (simp only [List.nil_append, List.length_append, List.length_cons, List.length_nil]; omega) | (simp [ei, eb, es, ec, c135, gmin, gmax]; done)) | exact rfl | (simp only [ei, eb, es, ec, c135, gmin, gmax, List.map_append, List.flatMap_append, List.nil_append, List.append_nil, List.append_assoc]; done) | omega | (simp only [List.nil_append, List.length_append, List.length_cons, List.length_nil]; omega) | (simp [ei, eb, es, ec, c135, gmin, gmax]; done) | simp [ei, eb, es, ec, c135, gmin, gmax]) : Ob p ∧ q := ⟨⟨h⟩, k⟩
theorem mf1_LiftG3 {p q : Prop} (k : q) (h : p := by first | (rw [← hfin] <;> first | exact rfl | exact Iff.rfl | exact ⟨rfl, rfl⟩ | exact decide_eq_true_iff | (constructor <;> first | exact rfl | (simp only [ei, eb, es, ec, c135, gmin, gmax, List.map_append, List.flatMap_append, List.nil_append, List.append_nil, List.append_assoc]; done) | omega | (simp only [List.nil_append, List.length_append, List.length_cons, List.length_nil]; omega) | (simp [ei, eb, es, ec, c135, gmin, gmax]; done)) | exact rfl | (simp only [ei, eb, es, ec, c135, gmin, gmax, List.map_append, List.flatMap_append, List.nil_append, List.append_nil, List.append_assoc]; done) | omega | (simp only [List.nil_append, List.length_append, List.length_cons, List.length_nil]; omega) | (simp [ei, eb, es, ec, c135, gmin, gmax]; done) | simp [ei, eb, es, ec, c135, gmin, gmax]) | first | exact rfl | exact Iff.rfl | exact ⟨rfl, rfl⟩ | exact decide_eq_true_iff | (constructor <;> first | exact rfl | (simp only [ei, eb, es, ec, c135, gmin, gmax, List.map_append, List.flatMap_append, List.nil_append, List.append_nil, List.append_assoc]; done) | omega | (simp only [List.nil_append, List.length_append, List.length_cons, List.length_nil]; omega) | (simp [ei, eb, es, ec, c135, gmin, gmax]; done)) | exact rfl | (simp only [ei, eb, es, ec, c135, gmin, gmax, List.map_append, List.flatMap_append, List.nil_append, List.append_nil, List.append_assoc]; done) | omega | (simp only [List.nil_append, List.length_append, List.length_cons, List.length_nil]; omega) | (simp [ei, eb, es, ec, c135, gmin, gmax]; done) | simp [ei, eb, es, ec, c135, gmin, gmax]) : Ob p ∧ q := ⟨⟨h⟩, k⟩
/-- (*placard/gap.Buffer).Insert -/
noncomputable def g21 (a0 : (Int × List ByteArray × Int × Int)) (a1 : List ByteArray) : Option (Int × (Int × List ByteArray × Int × Int)) :=
  (g47 (a0.1, a0.2.1, a0.2.2.1, a0.2.2.2)).bind fun v4 =>
  if ¬ (v4 = true) then
    some (4, (a0.1, a0.2.1, a0.2.2.1, a0.2.2.2))
  else
    (
      jn (α := _) (β := Unit) (fun k39 =>
          (loopO (σ := Int) (ρ := (Unit) ⊕ (Unit)) (fun s42 =>
              if s42 < ((a1.length : Nat) : Int) then
                (
                  ck (0 ≤ s42 ∧ s42 < ((a1.length : Nat) : Int)) <|
                  (g56 (a1.getD s42.toNat default)).bind fun v59 =>
                  if ¬ (v59 = true) then
                    some (.out (.inl (())))
                  else
                    (
                      ck (inR .i64 (s42 + 1)) <|
                      some (.go (s42 + 1))
                    )
                )
              else
                some (.out (.inr (())))
            ) 0).bind fun o56 =>
          sm o56 (fun o63 =>
              some (1, (a0.1, a0.2.1, a0.2.2.1, a0.2.2.2))
            ) (fun o64 =>
              k39 ()
            )
      ) (fun v38 =>
        (g48 (a0.1, a0.2.1, a0.2.2.1, a0.2.2.2)).bind fun v70 =>
        ck (inR .i64 (a0.1 - v70)) <|
        if (a0.1 - v70) < ((a1.length : Nat) : Int) then
          some (3, (a0.1, a0.2.1, a0.2.2.1, a0.2.2.2))
        else
          (
            (g57 (a0.1, a0.2.1, a0.2.2.1, a0.2.2.2) ((a1.length : Nat) : Int)).bind fun v74 =>
            ck (0 ≤ v74.2.2.1 ∧ v74.2.2.1 ≤ v74.2.2.2 ∧ v74.2.2.2 ≤ ((v74.2.1.length : Nat) : Int)) <|
            ck (inR .i64 (v74.2.2.1 + (((min a1.length (v74.2.2.2.toNat - v74.2.2.1.toNat)) : Nat) : Int))) <|
            some (0, (v74.1, (cpy v74.2.1 v74.2.2.1.toNat a1 (min a1.length (v74.2.2.2.toNat - v74.2.2.1.toNat))), v74.2.2.1 + (((min a1.length (v74.2.2.2.toNat - v74.2.2.1.toNat)) : Nat) : Int), v74.2.2.2))
          )
      )
    )
noncomputable def k21 : Eng.CS := { f := 21, calm := false, more := 3, ι := (Int × List ByteArray × Int × Int) × (List ByteArray) × (Int × (Int × List ByteArray × Int × Int)), ok := fun i => g21 i.1 i.2.1 = some i.2.2, rds := fun _ => [], args := fun i => [.w (.lp 0 0), .sl 1 i.2.1.length (es i.2.1)], res := fun i => .v (.int .i64 (i.2.2.1)), L' := fun i => [(0, .cells 43 [.v (.int .i64 (i.2.2.2.1)), .own 2, .v (.int .i64 (i.2.2.2.2.2.1)), .v (.int .i64 (i.2.2.2.2.2.2))]), (2, .arr 9 1 i.2.2.2.2.1.length (es i.2.2.2.2.1))], rn := [(100000, 1, 9, 1)], keys := 2, L := fun i => [(0, .cells 43 [.v (.int .i64 (i.1.1)), .own 1, .v (.int .i64 (i.1.2.2.1)), .v (.int .i64 (i.1.2.2.2))]), (1, .arr 9 1 i.1.2.1.length (es i.1.2.1))] }
set_option maxRecDepth 8000 in
set_option maxHeartbeats 4000000 in
theorem k21_ok : CSOk Try.prog k21 := by
  refine R.cspec Try.func21 nm21 rfl ?_
  rintro ⟨a0, a1, r⟩ hok q _ args hargs
  dsimp only [k21] at hargs ⊢
  match args, hargs with
  | [_, _], hargs =>
  obtain ⟨rfl, ⟨A1, cp1, rfl, hc1, _, hR1⟩, _⟩ := hargs
  refine ⟨envC [k47, k48, k56, k57] false [(21, 9)], 6, envC_ok (css_cons ⟨fun _ => k47_ok, fun h => (by cases h)⟩ (css_cons ⟨fun _ => k48_ok, fun h => (by cases h)⟩ (css_cons ⟨fun _ => k56_ok, fun h => (by cases h)⟩ (css_cons ⟨fun h => (by cases h), fun _ => k57_ok⟩ (css_nil))))), ?_⟩
  have H : Gives (g21 a0 a1) (fun a => a = r) := ⟨r, hok, rfl⟩
  unfold g21 at H
  clear hok
  obtain ⟨v4, hv5, H⟩ := call_st H
  refine ⟨((a0.1, a0.2.1, a0.2.2.1, a0.2.2.2), v4), ⟨hv5⟩, ⟨trivial⟩, ?_⟩
  refine mo1_LiftG3 ?_
  refine mo1_LiftG3 ?_
  refine mo1_LiftG3 ?_
  refine mo1_LiftG3 ?_
  refine if_st H (fun h6 H => ?_) (fun h6 H => ?_)
  · have hfin := fin_st H
    repeat refine mf1_LiftG3 ?_
    first | exact trivial | exact rfl
  · refine R.cut_fam H 12 [0, 1] [] (fun v38 => []) (fun v38 => []) [(1, .arr 9 1 (a0.2.1.length) (es (a0.2.1))), (0, .cells 43 [.v (.int .i64 (a0.1)), .own 1, .v (.int .i64 (a0.2.2.1)), .v (.int .i64 (a0.2.2.2))])] 0 (fun H => ?_)
    refine And.intro ?_ ?_
    · refine R.loop_fam (bind_st H) [0, 1, 10, 11] [] (fun _ s42 => [(12, .v (.int .i64 (s42)))]) (fun _ s42 => []) 0 (fun n65 H => ?_)
      refine ⟨(n65, _), ⟨H⟩, ⟨trivial⟩, ?_⟩
      repeat refine mo1_LiftG3 ?_
      rintro ⟨m0, s42⟩ H _
      obtain ⟨m43, hm0, H⟩ := IG_succ H
      dsimp only at hm0
      subst hm0
      try dsimp only at H
      refine if_st H (fun h57 H => ?_) (fun h57 H => ?_)
      · refine ob_ix hR1 (fun h => es0 h) H fun h58 H => ?_
        refine ld_str (e := a1.getD s42.toNat default) (rd_get hR1 (es_get (l := a1) (tn h58))) ?_
        obtain ⟨v59, hv60, H⟩ := call_st H
        refine ⟨(a1.getD s42.toNat default, v59), ⟨hv60⟩, ⟨trivial⟩, ?_⟩
        refine And.intro ⟨rfl⟩ ?_
        refine if_st H (fun h61 H => ?_) (fun h61 H => ?_)
        · replace H := some_st H
          dsimp only [stp, sm] at H
          have hfin := fin_st H
          repeat refine mf1_LiftG3 ?_
          first | exact trivial | exact rfl
        · refine ob_ck H fun h62 H => ?_
          replace H := some_st H
          refine ⟨(m43, s42 + 1), ⟨H, Nat.lt_succ_self _⟩, ⟨trivial⟩, ⟨rfl⟩, ?_⟩
          repeat refine mo1_LiftG3 ?_
          first | exact trivial | exact rfl
      · replace H := some_st H
        dsimp only [stp, sm] at H
        refine ⟨(), ⟨H⟩, ⟨rfl⟩, ?_⟩
        repeat refine mo1_LiftG3 ?_
        first | exact trivial | exact rfl
    · intro v38 H
      refine And.intro ⟨by kernel_rfl⟩ ?_
      obtain ⟨v70, hv71, H⟩ := call_st H
      refine ⟨((a0.1, a0.2.1, a0.2.2.1, a0.2.2.2), v70), ⟨hv71⟩, ⟨trivial⟩, ?_⟩
      refine mo1_LiftG3 ?_
      refine mo1_LiftG3 ?_
      refine mo1_LiftG3 ?_
      refine mo1_LiftG3 ?_
      refine ob_ck H fun h72 H => ?_
      refine if_st H (fun h73 H => ?_) (fun h73 H => ?_)
      · have hfin := fin_st H
        repeat refine mf1_LiftG3 ?_
        first | exact trivial | exact rfl
      · obtain ⟨v74, hv75, H⟩ := call_st H
        refine ⟨((a0.1, a0.2.1, a0.2.2.1, a0.2.2.2), ((a1.length : Nat) : Int), v74), ⟨hv75⟩, ⟨trivial⟩, ?_⟩
        refine And.intro ⟨rfl⟩ ?_
        refine And.intro ⟨rfl⟩ ?_
        refine mo1_LiftG3 ?_
        refine mo1_LiftG3 ?_
        refine mo1_LiftG3 ?_
        refine mo1_LiftG3 ?_
        refine And.intro ⟨by kernel_rfl⟩ ?_
        refine ⟨(Pn.calm 0 (Pn.calm 1 (Pn.calm 2 (Pn.calm 3 (Pn.calm 4 (Pn.calm 5 (Pn.calm 6 (Pn.calm 7 (Pn.calm 8 (Pn.calm 9 (Pn.calm 10 (Pn.calm 11 (Pn.calm 12 (Pn.calm 13 (Pn.calm 14 (Pn.calm 15 (Pn.calm 16 (Pn.calm 17 (Pn.eff 18 [16, 17, 7, 11, 15, 6, 10, 14, 5, 9, 13, 4, 8, 12] (Pn.calm 19 (Pn.calm 20 (Pn.calm 21 (Pn.eff 22 [21, 19, 18, 0, 1, 2, 3, 4, 5, 6, 7, 8, 9, 10, 11, 12, 13, 14, 15, 16, 17, 20] Pn.done Pn.no)))) Pn.no))))))))))))))))))), ⟨by kernel_rfl⟩, ?_⟩
        refine ob_ck H fun h76 H => ?_
        try dsimp only at h76
        intro n77 hn78
        subst hn78
        refine And.intro ?_ trivial
        refine rs_st hR1 (es_len.trans (Nat.mul_one _).symm) ?_
        refine And.intro ⟨by first | omega | (dsimp only; omega), es_one⟩ ?_
        intro r79 n81 zs83 hr80 hn82 hz84
        subst hr80
        subst hn82
        have hl85 : (cpy v74.2.1 v74.2.2.1.toNat a1 (min a1.length (v74.2.2.2.toNat - v74.2.2.1.toNat))).length = v74.2.1.length := len_cpy (by first | omega | (dsimp only; omega)) (by first | omega | (rw [len_vw (by omega)]; omega) | (dsimp only; rw [len_vw (by omega)]; omega))
        obtain rfl : zs83 = es (cpy v74.2.1 v74.2.2.1.toNat a1 (min a1.length (v74.2.2.2.toNat - v74.2.2.1.toNat))) := hz84.trans es_cpy.symm
        refine And.intro ⟨rfl⟩ ?_
        refine ob_ck H fun h86 H => ?_
        refine And.intro ?_ trivial
        refine And.intro ⟨fun _ _ _ h => h⟩ ?_
        have hfin := fin_st H
        repeat refine mf1_LiftG3 ?_
        first | exact trivial | exact rfl

end Go.Proofs.Ytenjkphlbdhaiaa
