/-
  Functions of the program, lifted: each with its walk. Printed by lift.py.
  Nothing here is trusted.
-/
import Derived.Test.YtenjkphlbdhaiaaDoorLiftD4
set_option linter.unusedVariables false
set_option linter.unusedSimpArgs false
namespace Go.Proofs.YtenjkphlbdhaiaaDoor
open Go Go.Eng

theorem mo1_LiftD5 {p q : Prop} (k : q) (h : p := by first | exact rfl | exact Iff.rfl | exact ⟨rfl, rfl⟩ | exact decide_eq_true_iff | (constructor <;> first | exact rfl | (simp only [ei, eb, es, ec, c51, gmin, gmax, List.map_append, List.flatMap_append, List.nil_append, List.append_nil, List.append_assoc]; done) | omega | (simp only [List.nil_append, List.length_append, List.length_cons, List.length_nil]; omega) | (simp [ei, eb, es, ec, c51, gmin, gmax]; done)) | exact rfl | (simp only [ei, eb, es, ec, c51, gmin, gmax, List.map_append, List.flatMap_append, List.nil_append, List.append_nil, List.append_assoc]; done) | omega | (simp only [List.nil_append, List.length_append, List.length_cons, List.length_nil]; omega) | (simp [ei, eb, es, ec, c51, gmin, gmax]; done) | simp [ei, eb, es, ec, c51, gmin, gmax]) : Ob p ∧ q := ⟨⟨h⟩, k⟩
theorem mf1_LiftD5 {p q : Prop} (k : q) (h : p := by first | (rw [← hfin] <;> first | exact rfl | exact Iff.rfl | exact ⟨rfl, rfl⟩ | exact decide_eq_true_iff | (constructor <;> first | exact rfl | (simp only [ei, eb, es, ec, c51, gmin, gmax, List.map_append, List.flatMap_append, List.nil_append, List.append_nil, List.append_assoc]; done) | omega | (simp only [List.nil_append, List.length_append, List.length_cons, List.length_nil]; omega) | (simp [ei, eb, es, ec, c51, gmin, gmax]; done)) | exact rfl | (simp only [ei, eb, es, ec, c51, gmin, gmax, List.map_append, List.flatMap_append, List.nil_append, List.append_nil, List.append_assoc]; done) | omega | (simp only [List.nil_append, List.length_append, List.length_cons, List.length_nil]; omega) | (simp [ei, eb, es, ec, c51, gmin, gmax]; done) | simp [ei, eb, es, ec, c51, gmin, gmax]) | first | exact rfl | exact Iff.rfl | exact ⟨rfl, rfl⟩ | exact decide_eq_true_iff | (constructor <;> first | exact rfl | (simp only [ei, eb, es, ec, c51, gmin, gmax, List.map_append, List.flatMap_append, List.nil_append, List.append_nil, List.append_assoc]; done) | omega | (simp only [List.nil_append, List.length_append, List.length_cons, List.length_nil]; omega) | (simp [ei, eb, es, ec, c51, gmin, gmax]; done)) | exact rfl | (simp only [ei, eb, es, ec, c51, gmin, gmax, List.map_append, List.flatMap_append, List.nil_append, List.append_nil, List.append_assoc]; done) | omega | (simp only [List.nil_append, List.length_append, List.length_cons, List.length_nil]; omega) | (simp [ei, eb, es, ec, c51, gmin, gmax]; done) | simp [ei, eb, es, ec, c51, gmin, gmax]) : Ob p ∧ q := ⟨⟨h⟩, k⟩
/-- placard/placardlaw07.awake -/
noncomputable def g12  : Option (Bool) :=
  (g9 ([], false, [], 0, true) ([27, 91, 49, 59, 53, 67, 27])).bind fun v7 =>
  (g15 (v7.2.1, v7.2.2.1, v7.2.2.2.1, v7.2.2.2.2.1, v7.2.2.2.2.2)).bind fun v9 =>
  (g10 v7.1 ([(11, (⟨#[]⟩ : ByteArray), 0, false, false, true)])).bind fun v11 =>
  if v11 = true then
    (
      (g10 v9.1 ([(5, (⟨#[]⟩ : ByteArray), 0, false, false, false)])).bind fun v14 =>
      if v14 = true then
        (
          (g11 (v9.2.1, v9.2.2.1, v9.2.2.2.1, v9.2.2.2.2.1, v9.2.2.2.2.2)).bind fun v17 =>
          if v17 = 0 then
            (
              ck (0 ≤ (0 : Int) ∧ 0 < ((v7.1.length : Nat) : Int)) <|
              (g21 ((v7.1.getD (0 : Int).toNat default).1, (v7.1.getD (0 : Int).toNat default).2.1, (v7.1.getD (0 : Int).toNat default).2.2.1, (decide (((v7.1.getD (0 : Int).toNat default).2.2.2.1) = true)), (decide (((v7.1.getD (0 : Int).toNat default).2.2.2.2.1) = true)), (decide (((v7.1.getD (0 : Int).toNat default).2.2.2.2.2) = true)))).bind fun v21 =>
              some (decide (v21.data.toList = (lit [99, 116, 108, 45, 114, 105, 103, 104, 116]).data.toList))
            )
          else
            some false
        )
      else
        some false
    )
  else
    some false
noncomputable def k12 : Eng.CS := { f := 12, calm := true, more := 0, ι := Bool, ok := fun i => g12  = some i, rds := fun _ => [], args := fun i => [], res := fun i => bS i }
set_option maxRecDepth 8000 in
set_option maxHeartbeats 4000000 in
theorem k12_ok : CalmOk Tryd.prog k12 := by
  refine R.calmspec Tryd.func12 nm12 rfl ?_
  rintro r hok q _ args hargs
  match args, hargs with
  | [], hargs =>
  refine ⟨envC [k9, k10, k11, k15, k21] false [], 6, envC_ok (css_cons ⟨fun h => (by cases h), fun _ => k9_ok⟩ (css_cons ⟨fun _ => k10_ok, fun h => (by cases h)⟩ (css_cons ⟨fun _ => k11_ok, fun h => (by cases h)⟩ (css_cons ⟨fun h => (by cases h), fun _ => k15_ok⟩ (css_cons ⟨fun _ => k21_ok, fun h => (by cases h)⟩ (css_nil)))))), rfl, (by intro x hx; cases hx), ?_⟩
  have H : Gives (g12 ) (fun a => a = r) := ⟨r, hok, rfl⟩
  unfold g12 at H
  clear hok
  refine And.intro ⟨by first | decide | omega | (simp; done)⟩ ?_
  intro q1 A2 c3 hq4 hc5 hR6
  replace hR6 : Reads q1 A2 (ei .u8 ([27, 91, 49, 59, 53, 67, 27])) := Eq.mp (congrArg (Reads q1 A2) (by first | exact rfl | (simp only [ei, eb, es, ec, c51, gmin, gmax, List.map_append, List.flatMap_append, List.nil_append, List.append_nil, List.append_assoc]; done))) hR6
  obtain ⟨v7, hv8, H⟩ := call_st H
  refine ⟨(([], false, [], 0, true), [27, 91, 49, 59, 53, 67, 27], v7), ⟨hv8⟩, ⟨trivial⟩, ?_⟩
  refine And.intro ⟨rfl⟩ ?_
  refine And.intro ⟨((show ([27, 91, 49, 59, 53, 67, 27]).length = 7 from by first | rfl | (simp; done) | (simp; omega))).symm, hc5, ei_len.trans ((show _ = _ from (show ([27, 91, 49, 59, 53, 67, 27]).length = 7 from by first | rfl | (simp; done) | (simp; omega))).trans (Nat.mul_one _).symm), hR6⟩ ?_
  refine mo1_LiftD5 ?_
  refine mo1_LiftD5 ?_
  refine mo1_LiftD5 ?_
  refine mo1_LiftD5 ?_
  refine mo1_LiftD5 ?_
  obtain ⟨v9, hv10, H⟩ := call_st H
  refine ⟨((v7.2.1, v7.2.2.1, v7.2.2.2.1, v7.2.2.2.2.1, v7.2.2.2.2.2), v9), ⟨hv10⟩, ⟨trivial⟩, ?_⟩
  refine And.intro ⟨rfl⟩ ?_
  refine mo1_LiftD5 ?_
  refine mo1_LiftD5 ?_
  refine mo1_LiftD5 ?_
  refine mo1_LiftD5 ?_
  refine mo1_LiftD5 ?_
  obtain ⟨v11, hv12, H⟩ := call_st H
  refine ⟨(v7.1, [(11, (⟨#[]⟩ : ByteArray), 0, false, false, true)], v11), ⟨hv12⟩, ⟨trivial⟩, ?_⟩
  refine And.intro ⟨by first | rfl | (simp; done), by first | rfl | (simp [ei, eb, es, ec, c51]; done) | (simp only [ei, eb, es, ec, c51, List.map_append, List.nil_append, List.append_assoc]; rfl)⟩ ?_
  refine And.intro ⟨by first | rfl | (simp; done), by first | rfl | (simp [ei, eb, es, ec, c51]; done) | (simp only [ei, eb, es, ec, c51, List.map_append, List.nil_append, List.append_assoc]; rfl)⟩ ?_
  refine if_st H (fun h13 H => ?_) (fun h13 H => ?_)
  · obtain ⟨v14, hv15, H⟩ := call_st H
    refine ⟨(v9.1, [(5, (⟨#[]⟩ : ByteArray), 0, false, false, false)], v14), ⟨hv15⟩, ⟨trivial⟩, ?_⟩
    refine And.intro ⟨by first | rfl | (simp; done), by first | rfl | (simp [ei, eb, es, ec, c51]; done) | (simp only [ei, eb, es, ec, c51, List.map_append, List.nil_append, List.append_assoc]; rfl)⟩ ?_
    refine And.intro ⟨by first | rfl | (simp; done), by first | rfl | (simp [ei, eb, es, ec, c51]; done) | (simp only [ei, eb, es, ec, c51, List.map_append, List.nil_append, List.append_assoc]; rfl)⟩ ?_
    refine if_st H (fun h16 H => ?_) (fun h16 H => ?_)
    · obtain ⟨v17, hv18, H⟩ := call_st H
      refine ⟨((v9.2.1, v9.2.2.1, v9.2.2.2.1, v9.2.2.2.2.1, v9.2.2.2.2.2), v17), ⟨hv18⟩, ⟨trivial⟩, ?_⟩
      refine mo1_LiftD5 ?_
      refine mo1_LiftD5 ?_
      refine mo1_LiftD5 ?_
      refine mo1_LiftD5 ?_
      refine mo1_LiftD5 ?_
      refine if_st H (fun h19 H => ?_) (fun h19 H => ?_)
      · refine ob_ck H fun h20 H => ?_
        refine ld_int (e := (v7.1.getD (0 : Int).toNat default).1) (own_get (ys := ec c51 v7.1) (by first | rfl | simp [ei, eb, es, ec, c51]) ((ec_get (i := (0 : Int).toNat) (o := 0) c51_len (by first | exact tn h20 | (have := tn h20; simp at this ⊢; omega) | (have := tn h20; simp; omega)) (by decide)).trans rfl)) ?_
        refine ld_str (e := (v7.1.getD (0 : Int).toNat default).2.1) (own_get (ys := ec c51 v7.1) (by first | rfl | simp [ei, eb, es, ec, c51]) ((ec_get (i := (0 : Int).toNat) (o := 1) c51_len (by first | exact tn h20 | (have := tn h20; simp at this ⊢; omega) | (have := tn h20; simp; omega)) (by decide)).trans rfl)) ?_
        refine ld_int (e := (v7.1.getD (0 : Int).toNat default).2.2.1) (own_get (ys := ec c51 v7.1) (by first | rfl | simp [ei, eb, es, ec, c51]) ((ec_get (i := (0 : Int).toNat) (o := 2) c51_len (by first | exact tn h20 | (have := tn h20; simp at this ⊢; omega) | (have := tn h20; simp; omega)) (by decide)).trans rfl)) ?_
        refine ld_bool (e := (v7.1.getD (0 : Int).toNat default).2.2.2.1) (own_get (ys := ec c51 v7.1) (by first | rfl | simp [ei, eb, es, ec, c51]) ((ec_get (i := (0 : Int).toNat) (o := 3) c51_len (by first | exact tn h20 | (have := tn h20; simp at this ⊢; omega) | (have := tn h20; simp; omega)) (by decide)).trans rfl)) ?_
        refine ld_bool (e := (v7.1.getD (0 : Int).toNat default).2.2.2.2.1) (own_get (ys := ec c51 v7.1) (by first | rfl | simp [ei, eb, es, ec, c51]) ((ec_get (i := (0 : Int).toNat) (o := 4) c51_len (by first | exact tn h20 | (have := tn h20; simp at this ⊢; omega) | (have := tn h20; simp; omega)) (by decide)).trans rfl)) ?_
        refine ld_bool (e := (v7.1.getD (0 : Int).toNat default).2.2.2.2.2) (own_get (ys := ec c51 v7.1) (by first | rfl | simp [ei, eb, es, ec, c51]) ((ec_get (i := (0 : Int).toNat) (o := 5) c51_len (by first | exact tn h20 | (have := tn h20; simp at this ⊢; omega) | (have := tn h20; simp; omega)) (by decide)).trans rfl)) ?_
        obtain ⟨v21, hv22, H⟩ := call_st H
        refine ⟨(((v7.1.getD (0 : Int).toNat default).1, (v7.1.getD (0 : Int).toNat default).2.1, (v7.1.getD (0 : Int).toNat default).2.2.1, (decide (((v7.1.getD (0 : Int).toNat default).2.2.2.1) = true)), (decide (((v7.1.getD (0 : Int).toNat default).2.2.2.2.1) = true)), (decide (((v7.1.getD (0 : Int).toNat default).2.2.2.2.2) = true))), v21), ⟨hv22⟩, ⟨trivial⟩, ?_⟩
        refine mo1_LiftD5 ?_
        refine mo1_LiftD5 ?_
        refine mo1_LiftD5 ?_
        refine mo1_LiftD5 ?_
        refine mo1_LiftD5 ?_
        refine mo1_LiftD5 ?_
        have hfin := fin_st H
        repeat refine mf1_LiftD5 ?_
        first | exact trivial | exact rfl
      · have hfin := fin_st H
        repeat refine mf1_LiftD5 ?_
        first | exact trivial | exact rfl
    · have hfin := fin_st H
      repeat refine mf1_LiftD5 ?_
      first | exact trivial | exact rfl
  · have hfin := fin_st H
    repeat refine mf1_LiftD5 ?_
    first | exact trivial | exact rfl

/-- placard/placardlaw07.KeyinPieces -/
noncomputable def g3 (a0 : List Int) (a1 : List Int) : Option (Bool) :=
  ck (0 ≤ (0 : Int) ∧ (0 : Int) ≤ gmin ((a0.length : Nat) : Int) 300 ∧ gmin ((a0.length : Nat) : Int) 300 ≤ ((a0.length : Nat) : Int)) <|
  (g9 ([], false, [], 0, true) ((a0.drop (0 : Int).toNat).take ((gmin ((a0.length : Nat) : Int) 300).toNat - (0 : Int).toNat))).bind fun v31 =>
  jn (α := _) (β := List Int × Bool × List Int × Int × Bool × List (Int × ByteArray × Int × Bool × Bool × Bool) × List Int) (fun k125 =>
      (loopO (σ := List Int × Bool × List Int × Int × Bool × List (Int × ByteArray × Int × Bool × Bool × Bool) × List Int × Int) (ρ := List Int × Bool × List Int × Int × Bool × List (Int × ByteArray × Int × Bool × Bool × Bool) × List Int) (fun s128 =>
          if s128.2.2.2.2.2.2.2 < ((a1.length : Nat) : Int) then
            (
              if s128.2.2.2.2.2.2.2 < 100 then
                (
                  ck (0 ≤ s128.2.2.2.2.2.2.2 ∧ s128.2.2.2.2.2.2.2 < ((a1.length : Nat) : Int)) <|
                  ck (inR .i64 (a1.getD s128.2.2.2.2.2.2.2.toNat 0)) <|
                  ck (0 ≤ (0 : Int) ∧ (0 : Int) ≤ gmin ((s128.2.2.2.2.2.2.1.length : Nat) : Int) (Int.tmod (a1.getD s128.2.2.2.2.2.2.2.toNat 0) 9) ∧ gmin ((s128.2.2.2.2.2.2.1.length : Nat) : Int) (Int.tmod (a1.getD s128.2.2.2.2.2.2.2.toNat 0) 9) ≤ ((s128.2.2.2.2.2.2.1.length : Nat) : Int)) <|
                  (g9 (s128.1, s128.2.1, s128.2.2.1, s128.2.2.2.1, s128.2.2.2.2.1) ((s128.2.2.2.2.2.2.1.drop (0 : Int).toNat).take ((gmin ((s128.2.2.2.2.2.2.1.length : Nat) : Int) (Int.tmod (a1.getD s128.2.2.2.2.2.2.2.toNat 0) 9)).toNat - (0 : Int).toNat))).bind fun v182 =>
                  ck ((s128.2.2.2.2.2.1.length + v182.1.length) * 40 ≤ 140737488355328) <|
                  ck (0 ≤ gmin ((s128.2.2.2.2.2.2.1.length : Nat) : Int) (Int.tmod (a1.getD s128.2.2.2.2.2.2.2.toNat 0) 9) ∧ gmin ((s128.2.2.2.2.2.2.1.length : Nat) : Int) (Int.tmod (a1.getD s128.2.2.2.2.2.2.2.toNat 0) 9) ≤ ((s128.2.2.2.2.2.2.1.length : Nat) : Int) ∧ ((s128.2.2.2.2.2.2.1.length : Nat) : Int) ≤ ((s128.2.2.2.2.2.2.1.length : Nat) : Int)) <|
                  ck (inR .i64 (s128.2.2.2.2.2.2.2 + 1)) <|
                  some (.go (v182.2.1, v182.2.2.1, v182.2.2.2.1, v182.2.2.2.2.1, v182.2.2.2.2.2, (s128.2.2.2.2.2.1 ++ v182.1), ((s128.2.2.2.2.2.2.1.drop (gmin ((s128.2.2.2.2.2.2.1.length : Nat) : Int) (Int.tmod (a1.getD s128.2.2.2.2.2.2.2.toNat 0) 9)).toNat).take (((s128.2.2.2.2.2.2.1.length : Nat) : Int).toNat - (gmin ((s128.2.2.2.2.2.2.1.length : Nat) : Int) (Int.tmod (a1.getD s128.2.2.2.2.2.2.2.toNat 0) 9)).toNat)), s128.2.2.2.2.2.2.2 + 1))
                )
              else
                some (.out (s128.1, s128.2.1, s128.2.2.1, s128.2.2.2.1, s128.2.2.2.2.1, s128.2.2.2.2.2.1, s128.2.2.2.2.2.2.1))
            )
          else
            some (.out (s128.1, s128.2.1, s128.2.2.1, s128.2.2.2.1, s128.2.2.2.2.1, s128.2.2.2.2.2.1, s128.2.2.2.2.2.2.1))
        ) ([], false, [], 0, true, [], ((a0.drop (0 : Int).toNat).take ((gmin ((a0.length : Nat) : Int) 300).toNat - (0 : Int).toNat)), 0)).bind fun o173 =>
        k125 (o173.1, o173.2.1, o173.2.2.1, o173.2.2.2.1, o173.2.2.2.2.1, o173.2.2.2.2.2.1, o173.2.2.2.2.2.2)
  ) (fun v124 =>
    (g9 (v124.1, v124.2.1, v124.2.2.1, v124.2.2.2.1, v124.2.2.2.2.1) v124.2.2.2.2.2.2).bind fun v203 =>
    ck ((v124.2.2.2.2.2.1.length + v203.1.length) * 40 ≤ 140737488355328) <|
    jn (α := _) (β := List Int × Bool × List Int × Int × Bool × List (Int × ByteArray × Int × Bool × Bool × Bool)) (fun k272 =>
        (loopO (σ := List Int × Bool × List Int × Int × Bool × List (Int × ByteArray × Int × Bool × Bool × Bool) × Int) (ρ := List Int × Bool × List Int × Int × Bool × List (Int × ByteArray × Int × Bool × Bool × Bool)) (fun s275 =>
            if s275.2.2.2.2.2.2 < ((((a0.drop (0 : Int).toNat).take ((gmin ((a0.length : Nat) : Int) 300).toNat - (0 : Int).toNat)).length : Nat) : Int) then
              (
                ck (inR .i64 (s275.2.2.2.2.2.2 + 1)) <|
                ck (0 ≤ s275.2.2.2.2.2.2 ∧ s275.2.2.2.2.2.2 ≤ s275.2.2.2.2.2.2 + 1 ∧ s275.2.2.2.2.2.2 + 1 ≤ ((((a0.drop (0 : Int).toNat).take ((gmin ((a0.length : Nat) : Int) 300).toNat - (0 : Int).toNat)).length : Nat) : Int)) <|
                (g9 (s275.1, s275.2.1, s275.2.2.1, s275.2.2.2.1, s275.2.2.2.2.1) ((((a0.drop (0 : Int).toNat).take ((gmin ((a0.length : Nat) : Int) 300).toNat - (0 : Int).toNat)).drop s275.2.2.2.2.2.2.toNat).take ((s275.2.2.2.2.2.2 + 1).toNat - s275.2.2.2.2.2.2.toNat))).bind fun v312 =>
                ck ((s275.2.2.2.2.2.1.length + v312.1.length) * 40 ≤ 140737488355328) <|
                ck (inR .i64 (s275.2.2.2.2.2.2 + 1)) <|
                some (.go (v312.2.1, v312.2.2.1, v312.2.2.2.1, v312.2.2.2.2.1, v312.2.2.2.2.2, (s275.2.2.2.2.2.1 ++ v312.1), s275.2.2.2.2.2.2 + 1))
              )
            else
              some (.out (s275.1, s275.2.1, s275.2.2.1, s275.2.2.2.1, s275.2.2.2.2.1, s275.2.2.2.2.2.1))
          ) ([], false, [], 0, true, [], 0)).bind fun o305 =>
          k272 (o305.1, o305.2.1, o305.2.2.1, o305.2.2.2.1, o305.2.2.2.2.1, o305.2.2.2.2.2)
    ) (fun v271 =>
      (g10 (v124.2.2.2.2.2.1 ++ v203.1) v31.1).bind fun v321 =>
      if v321 = true then
        (
          (g10 v271.2.2.2.2.2 v31.1).bind fun v324 =>
          if v324 = true then
            (
              (g11 (v31.2.1, v31.2.2.1, v31.2.2.2.1, v31.2.2.2.2.1, v31.2.2.2.2.2)).bind fun v327 =>
              (g11 (v203.2.1, v203.2.2.1, v203.2.2.2.1, v203.2.2.2.2.1, v203.2.2.2.2.2)).bind fun v329 =>
              if v327 = v329 then
                (
                  (g11 (v271.1, v271.2.1, v271.2.2.1, v271.2.2.2.1, v271.2.2.2.2.1)).bind fun v332 =>
                  (g11 (v31.2.1, v31.2.2.1, v31.2.2.2.1, v31.2.2.2.2.1, v31.2.2.2.2.2)).bind fun v334 =>
                  if v332 = v334 then
                    (
                      (g12).bind fun v337 =>
                      some v337
                    )
                  else
                    some false
                )
              else
                some false
            )
          else
            some false
        )
      else
        some false
    )
  )
noncomputable def k3 : Eng.CS := { f := 3, calm := true, more := 0, ι := (List Int) × (List Int) × Bool, ok := fun i => g3 i.1 i.2.1 = some i.2.2, rds := fun _ => [], args := fun i => [.sl 1 i.1.length (ei .u8 i.1), .sl 1 i.2.1.length (ei .u8 i.2.1)], res := fun i => bS i.2.2 }
set_option maxRecDepth 8000 in
set_option maxHeartbeats 4000000 in
theorem k3_ok : CalmOk Tryd.prog k3 := by
  refine R.calmspec Tryd.func3 nm3 rfl ?_
  rintro ⟨a0, a1, r⟩ hok q _ args hargs
  match args, hargs with
  | [_, _], hargs =>
  obtain ⟨⟨A0, cp0, rfl, hc0, _, hR0⟩, ⟨A1, cp1, rfl, hc1, _, hR1⟩, _⟩ := hargs
  refine ⟨envC [k9, k10, k11, k12] false [(3, 14), (3, 19)], 6, envC_ok (css_cons ⟨fun h => (by cases h), fun _ => k9_ok⟩ (css_cons ⟨fun _ => k10_ok, fun h => (by cases h)⟩ (css_cons ⟨fun _ => k11_ok, fun h => (by cases h)⟩ (css_cons ⟨fun _ => k12_ok, fun h => (by cases h)⟩ (css_nil))))), rfl, (by intro x hx; simp only [List.mem_cons, List.not_mem_nil, or_false] at hx; rcases hx with rfl | rfl <;> rfl), ?_⟩
  have H : Gives (g3 a0 a1) (fun a => a = r) := ⟨r, hok, rfl⟩
  unfold g3 at H
  clear hok
  refine ob_sl hc0 H fun h27 H => ?_
  have hs28 := sl_ei hR0 rfl hc0 h27
  intro n29 hn30
  obtain rfl : n29 = ((a0.drop (0 : Int).toNat).take ((gmin ((a0.length : Nat) : Int) 300).toNat - (0 : Int).toNat)).length := hn30.trans hs28.2.1.symm
  obtain ⟨v31, hv32, H⟩ := call_st H
  refine ⟨(([], false, [], 0, true), ((a0.drop (0 : Int).toNat).take ((gmin ((a0.length : Nat) : Int) 300).toNat - (0 : Int).toNat)), v31), ⟨hv32⟩, ⟨trivial⟩, ?_⟩
  refine And.intro ⟨rfl⟩ ?_
  refine And.intro ⟨rfl, (Nat.le_trans (Nat.le_of_eq hs28.2.1) hs28.2.2), ei_len.trans ((show _ = _ from rfl).trans (Nat.mul_one _).symm), hs28.1⟩ ?_
  refine mo1_LiftD5 ?_
  refine mo1_LiftD5 ?_
  refine mo1_LiftD5 ?_
  refine mo1_LiftD5 ?_
  refine mo1_LiftD5 ?_
  refine R.cut_famX H 75 [0, 5, 6, 7, 8, 10] [] (fun (v124 : List Int × Bool × List Int × Int × Bool × List (Int × ByteArray × Int × Bool × Bool × Bool) × List Int) (g : (Option Addr × Nat)) => [(9, .own 77), (11, .v (.slice ((g.1)) (v124.2.2.2.2.2.2.length) ((g.2))))]) (fun (v124 : List Int × Bool × List Int × Int × Bool × List (Int × ByteArray × Int × Bool × Bool × Bool) × List Int) (g : (Option Addr × Nat)) => [(23, .cells 55 [.own 75, bS v124.2.1, .own 76, .v (.int .i64 (v124.2.2.2.1)), bS v124.2.2.2.2.1]), (75, .arr 5 1 (v124.1.length) (ei .u8 (v124.1))), (76, .arr 5 1 (v124.2.2.1.length) (ei .u8 (v124.2.2.1))), (77, .arr 51 6 (v124.2.2.2.2.2.1.length) (ec c51 (v124.2.2.2.2.2.1)))]) [(19, .cells 55 [.own 48, bS v31.2.2.1, .own 49, .v (.int .i64 (v31.2.2.2.2.1)), bS v31.2.2.2.2.2]), (27, .cells 55 [.v (.slice none 0 0), .bb false, .v (.slice none 0 0), .v (.int .i64 (0)), .bb true]), (48, .arr 5 1 (v31.2.1.length) (ei .u8 (v31.2.1))), (49, .arr 5 1 (v31.2.2.2.1.length) (ei .u8 (v31.2.2.2.1))), (50, .arr 51 6 (v31.1.length) (ec c51 (v31.1)))] 3 (fun q (v124 : List Int × Bool × List Int × Int × Bool × List (Int × ByteArray × Int × Bool × Bool × Bool) × List Int) (g : (Option Addr × Nat)) => Reads q g.1 (ei .u8 v124.2.2.2.2.2.2) ∧ v124.2.2.2.2.2.2.length ≤ g.2) (fun H => ?_)
  refine And.intro ?_ ?_
  · refine R.loop_famX (bind_st H) [0, 1, 5, 6, 7, 8, 10] [(100023, 0, 5, 1), (100023, 2, 5, 1), (9, 0, 51, 6)] (fun _ => fun (s128 : List Int × Bool × List Int × Int × Bool × List (Int × ByteArray × Int × Bool × Bool × Bool) × List Int × Int) (g : (Option Addr × Nat)) => [(9, .own 61), (11, .v (.slice ((g.1)) (s128.2.2.2.2.2.2.1.length) ((g.2)))), (12, .v (.int .i64 (s128.2.2.2.2.2.2.2)))]) (fun _ => fun (s128 : List Int × Bool × List Int × Int × Bool × List (Int × ByteArray × Int × Bool × Bool × Bool) × List Int × Int) (g : (Option Addr × Nat)) => [(23, .cells 55 [.own 59, bS s128.2.1, .own 60, .v (.int .i64 (s128.2.2.2.1)), bS s128.2.2.2.2.1]), (59, .arr 5 1 (s128.1.length) (ei .u8 (s128.1))), (60, .arr 5 1 (s128.2.2.1.length) (ei .u8 (s128.2.2.1))), (61, .arr 51 6 (s128.2.2.2.2.2.1.length) (ec c51 (s128.2.2.2.2.2.1)))]) 3 (fun q (s128 : List Int × Bool × List Int × Int × Bool × List (Int × ByteArray × Int × Bool × Bool × Bool) × List Int × Int) (g : (Option Addr × Nat)) => Reads q g.1 (ei .u8 s128.2.2.2.2.2.2.1) ∧ s128.2.2.2.2.2.2.1.length ≤ g.2) (fun n198 H => ?_)
    refine ⟨(n198, _, (if cp0 = (0 : Int).toNat then A0 else A0.map (·.add ((0 : Int).toNat)), cp0 - (0 : Int).toNat)), ⟨H⟩, ⟨hs28.1, (Nat.le_trans (Nat.le_of_eq hs28.2.1) hs28.2.2)⟩, ?_⟩
    repeat refine mo1_LiftD5 ?_
    rintro ⟨m0, s128, ⟨A149, c150⟩⟩ H hrd
    obtain ⟨hR151, hc152⟩ := hrd
    obtain ⟨m129, hm0, H⟩ := IG_succ H
    dsimp only at hm0 hR151 hc152
    subst hm0
    try dsimp only at H
    refine if_st H (fun h174 H => ?_) (fun h174 H => ?_)
    · refine if_st H (fun h175 H => ?_) (fun h175 H => ?_)
      · refine ob_ix hR1 (fun h => ei0 h) H fun h176 H => ?_
        refine ld_int (e := a1.getD s128.2.2.2.2.2.2.2.toNat 0) (rd_get hR1 (ei_get (l := a1) (tn h176))) ?_
        refine ob_ck H fun h177 H => ?_
        refine And.intro ⟨by decide⟩ ?_
        refine ob_sl hc152 H fun h178 H => ?_
        have hs179 := sl_ei hR151 rfl hc152 h178
        intro n180 hn181
        obtain rfl : n180 = ((s128.2.2.2.2.2.2.1.drop (0 : Int).toNat).take ((gmin ((s128.2.2.2.2.2.2.1.length : Nat) : Int) (Int.tmod (a1.getD s128.2.2.2.2.2.2.2.toNat 0) 9)).toNat - (0 : Int).toNat)).length := hn181.trans hs179.2.1.symm
        obtain ⟨v182, hv183, H⟩ := call_st H
        refine ⟨((s128.1, s128.2.1, s128.2.2.1, s128.2.2.2.1, s128.2.2.2.2.1), ((s128.2.2.2.2.2.2.1.drop (0 : Int).toNat).take ((gmin ((s128.2.2.2.2.2.2.1.length : Nat) : Int) (Int.tmod (a1.getD s128.2.2.2.2.2.2.2.toNat 0) 9)).toNat - (0 : Int).toNat)), v182), ⟨hv183⟩, ⟨trivial⟩, ?_⟩
        refine And.intro ⟨rfl⟩ ?_
        refine And.intro ⟨rfl, (Nat.le_trans (Nat.le_of_eq hs179.2.1) hs179.2.2), ei_len.trans ((show _ = _ from rfl).trans (Nat.mul_one _).symm), hs179.1⟩ ?_
        refine mo1_LiftD5 ?_
        refine mo1_LiftD5 ?_
        refine mo1_LiftD5 ?_
        refine mo1_LiftD5 ?_
        refine mo1_LiftD5 ?_
        refine ob_app (by decide) (by first | exact (ec_one c51_one) | ((repeat (refine List.forall_mem_cons.2 ⟨rfl, ?_⟩)); intro y hy; cases hy; done) | (intro y hy; simp [ei, eb, es, ec, c51] at hy; (first | (rcases hy with rfl | hy) | subst hy | skip); all_goals first | rfl | simp_all [Value.oneCell'])) H fun h184 H => ?_
        intro n185 zs187 hn186 hz188
        obtain rfl : n185 = (s128.2.2.2.2.2.1 ++ v182.1).length := hn186.trans (by first | exact List.length_append.symm | (simp; done) | (simp; omega))
        obtain rfl : zs187 = ec c51 (s128.2.2.2.2.2.1 ++ v182.1) := by first | exact hz188.trans (ec_app (xs := s128.2.2.2.2.2.1) (ys := v182.1)).symm | (rw [hz188, ec_vw]; first | exact ec_app.symm | exact (ec_app (xs := s128.2.2.2.2.2.1)).symm) | (rw [hz188]; simp [ei, eb, es, ec, c51])
        refine ob_sl hc152 H fun h189 H => ?_
        have hs190 := sl_ei hR151 rfl hc152 h189
        intro n191 hn192
        obtain rfl : n191 = ((s128.2.2.2.2.2.2.1.drop (gmin ((s128.2.2.2.2.2.2.1.length : Nat) : Int) (Int.tmod (a1.getD s128.2.2.2.2.2.2.2.toNat 0) 9)).toNat).take (((s128.2.2.2.2.2.2.1.length : Nat) : Int).toNat - (gmin ((s128.2.2.2.2.2.2.1.length : Nat) : Int) (Int.tmod (a1.getD s128.2.2.2.2.2.2.2.toNat 0) 9)).toNat)).length := hn192.trans hs190.2.1.symm
        refine ob_ck H fun h193 H => ?_
        replace H := some_st H
        refine ⟨(m129, (v182.2.1, v182.2.2.1, v182.2.2.2.1, v182.2.2.2.2.1, v182.2.2.2.2.2, (s128.2.2.2.2.2.1 ++ v182.1), ((s128.2.2.2.2.2.2.1.drop (gmin ((s128.2.2.2.2.2.2.1.length : Nat) : Int) (Int.tmod (a1.getD s128.2.2.2.2.2.2.2.toNat 0) 9)).toNat).take (((s128.2.2.2.2.2.2.1.length : Nat) : Int).toNat - (gmin ((s128.2.2.2.2.2.2.1.length : Nat) : Int) (Int.tmod (a1.getD s128.2.2.2.2.2.2.2.toNat 0) 9)).toNat)), s128.2.2.2.2.2.2.2 + 1), (if c150 = (gmin ((s128.2.2.2.2.2.2.1.length : Nat) : Int) (Int.tmod (a1.getD s128.2.2.2.2.2.2.2.toNat 0) 9)).toNat then A149 else A149.map (·.add ((gmin ((s128.2.2.2.2.2.2.1.length : Nat) : Int) (Int.tmod (a1.getD s128.2.2.2.2.2.2.2.toNat 0) 9)).toNat)), c150 - (gmin ((s128.2.2.2.2.2.2.1.length : Nat) : Int) (Int.tmod (a1.getD s128.2.2.2.2.2.2.2.toNat 0) 9)).toNat)), ⟨H, Nat.lt_succ_self _⟩, ⟨hs190.1, (Nat.le_trans (Nat.le_of_eq hs190.2.1) hs190.2.2)⟩, ⟨rfl⟩, ?_⟩
        repeat refine mo1_LiftD5 ?_
        first | exact trivial | exact rfl
      · replace H := some_st H
        dsimp only [stp, sm] at H
        refine ⟨((s128.1, s128.2.1, s128.2.2.1, s128.2.2.2.1, s128.2.2.2.2.1, s128.2.2.2.2.2.1, s128.2.2.2.2.2.2.1), (A149, c150)), ⟨H, hR151, hc152⟩, ⟨rfl⟩, ?_⟩
        repeat refine mo1_LiftD5 ?_
        first | exact trivial | exact rfl
    · replace H := some_st H
      dsimp only [stp, sm] at H
      refine ⟨((s128.1, s128.2.1, s128.2.2.1, s128.2.2.2.1, s128.2.2.2.2.1, s128.2.2.2.2.2.1, s128.2.2.2.2.2.2.1), (A149, c150)), ⟨H, hR151, hc152⟩, ⟨rfl⟩, ?_⟩
      repeat refine mo1_LiftD5 ?_
      first | exact trivial | exact rfl
  · rintro ⟨v124, ⟨A199, c200⟩⟩ ⟨H, hR201, hc202⟩
    dsimp only at H hR201 hc202
    obtain ⟨v203, hv204, H⟩ := call_st H
    refine ⟨((v124.1, v124.2.1, v124.2.2.1, v124.2.2.2.1, v124.2.2.2.2.1), v124.2.2.2.2.2.2, v203), ⟨hv204⟩, ⟨trivial⟩, ?_⟩
    refine And.intro ⟨rfl⟩ ?_
    refine And.intro ⟨rfl, hc202, ei_len.trans ((show _ = _ from rfl).trans (Nat.mul_one _).symm), hR201⟩ ?_
    refine mo1_LiftD5 ?_
    refine mo1_LiftD5 ?_
    refine mo1_LiftD5 ?_
    refine mo1_LiftD5 ?_
    refine mo1_LiftD5 ?_
    refine ob_app (by decide) (by first | exact (ec_one c51_one) | ((repeat (refine List.forall_mem_cons.2 ⟨rfl, ?_⟩)); intro y hy; cases hy; done) | (intro y hy; simp [ei, eb, es, ec, c51] at hy; (first | (rcases hy with rfl | hy) | subst hy | skip); all_goals first | rfl | simp_all [Value.oneCell'])) H fun h205 H => ?_
    intro n206 zs208 hn207 hz209
    obtain rfl : n206 = (v124.2.2.2.2.2.1 ++ v203.1).length := hn207.trans (by first | exact List.length_append.symm | (simp; done) | (simp; omega))
    obtain rfl : zs208 = ec c51 (v124.2.2.2.2.2.1 ++ v203.1) := by first | exact hz209.trans (ec_app (xs := v124.2.2.2.2.2.1) (ys := v203.1)).symm | (rw [hz209, ec_vw]; first | exact ec_app.symm | exact (ec_app (xs := v124.2.2.2.2.2.1)).symm) | (rw [hz209]; simp [ei, eb, es, ec, c51])
    refine R.cut_fam H 106 [5, 6, 7, 8, 9] [] (fun v271 => [(10, .own 108)]) (fun v271 => [(27, .cells 55 [.own 106, bS v271.2.1, .own 107, .v (.int .i64 (v271.2.2.2.1)), bS v271.2.2.2.2.1]), (106, .arr 5 1 (v271.1.length) (ei .u8 (v271.1))), (107, .arr 5 1 (v271.2.2.1.length) (ei .u8 (v271.2.2.1))), (108, .arr 51 6 (v271.2.2.2.2.2.length) (ec c51 (v271.2.2.2.2.2)))]) [(23, .cells 55 [.own 87, bS v203.2.2.1, .own 88, .v (.int .i64 (v203.2.2.2.2.1)), bS v203.2.2.2.2.2]), (19, .cells 55 [.own 48, bS v31.2.2.1, .own 49, .v (.int .i64 (v31.2.2.2.2.1)), bS v31.2.2.2.2.2]), (48, .arr 5 1 (v31.2.1.length) (ei .u8 (v31.2.1))), (49, .arr 5 1 (v31.2.2.2.1.length) (ei .u8 (v31.2.2.2.1))), (50, .arr 51 6 (v31.1.length) (ec c51 (v31.1))), (87, .arr 5 1 (v203.2.1.length) (ei .u8 (v203.2.1))), (88, .arr 5 1 (v203.2.2.2.1.length) (ei .u8 (v203.2.2.2.1))), (89, .arr 51 6 (v203.1.length) (ec c51 (v203.1))), (82, .arr 51 6 ((v124.2.2.2.2.2.1 ++ v203.1).length) (ec c51 ((v124.2.2.2.2.2.1 ++ v203.1))))] 3 (fun H => ?_)
    refine And.intro ?_ ?_
    · refine R.loop_fam (bind_st H) [0, 5, 6, 7, 8, 9] [(100027, 0, 5, 1), (100027, 2, 5, 1), (10, 0, 51, 6)] (fun _ s275 => [(10, .own 96), (14, .v (.int .i64 (s275.2.2.2.2.2.2)))]) (fun _ s275 => [(27, .cells 55 [.own 94, bS s275.2.1, .own 95, .v (.int .i64 (s275.2.2.2.1)), bS s275.2.2.2.2.1]), (94, .arr 5 1 (s275.1.length) (ei .u8 (s275.1))), (95, .arr 5 1 (s275.2.2.1.length) (ei .u8 (s275.2.2.1))), (96, .arr 51 6 (s275.2.2.2.2.2.1.length) (ec c51 (s275.2.2.2.2.2.1)))]) 3 (fun n320 H => ?_)
      refine ⟨(n320, _), ⟨H⟩, ⟨trivial⟩, ?_⟩
      repeat refine mo1_LiftD5 ?_
      rintro ⟨m0, s275⟩ H _
      obtain ⟨m276, hm0, H⟩ := IG_succ H
      dsimp only at hm0
      subst hm0
      try dsimp only at H
      refine if_st H (fun h306 H => ?_) (fun h306 H => ?_)
      · refine ob_ck H fun h307 H => ?_
        refine ob_sl (Nat.le_trans (Nat.le_of_eq hs28.2.1) hs28.2.2) H fun h308 H => ?_
        have hs309 := sl_ei hs28.1 rfl (Nat.le_trans (Nat.le_of_eq hs28.2.1) hs28.2.2) h308
        intro n310 hn311
        obtain rfl : n310 = ((((a0.drop (0 : Int).toNat).take ((gmin ((a0.length : Nat) : Int) 300).toNat - (0 : Int).toNat)).drop s275.2.2.2.2.2.2.toNat).take ((s275.2.2.2.2.2.2 + 1).toNat - s275.2.2.2.2.2.2.toNat)).length := hn311.trans hs309.2.1.symm
        obtain ⟨v312, hv313, H⟩ := call_st H
        refine ⟨((s275.1, s275.2.1, s275.2.2.1, s275.2.2.2.1, s275.2.2.2.2.1), ((((a0.drop (0 : Int).toNat).take ((gmin ((a0.length : Nat) : Int) 300).toNat - (0 : Int).toNat)).drop s275.2.2.2.2.2.2.toNat).take ((s275.2.2.2.2.2.2 + 1).toNat - s275.2.2.2.2.2.2.toNat)), v312), ⟨hv313⟩, ⟨trivial⟩, ?_⟩
        refine And.intro ⟨rfl⟩ ?_
        refine And.intro ⟨rfl, (Nat.le_trans (Nat.le_of_eq hs309.2.1) hs309.2.2), ei_len.trans ((show _ = _ from rfl).trans (Nat.mul_one _).symm), hs309.1⟩ ?_
        refine mo1_LiftD5 ?_
        refine mo1_LiftD5 ?_
        refine mo1_LiftD5 ?_
        refine mo1_LiftD5 ?_
        refine mo1_LiftD5 ?_
        refine ob_app (by decide) (by first | exact (ec_one c51_one) | ((repeat (refine List.forall_mem_cons.2 ⟨rfl, ?_⟩)); intro y hy; cases hy; done) | (intro y hy; simp [ei, eb, es, ec, c51] at hy; (first | (rcases hy with rfl | hy) | subst hy | skip); all_goals first | rfl | simp_all [Value.oneCell'])) H fun h314 H => ?_
        intro n315 zs317 hn316 hz318
        obtain rfl : n315 = (s275.2.2.2.2.2.1 ++ v312.1).length := hn316.trans (by first | exact List.length_append.symm | (simp; done) | (simp; omega))
        obtain rfl : zs317 = ec c51 (s275.2.2.2.2.2.1 ++ v312.1) := by first | exact hz318.trans (ec_app (xs := s275.2.2.2.2.2.1) (ys := v312.1)).symm | (rw [hz318, ec_vw]; first | exact ec_app.symm | exact (ec_app (xs := s275.2.2.2.2.2.1)).symm) | (rw [hz318]; simp [ei, eb, es, ec, c51])
        refine ob_ck H fun h319 H => ?_
        replace H := some_st H
        refine ⟨(m276, (v312.2.1, v312.2.2.1, v312.2.2.2.1, v312.2.2.2.2.1, v312.2.2.2.2.2, (s275.2.2.2.2.2.1 ++ v312.1), s275.2.2.2.2.2.2 + 1)), ⟨H, Nat.lt_succ_self _⟩, ⟨trivial⟩, ⟨rfl⟩, ?_⟩
        repeat refine mo1_LiftD5 ?_
        first | exact trivial | exact rfl
      · replace H := some_st H
        dsimp only [stp, sm] at H
        refine ⟨(s275.1, s275.2.1, s275.2.2.1, s275.2.2.2.1, s275.2.2.2.2.1, s275.2.2.2.2.2.1), ⟨H⟩, ⟨rfl⟩, ?_⟩
        repeat refine mo1_LiftD5 ?_
        first | exact trivial | exact rfl
    · intro v271 H
      obtain ⟨v321, hv322, H⟩ := call_st H
      refine ⟨((v124.2.2.2.2.2.1 ++ v203.1), v31.1, v321), ⟨hv322⟩, ⟨trivial⟩, ?_⟩
      refine And.intro ⟨by first | rfl | (simp; done), by first | rfl | (simp [ei, eb, es, ec, c51]; done) | (simp only [ei, eb, es, ec, c51, List.map_append, List.nil_append, List.append_assoc]; rfl)⟩ ?_
      refine And.intro ⟨by first | rfl | (simp; done), by first | rfl | (simp [ei, eb, es, ec, c51]; done) | (simp only [ei, eb, es, ec, c51, List.map_append, List.nil_append, List.append_assoc]; rfl)⟩ ?_
      refine if_st H (fun h323 H => ?_) (fun h323 H => ?_)
      · obtain ⟨v324, hv325, H⟩ := call_st H
        refine ⟨(v271.2.2.2.2.2, v31.1, v324), ⟨hv325⟩, ⟨trivial⟩, ?_⟩
        refine And.intro ⟨by first | rfl | (simp; done), by first | rfl | (simp [ei, eb, es, ec, c51]; done) | (simp only [ei, eb, es, ec, c51, List.map_append, List.nil_append, List.append_assoc]; rfl)⟩ ?_
        refine And.intro ⟨by first | rfl | (simp; done), by first | rfl | (simp [ei, eb, es, ec, c51]; done) | (simp only [ei, eb, es, ec, c51, List.map_append, List.nil_append, List.append_assoc]; rfl)⟩ ?_
        refine if_st H (fun h326 H => ?_) (fun h326 H => ?_)
        · obtain ⟨v327, hv328, H⟩ := call_st H
          refine ⟨((v31.2.1, v31.2.2.1, v31.2.2.2.1, v31.2.2.2.2.1, v31.2.2.2.2.2), v327), ⟨hv328⟩, ⟨trivial⟩, ?_⟩
          refine mo1_LiftD5 ?_
          refine mo1_LiftD5 ?_
          refine mo1_LiftD5 ?_
          refine mo1_LiftD5 ?_
          refine mo1_LiftD5 ?_
          obtain ⟨v329, hv330, H⟩ := call_st H
          refine ⟨((v203.2.1, v203.2.2.1, v203.2.2.2.1, v203.2.2.2.2.1, v203.2.2.2.2.2), v329), ⟨hv330⟩, ⟨trivial⟩, ?_⟩
          refine mo1_LiftD5 ?_
          refine mo1_LiftD5 ?_
          refine mo1_LiftD5 ?_
          refine mo1_LiftD5 ?_
          refine mo1_LiftD5 ?_
          refine if_st H (fun h331 H => ?_) (fun h331 H => ?_)
          · obtain ⟨v332, hv333, H⟩ := call_st H
            refine ⟨((v271.1, v271.2.1, v271.2.2.1, v271.2.2.2.1, v271.2.2.2.2.1), v332), ⟨hv333⟩, ⟨trivial⟩, ?_⟩
            refine mo1_LiftD5 ?_
            refine mo1_LiftD5 ?_
            refine mo1_LiftD5 ?_
            refine mo1_LiftD5 ?_
            refine mo1_LiftD5 ?_
            obtain ⟨v334, hv335, H⟩ := call_st H
            refine ⟨((v31.2.1, v31.2.2.1, v31.2.2.2.1, v31.2.2.2.2.1, v31.2.2.2.2.2), v334), ⟨hv335⟩, ⟨trivial⟩, ?_⟩
            refine mo1_LiftD5 ?_
            refine mo1_LiftD5 ?_
            refine mo1_LiftD5 ?_
            refine mo1_LiftD5 ?_
            refine mo1_LiftD5 ?_
            refine if_st H (fun h336 H => ?_) (fun h336 H => ?_)
            · obtain ⟨v337, hv338, H⟩ := call_st H
              refine ⟨v337, ⟨hv338⟩, ⟨trivial⟩, ?_⟩
              have hfin := fin_st H
              repeat refine mf1_LiftD5 ?_
              first | exact trivial | exact rfl
            · have hfin := fin_st H
              repeat refine mf1_LiftD5 ?_
              first | exact trivial | exact rfl
          · have hfin := fin_st H
            repeat refine mf1_LiftD5 ?_
            first | exact trivial | exact rfl
        · have hfin := fin_st H
          repeat refine mf1_LiftD5 ?_
          first | exact trivial | exact rfl
      · have hfin := fin_st H
        repeat refine mf1_LiftD5 ?_
        first | exact trivial | exact rfl

/-- placard/placardlaw07.KeyinPastes -/
noncomputable def g4 (a0 : List Int) (a1 : Int) (a2 : Int) : Option (Bool) :=
  ck (0 ≤ (0 : Int) ∧ (0 : Int) ≤ gmin ((a0.length : Nat) : Int) 300 ∧ gmin ((a0.length : Nat) : Int) 300 ≤ ((a0.length : Nat) : Int)) <|
  ck ((lit [27, 91, 50, 48, 48, 126]).size ≤ 140737488355328) <|
  jn (α := _) (β := List Int) (fun k398 =>
      (loopO (σ := List Int × Int) (ρ := List Int) (fun s401 =>
          ck (inR .i64 a1) <|
          if s401.2 ≤ a1 then
            (
              if 0 < ((((a0.drop (0 : Int).toNat).take ((gmin ((a0.length : Nat) : Int) 300).toNat - (0 : Int).toNat)).length : Nat) : Int) then
                (
                  ck ((s401.1.length + (((a0.drop (0 : Int).toNat).take ((gmin ((a0.length : Nat) : Int) 300).toNat - (0 : Int).toNat)).length)) * 1 ≤ 140737488355328) <|
                  if 70000 < (((s401.1 ++ ((a0.drop (0 : Int).toNat).take ((gmin ((a0.length : Nat) : Int) 300).toNat - (0 : Int).toNat))).length : Nat) : Int) then
                    some (.out (s401.1 ++ ((a0.drop (0 : Int).toNat).take ((gmin ((a0.length : Nat) : Int) 300).toNat - (0 : Int).toNat))))
                  else
                    (
                      ck (inR .i64 (s401.2 + 1)) <|
                      some (.go ((s401.1 ++ ((a0.drop (0 : Int).toNat).take ((gmin ((a0.length : Nat) : Int) 300).toNat - (0 : Int).toNat))), s401.2 + 1))
                    )
                )
              else
                some (.out s401.1)
            )
          else
            some (.out s401.1)
        ) ((bytesOf (lit [27, 91, 50, 48, 48, 126])), 0)).bind fun o423 =>
        k398 o423
  ) (fun v397 =>
    ck (v397.length + (lit [27, 91, 50, 48, 49, 126, 120]).size ≤ 140737488355328) <|
    jn (α := _) (β := List (Int × ByteArray × Int × Bool × Bool × Bool)) (fun k946 =>
        ck ((0 + 0) * 1 ≤ 140737488355328) <|
        ck (((([] : List Int) ++ []).length + (v397 ++ bytesOf (lit [27, 91, 50, 48, 49, 126, 120])).length) * 1 ≤ 140737488355328) <|
        jn (α := _) (β := List Int) (fun k966 =>
            k966 ((([] : List Int) ++ []) ++ (v397 ++ bytesOf (lit [27, 91, 50, 48, 49, 126, 120])))
        ) (fun v965 =>
          jn (α := _) (β := List Int × Bool × List (Int × ByteArray × Int × Bool × Bool × Bool)) (fun k1086 =>
              (loopO (σ := List Int × Bool × List (Int × ByteArray × Int × Bool × Bool × Bool)) (ρ := (List Int × Bool × List Int × Bool × List (Int × ByteArray × Int × Bool × Bool × Bool)) ⊕ (List Int × Bool × List (Int × ByteArray × Int × Bool × Bool × Bool))) (fun s1089 =>
                  if 0 < ((s1089.1.length : Nat) : Int) then
                    (
                      if s1089.2.1 = true then
                        (
                          (g25 s1089.1).bind fun v1146 =>
                          if v1146 < 0 then
                            some (.out (.inl ((s1089.1, s1089.2.1, s1089.1, s1089.2.1, s1089.2.2))))
                          else
                            (
                              ck (0 ≤ (0 : Int) ∧ (0 : Int) ≤ gmin v1146 65536 ∧ gmin v1146 65536 ≤ ((s1089.1.length : Nat) : Int)) <|
                              (g26 ((s1089.1.drop (0 : Int).toNat).take ((gmin v1146 65536).toNat - (0 : Int).toNat))).bind fun v1153 =>
                              ck ((s1089.2.2.length + 1) * 40 ≤ 140737488355328) <|
                              ck (inR .i64 (v1146 + 6)) <|
                              ck (0 ≤ v1146 + 6 ∧ v1146 + 6 ≤ ((s1089.1.length : Nat) : Int) ∧ ((s1089.1.length : Nat) : Int) ≤ ((s1089.1.length : Nat) : Int)) <|
                              some (.go (((s1089.1.drop (v1146 + 6).toNat).take (((s1089.1.length : Nat) : Int).toNat - (v1146 + 6).toNat)), false, (s1089.2.2 ++ [(16, v1153, 0, false, false, false)])))
                            )
                        )
                      else
                        (
                          (g27 s1089.1).bind fun v1165 =>
                          if v1165.1 = 0 then
                            some (.out (.inl ((s1089.1, s1089.2.1, s1089.1, s1089.2.1, s1089.2.2))))
                          else
                            (
                              ck (0 ≤ v1165.1 ∧ v1165.1 ≤ ((s1089.1.length : Nat) : Int) ∧ ((s1089.1.length : Nat) : Int) ≤ ((s1089.1.length : Nat) : Int)) <|
                              if v1165.2.2.2.2.2.2.2.1 = true then
                                (
                                  ck ((s1089.2.2.length + 1) * 40 ≤ 140737488355328) <|
                                  some (.go (((s1089.1.drop v1165.1.toNat).take (((s1089.1.length : Nat) : Int).toNat - v1165.1.toNat)), v1165.2.2.2.2.2.2.2.2, (s1089.2.2 ++ [(v1165.2.1, v1165.2.2.1, v1165.2.2.2.1, v1165.2.2.2.2.1, v1165.2.2.2.2.2.1, v1165.2.2.2.2.2.2.1)])))
                                )
                              else
                                some (.go (((s1089.1.drop v1165.1.toNat).take (((s1089.1.length : Nat) : Int).toNat - v1165.1.toNat)), v1165.2.2.2.2.2.2.2.2, s1089.2.2))
                            )
                        )
                    )
                  else
                    some (.out (.inr ((s1089.1, s1089.2.1, s1089.2.2))))
                ) (v965, false, [])).bind fun o1143 =>
              sm o1143 (fun o1178 =>
                  k946 o1178.2.2.2.2
                ) (fun o1187 =>
                  k1086 (o1187.1, o1187.2.1, o1187.2.2)
                )
          ) (fun v1085 =>
            k946 v1085.2.2
          )
        )
    ) (fun v945 =>
      ck (inR .i64 a2) <|
      ck (inR .i64 (1 + a2)) <|
      jn (α := _) (β := List Int × Bool × List Int × Int × Bool × List (Int × ByteArray × Int × Bool × Bool × Bool)) (fun k1257 =>
          (loopO (σ := List Int × Bool × List Int × Int × Bool × List (Int × ByteArray × Int × Bool × Bool × Bool) × Int) (ρ := List Int × Bool × List Int × Int × Bool × List (Int × ByteArray × Int × Bool × Bool × Bool)) (fun s1260 =>
              if s1260.2.2.2.2.2.2 < (((v397 ++ bytesOf (lit [27, 91, 50, 48, 49, 126, 120])).length : Nat) : Int) then
                (
                  ck (inR .i64 (s1260.2.2.2.2.2.2 + (1 + a2))) <|
                  ck (0 ≤ s1260.2.2.2.2.2.2 ∧ s1260.2.2.2.2.2.2 ≤ gmin (((v397 ++ bytesOf (lit [27, 91, 50, 48, 49, 126, 120])).length : Nat) : Int) (s1260.2.2.2.2.2.2 + (1 + a2)) ∧ gmin (((v397 ++ bytesOf (lit [27, 91, 50, 48, 49, 126, 120])).length : Nat) : Int) (s1260.2.2.2.2.2.2 + (1 + a2)) ≤ (((v397 ++ bytesOf (lit [27, 91, 50, 48, 49, 126, 120])).length : Nat) : Int)) <|
                  (g9 (s1260.1, s1260.2.1, s1260.2.2.1, s1260.2.2.2.1, s1260.2.2.2.2.1) (((v397 ++ bytesOf (lit [27, 91, 50, 48, 49, 126, 120])).drop s1260.2.2.2.2.2.2.toNat).take ((gmin (((v397 ++ bytesOf (lit [27, 91, 50, 48, 49, 126, 120])).length : Nat) : Int) (s1260.2.2.2.2.2.2 + (1 + a2))).toNat - s1260.2.2.2.2.2.2.toNat))).bind fun v1294 =>
                  ck ((s1260.2.2.2.2.2.1.length + v1294.1.length) * 40 ≤ 140737488355328) <|
                  ck (inR .i64 (s1260.2.2.2.2.2.2 + (1 + a2))) <|
                  some (.go (v1294.2.1, v1294.2.2.1, v1294.2.2.2.1, v1294.2.2.2.2.1, v1294.2.2.2.2.2, (s1260.2.2.2.2.2.1 ++ v1294.1), s1260.2.2.2.2.2.2 + (1 + a2)))
                )
              else
                some (.out (s1260.1, s1260.2.1, s1260.2.2.1, s1260.2.2.2.1, s1260.2.2.2.2.1, s1260.2.2.2.2.2.1))
            ) ([], false, [], 0, true, [], 0)).bind fun o1288 =>
            k1257 (o1288.1, o1288.2.1, o1288.2.2.1, o1288.2.2.2.1, o1288.2.2.2.2.1, o1288.2.2.2.2.2)
      ) (fun v1256 =>
        (g10 v1256.2.2.2.2.2 v945).bind fun v1303 =>
        if v1303 = true then
          (
            (g11 (v1256.1, v1256.2.1, v1256.2.2.1, v1256.2.2.2.1, v1256.2.2.2.2.1)).bind fun v1306 =>
            if v1306 = 0 then
              (
                (g12).bind fun v1309 =>
                some v1309
              )
            else
              some false
          )
        else
          some false
      )
    )
  )
noncomputable def k4 : Eng.CS := { f := 4, calm := true, more := 0, ι := (List Int) × Int × Int × Bool, ok := fun i => g4 i.1 i.2.1 i.2.2.1 = some i.2.2.2, rds := fun _ => [], args := fun i => [.sl 1 i.1.length (ei .u8 i.1), .w (.v (.int .u16 (i.2.1))), .w (.v (.int .u16 (i.2.2.1)))], res := fun i => bS i.2.2.2 }
set_option maxRecDepth 8000 in
set_option maxHeartbeats 4000000 in
theorem k4_ok : CalmOk Tryd.prog k4 := by
  refine R.calmspec Tryd.func4 nm4 rfl ?_
  rintro ⟨a0, a1, a2, r⟩ hok q _ args hargs
  match args, hargs with
  | [_, _, _], hargs =>
  obtain ⟨⟨A0, cp0, rfl, hc0, _, hR0⟩, rfl, rfl, _⟩ := hargs
  refine ⟨envC [k9, k10, k11, k12, k25, k26, k27] false [(4, 9), (4, 14), (4, 20), (13, 3), (13, 17)], 6, envC_ok (css_cons ⟨fun h => (by cases h), fun _ => k9_ok⟩ (css_cons ⟨fun _ => k10_ok, fun h => (by cases h)⟩ (css_cons ⟨fun _ => k11_ok, fun h => (by cases h)⟩ (css_cons ⟨fun _ => k12_ok, fun h => (by cases h)⟩ (css_cons ⟨fun _ => k25_ok, fun h => (by cases h)⟩ (css_cons ⟨fun _ => k26_ok, fun h => (by cases h)⟩ (css_cons ⟨fun _ => k27_ok, fun h => (by cases h)⟩ (css_nil)))))))), rfl, (by intro x hx; simp only [List.mem_cons, List.not_mem_nil, or_false] at hx; rcases hx with rfl | rfl | rfl <;> rfl), ?_⟩
  have H : Gives (g4 a0 a1 a2) (fun a => a = r) := ⟨r, hok, rfl⟩
  unfold g4 at H
  clear hok
  refine ob_sl hc0 H fun h343 H => ?_
  have hs344 := sl_ei hR0 rfl hc0 h343
  intro n345 hn346
  obtain rfl : n345 = ((a0.drop (0 : Int).toNat).take ((gmin ((a0.length : Nat) : Int) 300).toNat - (0 : Int).toNat)).length := hn346.trans hs344.2.1.symm
  refine ob_ck H fun h347 H => ?_
  intro n348 zs350 hn349 hz351
  obtain rfl : n348 = (bytesOf (lit [27, 91, 50, 48, 48, 126])).length := hn349.trans (bytesOf_len _).symm
  obtain rfl : zs350 = ei .u8 (bytesOf (lit [27, 91, 50, 48, 48, 126])) := hz351.trans (bytes_bv (s := (lit [27, 91, 50, 48, 48, 126])))
  refine R.cut_fam H 36 [2] [] (fun v397 => [(7, .own 36)]) (fun v397 => [(36, .arr 5 1 (v397.length) (ei .u8 (v397)))]) [] 1 (fun H => ?_)
  refine And.intro ?_ ?_
  · refine R.loop_fam (bind_st H) [0, 1, 2] [] (fun _ s401 => [(7, .own 16), (8, .v (.int .i64 (s401.2)))]) (fun _ s401 => [(16, .arr 5 1 (s401.1.length) (ei .u8 (s401.1)))]) 1 (fun n434 H => ?_)
    refine ⟨(n434, _), ⟨H⟩, ⟨trivial⟩, ?_⟩
    repeat refine mo1_LiftD5 ?_
    rintro ⟨m0, s401⟩ H _
    obtain ⟨m402, hm0, H⟩ := IG_succ H
    dsimp only at hm0
    subst hm0
    try dsimp only at H
    refine ob_ck H fun h424 H => ?_
    refine if_st H (fun h425 H => ?_) (fun h425 H => ?_)
    · refine if_st H (fun h426 H => ?_) (fun h426 H => ?_)
      · refine rs_st hs344.1 (ei_len.trans (Nat.mul_one _).symm) ?_
        refine ob_app (by decide) (by first | exact ei_one | ((repeat (refine List.forall_mem_cons.2 ⟨rfl, ?_⟩)); intro y hy; cases hy; done) | (intro y hy; simp [ei, eb, es, ec, c51] at hy; (first | (rcases hy with rfl | hy) | subst hy | skip); all_goals first | rfl | simp_all [Value.oneCell'])) H fun h427 H => ?_
        intro n428 zs430 hn429 hz431
        obtain rfl : n428 = (s401.1 ++ ((a0.drop (0 : Int).toNat).take ((gmin ((a0.length : Nat) : Int) 300).toNat - (0 : Int).toNat))).length := hn429.trans (by first | exact List.length_append.symm | (simp; done) | (simp; omega))
        obtain rfl : zs430 = ei .u8 (s401.1 ++ ((a0.drop (0 : Int).toNat).take ((gmin ((a0.length : Nat) : Int) 300).toNat - (0 : Int).toNat))) := by first | exact hz431.trans (ei_app (xs := s401.1) (ys := ((a0.drop (0 : Int).toNat).take ((gmin ((a0.length : Nat) : Int) 300).toNat - (0 : Int).toNat)))).symm | (rw [hz431, ei_vw]; first | exact ei_app.symm | exact (ei_app (xs := s401.1)).symm) | (rw [hz431]; simp [ei, eb, es, ec, c51])
        refine if_st H (fun h432 H => ?_) (fun h432 H => ?_)
        · replace H := some_st H
          dsimp only [stp, sm] at H
          refine ⟨(s401.1 ++ ((a0.drop (0 : Int).toNat).take ((gmin ((a0.length : Nat) : Int) 300).toNat - (0 : Int).toNat))), ⟨H⟩, ⟨rfl⟩, ?_⟩
          repeat refine mo1_LiftD5 ?_
          first | exact trivial | exact rfl
        · refine ob_ck H fun h433 H => ?_
          replace H := some_st H
          refine ⟨(m402, ((s401.1 ++ ((a0.drop (0 : Int).toNat).take ((gmin ((a0.length : Nat) : Int) 300).toNat - (0 : Int).toNat))), s401.2 + 1)), ⟨H, Nat.lt_succ_self _⟩, ⟨trivial⟩, ⟨rfl⟩, ?_⟩
          repeat refine mo1_LiftD5 ?_
          first | exact trivial | exact rfl
      · replace H := some_st H
        dsimp only [stp, sm] at H
        refine ⟨s401.1, ⟨H⟩, ⟨rfl⟩, ?_⟩
        repeat refine mo1_LiftD5 ?_
        first | exact trivial | exact rfl
    · replace H := some_st H
      dsimp only [stp, sm] at H
      refine ⟨s401.1, ⟨H⟩, ⟨rfl⟩, ?_⟩
      repeat refine mo1_LiftD5 ?_
      first | exact trivial | exact rfl
  · intro v397 H
    refine ob_ck H fun h435 H => ?_
    intro n436 zs438 hn437 hz439
    obtain rfl : n436 = (v397 ++ bytesOf (lit [27, 91, 50, 48, 49, 126, 120])).length := hn437.trans (len_appS (xs := v397) (s := (lit [27, 91, 50, 48, 49, 126, 120])))
    obtain rfl : zs438 = ei .u8 (v397 ++ bytesOf (lit [27, 91, 50, 48, 49, 126, 120])) := hz439.trans (ei_appS (xs := v397) (s := (lit [27, 91, 50, 48, 49, 126, 120])))
    refine R.cut_famG H 93 [2, 7, 9] [] [] (fun v945 => [(11, .own 93)]) (fun v945 => [(93, .arr 51 6 (v945.length) (ec c51 (v945)))]) [(38, .arr 5 1 ((v397 ++ bytesOf (lit [27, 91, 50, 48, 49, 126, 120])).length) (ei .u8 ((v397 ++ bytesOf (lit [27, 91, 50, 48, 49, 126, 120]))))), (44, .cells 55 [.v (.slice none 0 0), .bb false, .v (.slice none 0 0), .v (.int .i64 (0)), .bb true])] 1 (fun H => ?_)
    refine And.intro ?_ ?_
    · refine rs_st (xs := []) Reads.nil rfl ?_
      refine ob_app (by decide) (by first | exact ei_one | ((repeat (refine List.forall_mem_cons.2 ⟨rfl, ?_⟩)); intro y hy; cases hy; done) | (intro y hy; simp [ei, eb, es, ec, c51] at hy; (first | (rcases hy with rfl | hy) | subst hy | skip); all_goals first | rfl | simp_all [Value.oneCell'])) H fun h947 H => ?_
      intro n948 zs950 hn949 hz951
      obtain rfl : n948 = (([] : List Int) ++ []).length := hn949.trans (by first | exact List.length_append.symm | (simp; done) | (simp; omega))
      obtain rfl : zs950 = ei .u8 (([] : List Int) ++ []) := by first | exact hz951.trans (ei_app (xs := ([] : List Int)) (ys := ([]))).symm | (rw [hz951, ei_vw]; first | exact ei_app.symm | exact (ei_app (xs := ([] : List Int))).symm) | (rw [hz951]; simp [ei, eb, es, ec, c51])
      refine ob_app (by decide) (by first | exact ei_one | ((repeat (refine List.forall_mem_cons.2 ⟨rfl, ?_⟩)); intro y hy; cases hy; done) | (intro y hy; simp [ei, eb, es, ec, c51] at hy; (first | (rcases hy with rfl | hy) | subst hy | skip); all_goals first | rfl | simp_all [Value.oneCell'])) H fun h952 H => ?_
      intro n953 zs955 hn954 hz956
      obtain rfl : n953 = ((([] : List Int) ++ []) ++ (v397 ++ bytesOf (lit [27, 91, 50, 48, 49, 126, 120]))).length := hn954.trans (by first | exact List.length_append.symm | (simp; done) | (simp; omega))
      obtain rfl : zs955 = ei .u8 ((([] : List Int) ++ []) ++ (v397 ++ bytesOf (lit [27, 91, 50, 48, 49, 126, 120]))) := by first | exact hz956.trans (ei_app (xs := (([] : List Int) ++ [])) (ys := (v397 ++ bytesOf (lit [27, 91, 50, 48, 49, 126, 120])))).symm | (rw [hz956, ei_vw]; first | exact ei_app.symm | exact (ei_app (xs := (([] : List Int) ++ []))).symm) | (rw [hz956]; simp [ei, eb, es, ec, c51])
      refine R.cut_famXG H 70 [2, 4] [] [(2, 0)] (fun (v965 : List Int) (g : (Option Addr × Nat)) => [(6, .v (.slice none 0 0))]) (fun (v965 : List Int) (g : (Option Addr × Nat)) => [(57, .cells 34 [.v (.slice ((g.1)) (v965.length) ((g.2))), .bb false])]) [(38, .arr 5 1 ((v397 ++ bytesOf (lit [27, 91, 50, 48, 49, 126, 120])).length) (ei .u8 ((v397 ++ bytesOf (lit [27, 91, 50, 48, 49, 126, 120]))))), (44, .cells 55 [.v (.slice none 0 0), .bb false, .v (.slice none 0 0), .v (.int .i64 (0)), .bb true]), (58, .cells 34 [.v (.slice none 0 0), .bb false])] 0 (fun q (v965 : List Int) (g : (Option Addr × Nat)) => Reads q g.1 (ei .u8 v965) ∧ v965.length ≤ g.2) (fun H => ?_)
      refine And.intro ?_ ?_
      · intro q967 A968 c969 hq970 hc971 hR972
        replace hR972 : Reads q967 A968 (ei .u8 ((([] : List Int) ++ []) ++ (v397 ++ bytesOf (lit [27, 91, 50, 48, 49, 126, 120])))) := Eq.mp (congrArg (Reads q967 A968) (by first | exact rfl | (simp only [ei, eb, es, ec, c51, gmin, gmax, List.map_append, List.flatMap_append, List.nil_append, List.append_nil, List.append_assoc]; done))) hR972
        refine ⟨(((([] : List Int) ++ []) ++ (v397 ++ bytesOf (lit [27, 91, 50, 48, 49, 126, 120]))), (A968, c969)), ⟨H, hR972, hc971⟩, ⟨fun _ _ _ h => (hq970 _ _ _ h)⟩, ?_⟩
        repeat refine mo1_LiftD5 ?_
        first | exact trivial | exact rfl
      · rintro q964 hq963 ⟨v965, ⟨A973, c974⟩⟩ ⟨H, hR975, hc976⟩
        dsimp only at H hR975 hc976
        refine R.cut_famXG H 79 [2, 4] [] [] (fun (v1085 : List Int × Bool × List (Int × ByteArray × Int × Bool × Bool × Bool)) (g : (Option Addr × Nat)) => [(6, .own 79)]) (fun (v1085 : List Int × Bool × List (Int × ByteArray × Int × Bool × Bool × Bool)) (g : (Option Addr × Nat)) => [(57, .cells 34 [.v (.slice ((g.1)) (v1085.1.length) ((g.2))), bS v1085.2.1]), (79, .arr 51 6 (v1085.2.2.length) (ec c51 (v1085.2.2)))]) [(38, .arr 5 1 ((v397 ++ bytesOf (lit [27, 91, 50, 48, 49, 126, 120])).length) (ei .u8 ((v397 ++ bytesOf (lit [27, 91, 50, 48, 49, 126, 120]))))), (44, .cells 55 [.v (.slice none 0 0), .bb false, .v (.slice none 0 0), .v (.int .i64 (0)), .bb true]), (58, .cells 34 [.v (.slice none 0 0), .bb false])] 1 (fun q (v1085 : List Int × Bool × List (Int × ByteArray × Int × Bool × Bool × Bool)) (g : (Option Addr × Nat)) => Reads q g.1 (ei .u8 v1085.1) ∧ v1085.1.length ≤ g.2) (fun H => ?_)
        refine And.intro ?_ ?_
        · refine R.loop_famXG (bind_st H) [2, 4] [(6, 0, 51, 6)] [(2, 0)] (fun _ => fun (s1089 : List Int × Bool × List (Int × ByteArray × Int × Bool × Bool × Bool)) (g : (Option Addr × Nat)) => [(6, .own 71)]) (fun _ => fun (s1089 : List Int × Bool × List (Int × ByteArray × Int × Bool × Bool × Bool)) (g : (Option Addr × Nat)) => [(57, .cells 34 [.v (.slice ((g.1)) (s1089.1.length) ((g.2))), bS s1089.2.1]), (71, .arr 51 6 (s1089.2.2.length) (ec c51 (s1089.2.2)))]) 1 (fun q (s1089 : List Int × Bool × List (Int × ByteArray × Int × Bool × Bool × Bool)) (g : (Option Addr × Nat)) => Reads q g.1 (ei .u8 s1089.1) ∧ s1089.1.length ≤ g.2) (fun n1192 H => ?_)
          refine ⟨(n1192, _, (A973, c974)), ⟨H⟩, ⟨hR975, hc976⟩, ?_⟩
          repeat refine mo1_LiftD5 ?_
          rintro q1088 hq1087 ⟨m0, s1089, ⟨A1105, c1106⟩⟩ H hrd
          obtain ⟨hR1107, hc1108⟩ := hrd
          obtain ⟨m1090, hm0, H⟩ := IG_succ H
          dsimp only at hm0 hR1107 hc1108
          subst hm0
          try dsimp only at H
          refine if_st H (fun h1144 H => ?_) (fun h1144 H => ?_)
          · refine if_st H (fun h1145 H => ?_) (fun h1145 H => ?_)
            · obtain ⟨v1146, hv1147, H⟩ := call_st H
              refine ⟨(s1089.1, v1146), ⟨hv1147⟩, ⟨trivial⟩, ?_⟩
              refine And.intro ⟨rfl, hc1108, ei_len.trans ((show _ = _ from rfl).trans (Nat.mul_one _).symm), hR1107⟩ ?_
              refine if_st H (fun h1148 H => ?_) (fun h1148 H => ?_)
              · replace H := some_st H
                dsimp only [stp, sm] at H
                refine ⟨s1089.2.2, ⟨H⟩, ⟨fun _ _ _ h => (hq1087 _ _ _ (hq963 _ _ _ h))⟩, ?_⟩
                repeat refine mo1_LiftD5 ?_
                first | exact trivial | exact rfl
              · refine ob_sl hc1108 H fun h1149 H => ?_
                have hs1150 := sl_ei hR1107 rfl hc1108 h1149
                intro n1151 hn1152
                obtain rfl : n1151 = ((s1089.1.drop (0 : Int).toNat).take ((gmin v1146 65536).toNat - (0 : Int).toNat)).length := hn1152.trans hs1150.2.1.symm
                obtain ⟨v1153, hv1154, H⟩ := call_st H
                refine ⟨(((s1089.1.drop (0 : Int).toNat).take ((gmin v1146 65536).toNat - (0 : Int).toNat)), v1153), ⟨hv1154⟩, ⟨trivial⟩, ?_⟩
                refine And.intro ⟨rfl, (Nat.le_trans (Nat.le_of_eq hs1150.2.1) hs1150.2.2), ei_len.trans ((show _ = _ from rfl).trans (Nat.mul_one _).symm), hs1150.1⟩ ?_
                refine ob_app (by decide) (by first | exact (ec_one c51_one) | ((repeat (refine List.forall_mem_cons.2 ⟨rfl, ?_⟩)); intro y hy; cases hy; done) | (intro y hy; simp [ei, eb, es, ec, c51] at hy; (first | (rcases hy with rfl | hy) | subst hy | skip); all_goals first | rfl | simp_all [Value.oneCell'])) H fun h1155 H => ?_
                intro n1156 zs1158 hn1157 hz1159
                obtain rfl : n1156 = (s1089.2.2 ++ [(16, v1153, 0, false, false, false)]).length := hn1157.trans (by first | exact List.length_append.symm | (simp; done) | (simp; omega))
                obtain rfl : zs1158 = ec c51 (s1089.2.2 ++ [(16, v1153, 0, false, false, false)]) := by first | exact hz1159.trans (ec_app (xs := s1089.2.2) (ys := ([(16, v1153, 0, false, false, false)]))).symm | (rw [hz1159, ec_vw]; first | exact ec_app.symm | exact (ec_app (xs := s1089.2.2)).symm) | (rw [hz1159]; simp [ei, eb, es, ec, c51])
                refine ob_ck H fun h1160 H => ?_
                refine ob_sl hc1108 H fun h1161 H => ?_
                have hs1162 := sl_ei hR1107 rfl hc1108 h1161
                intro n1163 hn1164
                obtain rfl : n1163 = ((s1089.1.drop (v1146 + 6).toNat).take (((s1089.1.length : Nat) : Int).toNat - (v1146 + 6).toNat)).length := hn1164.trans hs1162.2.1.symm
                replace H := some_st H
                refine ⟨(m1090, (((s1089.1.drop (v1146 + 6).toNat).take (((s1089.1.length : Nat) : Int).toNat - (v1146 + 6).toNat)), false, (s1089.2.2 ++ [(16, v1153, 0, false, false, false)])), (if c1106 = (v1146 + 6).toNat then A1105 else A1105.map (·.add ((v1146 + 6).toNat)), c1106 - (v1146 + 6).toNat)), ⟨H, Nat.lt_succ_self _⟩, ⟨hs1162.1, (Nat.le_trans (Nat.le_of_eq hs1162.2.1) hs1162.2.2)⟩, ⟨fun _ _ _ h => (hq1087 _ _ _ h)⟩, ?_⟩
                repeat refine mo1_LiftD5 ?_
                first | exact trivial | exact rfl
            · obtain ⟨v1165, hv1166, H⟩ := call_st H
              refine ⟨(s1089.1, v1165), ⟨hv1166⟩, ⟨trivial⟩, ?_⟩
              refine And.intro ⟨rfl, hc1108, ei_len.trans ((show _ = _ from rfl).trans (Nat.mul_one _).symm), hR1107⟩ ?_
              refine if_st H (fun h1167 H => ?_) (fun h1167 H => ?_)
              · replace H := some_st H
                dsimp only [stp, sm] at H
                refine ⟨s1089.2.2, ⟨H⟩, ⟨fun _ _ _ h => (hq1087 _ _ _ (hq963 _ _ _ h))⟩, ?_⟩
                repeat refine mo1_LiftD5 ?_
                first | exact trivial | exact rfl
              · refine ob_sl hc1108 H fun h1168 H => ?_
                have hs1169 := sl_ei hR1107 rfl hc1108 h1168
                intro n1170 hn1171
                obtain rfl : n1170 = ((s1089.1.drop v1165.1.toNat).take (((s1089.1.length : Nat) : Int).toNat - v1165.1.toNat)).length := hn1171.trans hs1169.2.1.symm
                refine if_st H (fun h1172 H => ?_) (fun h1172 H => ?_)
                · refine ob_app (by decide) (by first | exact (ec_one c51_one) | ((repeat (refine List.forall_mem_cons.2 ⟨rfl, ?_⟩)); intro y hy; cases hy; done) | (intro y hy; simp [ei, eb, es, ec, c51] at hy; (first | (rcases hy with rfl | hy) | subst hy | skip); all_goals first | rfl | simp_all [Value.oneCell'])) H fun h1173 H => ?_
                  intro n1174 zs1176 hn1175 hz1177
                  obtain rfl : n1174 = (s1089.2.2 ++ [(v1165.2.1, v1165.2.2.1, v1165.2.2.2.1, v1165.2.2.2.2.1, v1165.2.2.2.2.2.1, v1165.2.2.2.2.2.2.1)]).length := hn1175.trans (by first | exact List.length_append.symm | (simp; done) | (simp; omega))
                  obtain rfl : zs1176 = ec c51 (s1089.2.2 ++ [(v1165.2.1, v1165.2.2.1, v1165.2.2.2.1, v1165.2.2.2.2.1, v1165.2.2.2.2.2.1, v1165.2.2.2.2.2.2.1)]) := by first | exact hz1177.trans (ec_app (xs := s1089.2.2) (ys := ([(v1165.2.1, v1165.2.2.1, v1165.2.2.2.1, v1165.2.2.2.2.1, v1165.2.2.2.2.2.1, v1165.2.2.2.2.2.2.1)]))).symm | (rw [hz1177, ec_vw]; first | exact ec_app.symm | exact (ec_app (xs := s1089.2.2)).symm) | (rw [hz1177]; simp [ei, eb, es, ec, c51])
                  replace H := some_st H
                  refine ⟨(m1090, (((s1089.1.drop v1165.1.toNat).take (((s1089.1.length : Nat) : Int).toNat - v1165.1.toNat)), v1165.2.2.2.2.2.2.2.2, (s1089.2.2 ++ [(v1165.2.1, v1165.2.2.1, v1165.2.2.2.1, v1165.2.2.2.2.1, v1165.2.2.2.2.2.1, v1165.2.2.2.2.2.2.1)])), (if c1106 = v1165.1.toNat then A1105 else A1105.map (·.add (v1165.1.toNat)), c1106 - v1165.1.toNat)), ⟨H, Nat.lt_succ_self _⟩, ⟨hs1169.1, (Nat.le_trans (Nat.le_of_eq hs1169.2.1) hs1169.2.2)⟩, ⟨fun _ _ _ h => (hq1087 _ _ _ h)⟩, ?_⟩
                  repeat refine mo1_LiftD5 ?_
                  first | exact trivial | exact rfl
                · replace H := some_st H
                  refine ⟨(m1090, (((s1089.1.drop v1165.1.toNat).take (((s1089.1.length : Nat) : Int).toNat - v1165.1.toNat)), v1165.2.2.2.2.2.2.2.2, s1089.2.2), (if c1106 = v1165.1.toNat then A1105 else A1105.map (·.add (v1165.1.toNat)), c1106 - v1165.1.toNat)), ⟨H, Nat.lt_succ_self _⟩, ⟨hs1169.1, (Nat.le_trans (Nat.le_of_eq hs1169.2.1) hs1169.2.2)⟩, ⟨fun _ _ _ h => (hq1087 _ _ _ h)⟩, ?_⟩
                  repeat refine mo1_LiftD5 ?_
                  first | exact trivial | exact rfl
          · replace H := some_st H
            dsimp only [stp, sm] at H
            refine ⟨((s1089.1, s1089.2.1, s1089.2.2), (A1105, c1106)), ⟨H, hR1107, hc1108⟩, ⟨fun _ _ _ h => (hq1087 _ _ _ h)⟩, ?_⟩
            repeat refine mo1_LiftD5 ?_
            first | exact trivial | exact rfl
        · rintro q1084 hq1083 ⟨v1085, ⟨A1193, c1194⟩⟩ ⟨H, hR1195, hc1196⟩
          dsimp only at H hR1195 hc1196
          refine ⟨v1085.2.2, ⟨H⟩, ⟨fun _ _ _ h => (hq1083 _ _ _ (hq963 _ _ _ h))⟩, ?_⟩
          repeat refine mo1_LiftD5 ?_
          first | exact trivial | exact rfl
    · intro q944 hq943 v945 H
      refine ob_ck H fun h1197 H => ?_
      refine ob_ck H fun h1198 H => ?_
      refine R.cut_fam H 115 [9, 11] [] (fun v1256 => [(12, .own 117)]) (fun v1256 => [(44, .cells 55 [.own 115, bS v1256.2.1, .own 116, .v (.int .i64 (v1256.2.2.2.1)), bS v1256.2.2.2.2.1]), (115, .arr 5 1 (v1256.1.length) (ei .u8 (v1256.1))), (116, .arr 5 1 (v1256.2.2.1.length) (ei .u8 (v1256.2.2.1))), (117, .arr 51 6 (v1256.2.2.2.2.2.length) (ec c51 (v1256.2.2.2.2.2)))]) [(93, .arr 51 6 (v945.length) (ec c51 (v945))), (38, .arr 5 1 ((v397 ++ bytesOf (lit [27, 91, 50, 48, 49, 126, 120])).length) (ei .u8 ((v397 ++ bytesOf (lit [27, 91, 50, 48, 49, 126, 120])))))] 3 (fun H => ?_)
      refine And.intro ?_ ?_
      · refine R.loop_fam (bind_st H) [7, 9, 11, 13] [(100044, 0, 5, 1), (100044, 2, 5, 1), (12, 0, 51, 6)] (fun _ s1260 => [(12, .own 105), (14, .v (.int .i64 (s1260.2.2.2.2.2.2)))]) (fun _ s1260 => [(44, .cells 55 [.own 103, bS s1260.2.1, .own 104, .v (.int .i64 (s1260.2.2.2.1)), bS s1260.2.2.2.2.1]), (103, .arr 5 1 (s1260.1.length) (ei .u8 (s1260.1))), (104, .arr 5 1 (s1260.2.2.1.length) (ei .u8 (s1260.2.2.1))), (105, .arr 51 6 (s1260.2.2.2.2.2.1.length) (ec c51 (s1260.2.2.2.2.2.1)))]) 3 (fun n1302 H => ?_)
        refine ⟨(n1302, _), ⟨H⟩, ⟨trivial⟩, ?_⟩
        repeat refine mo1_LiftD5 ?_
        rintro ⟨m0, s1260⟩ H _
        obtain ⟨m1261, hm0, H⟩ := IG_succ H
        dsimp only at hm0
        subst hm0
        try dsimp only at H
        refine if_st H (fun h1289 H => ?_) (fun h1289 H => ?_)
        · refine ob_ck H fun h1290 H => ?_
          refine ob_ck H fun h1291 H => ?_
          try dsimp only at h1291
          intro n1292 hn1293
          subst hn1293
          obtain ⟨v1294, hv1295, H⟩ := call_st H
          refine ⟨((s1260.1, s1260.2.1, s1260.2.2.1, s1260.2.2.2.1, s1260.2.2.2.2.1), (((v397 ++ bytesOf (lit [27, 91, 50, 48, 49, 126, 120])).drop s1260.2.2.2.2.2.2.toNat).take ((gmin (((v397 ++ bytesOf (lit [27, 91, 50, 48, 49, 126, 120])).length : Nat) : Int) (s1260.2.2.2.2.2.2 + (1 + a2))).toNat - s1260.2.2.2.2.2.2.toNat)), v1294), ⟨hv1295⟩, ⟨trivial⟩, ?_⟩
          refine And.intro ⟨rfl⟩ ?_
          refine And.intro ⟨(len_vw (by first | omega | (dsimp only; omega))).symm, by first | omega | (dsimp only; omega), ei_vw⟩ ?_
          refine mo1_LiftD5 ?_
          refine mo1_LiftD5 ?_
          refine mo1_LiftD5 ?_
          refine mo1_LiftD5 ?_
          refine mo1_LiftD5 ?_
          refine ob_app (by decide) (by first | exact (ec_one c51_one) | ((repeat (refine List.forall_mem_cons.2 ⟨rfl, ?_⟩)); intro y hy; cases hy; done) | (intro y hy; simp [ei, eb, es, ec, c51] at hy; (first | (rcases hy with rfl | hy) | subst hy | skip); all_goals first | rfl | simp_all [Value.oneCell'])) H fun h1296 H => ?_
          intro n1297 zs1299 hn1298 hz1300
          obtain rfl : n1297 = (s1260.2.2.2.2.2.1 ++ v1294.1).length := hn1298.trans (by first | exact List.length_append.symm | (simp; done) | (simp; omega))
          obtain rfl : zs1299 = ec c51 (s1260.2.2.2.2.2.1 ++ v1294.1) := by first | exact hz1300.trans (ec_app (xs := s1260.2.2.2.2.2.1) (ys := v1294.1)).symm | (rw [hz1300, ec_vw]; first | exact ec_app.symm | exact (ec_app (xs := s1260.2.2.2.2.2.1)).symm) | (rw [hz1300]; simp [ei, eb, es, ec, c51])
          refine ob_ck H fun h1301 H => ?_
          replace H := some_st H
          refine ⟨(m1261, (v1294.2.1, v1294.2.2.1, v1294.2.2.2.1, v1294.2.2.2.2.1, v1294.2.2.2.2.2, (s1260.2.2.2.2.2.1 ++ v1294.1), s1260.2.2.2.2.2.2 + (1 + a2))), ⟨H, Nat.lt_succ_self _⟩, ⟨trivial⟩, ⟨rfl⟩, ?_⟩
          repeat refine mo1_LiftD5 ?_
          first | exact trivial | exact rfl
        · replace H := some_st H
          dsimp only [stp, sm] at H
          refine ⟨(s1260.1, s1260.2.1, s1260.2.2.1, s1260.2.2.2.1, s1260.2.2.2.2.1, s1260.2.2.2.2.2.1), ⟨H⟩, ⟨rfl⟩, ?_⟩
          repeat refine mo1_LiftD5 ?_
          first | exact trivial | exact rfl
      · intro v1256 H
        obtain ⟨v1303, hv1304, H⟩ := call_st H
        refine ⟨(v1256.2.2.2.2.2, v945, v1303), ⟨hv1304⟩, ⟨trivial⟩, ?_⟩
        refine And.intro ⟨by first | rfl | (simp; done), by first | rfl | (simp [ei, eb, es, ec, c51]; done) | (simp only [ei, eb, es, ec, c51, List.map_append, List.nil_append, List.append_assoc]; rfl)⟩ ?_
        refine And.intro ⟨by first | rfl | (simp; done), by first | rfl | (simp [ei, eb, es, ec, c51]; done) | (simp only [ei, eb, es, ec, c51, List.map_append, List.nil_append, List.append_assoc]; rfl)⟩ ?_
        refine if_st H (fun h1305 H => ?_) (fun h1305 H => ?_)
        · obtain ⟨v1306, hv1307, H⟩ := call_st H
          refine ⟨((v1256.1, v1256.2.1, v1256.2.2.1, v1256.2.2.2.1, v1256.2.2.2.2.1), v1306), ⟨hv1307⟩, ⟨trivial⟩, ?_⟩
          refine mo1_LiftD5 ?_
          refine mo1_LiftD5 ?_
          refine mo1_LiftD5 ?_
          refine mo1_LiftD5 ?_
          refine mo1_LiftD5 ?_
          refine if_st H (fun h1308 H => ?_) (fun h1308 H => ?_)
          · obtain ⟨v1309, hv1310, H⟩ := call_st H
            refine ⟨v1309, ⟨hv1310⟩, ⟨trivial⟩, ?_⟩
            have hfin := fin_st H
            repeat refine mf1_LiftD5 ?_
            first | exact trivial | exact rfl
          · have hfin := fin_st H
            repeat refine mf1_LiftD5 ?_
            first | exact trivial | exact rfl
        · have hfin := fin_st H
          repeat refine mf1_LiftD5 ?_
          first | exact trivial | exact rfl

end Go.Proofs.YtenjkphlbdhaiaaDoor
