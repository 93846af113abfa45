/-
  Functions of the program, lifted: each with its walk. Printed by lift.py.
  Nothing here is trusted.
-/
import Derived.Test.YtenjkphlbdhaiaaDoorLiftD4
set_option linter.unusedVariables false
set_option linter.unusedSimpArgs false
namespace Go.Proofs.YtenjkphlbdhaiaaDoor
open Go Go.Eng

theorem mo1_LiftD5 {p q : Prop} (k : q) (h : p := by first | exact rfl | exact Iff.rfl | exact ⟨rfl, rfl⟩ | exact decide_eq_true_iff | (constructor <;> first | exact rfl | (simp only [ei, eb, es, ec, c51, gmin, gmax, List.map_append, List.flatMap_append, List.nil_append, List.append_nil, List.append_assoc]; done) | omega | (simp only [List.nil_append, List.length_append, List.length_cons, List.length_nil]; omega) | (simp [ei, eb, es, ec, c51, gmin, gmax]; done)) | exact rfl | (simp only [ei, eb, es, ec, c51, gmin, gmax, List.map_append, List.flatMap_append, List.nil_append, List.append_nil, List.append_assoc]; done) | omega | (simp only [List.nil_append, List.length_append, List.length_cons, List.length_nil]; omega) | (simp [ei, eb, es, ec, c51, gmin, gmax]; done) | simp [ei, eb, es, ec, c51, gmin, gmax]) : Ob p ∧ q := ⟨⟨h⟩, k⟩
theorem mf1_LiftD5 {p q : Prop} (k : q) (h : p := by first | (rw [← hfin] <;> first | exact rfl | exact Iff.rfl | exact ⟨rfl, rfl⟩ | exact decide_eq_true_iff | (constructor <;> first | exact rfl | (simp only [ei, eb, es, ec, c51, gmin, gmax, List.map_append, List.flatMap_append, List.nil_append, List.append_nil, List.append_assoc]; done) | omega | (simp only [List.nil_append, List.length_append, List.length_cons, List.length_nil]; omega) | (simp [ei, eb, es, ec, c51, gmin, gmax]; done)) | exact rfl | (simp only [ei, eb, es, ec, c51, gmin, gmax, List.map_append, List.flatMap_append, List.nil_append, List.append_nil, List.append_assoc]; done) | omega | (simp only [List.nil_append, List.length_append, List.length_cons, List.length_nil]; omega) | (simp [ei, eb, es, ec, c51, gmin, gmax]; done) | simp [ei, eb, es, ec, c51, gmin, gmax]) | first | exact rfl | exact Iff.rfl | exact ⟨rfl, rfl⟩ | exact decide_eq_true_iff | (constructor <;> first | exact rfl | (simp only [ei, eb, es, ec, c51, gmin, gmax, List.map_append, List.flatMap_append, List.nil_append, List.append_nil, List.append_assoc]; done) | omega | (simp only [List.nil_append, List.length_append, List.length_cons, List.length_nil]; omega) | (simp [ei, eb, es, ec, c51, gmin, gmax]; done)) | exact rfl | (simp only [ei, eb, es, ec, c51, gmin, gmax, List.map_append, List.flatMap_append, List.nil_append, List.append_nil, List.append_assoc]; done) | omega | (simp only [List.nil_append, List.length_append, List.length_cons, List.length_nil]; omega) | (simp [ei, eb, es, ec, c51, gmin, gmax]; done) | simp [ei, eb, es, ec, c51, gmin, gmax]) : Ob p ∧ q := ⟨⟨h⟩, k⟩
/-- placard/placardlaw07.awake -/
noncomputable def g12  : Option (Bool) :=
  (g9 ([], false, [], 0, true) ([27, 91, 49, 59, 53, 67, 27])).bind fun v7 =>
  (g15 (v7.2.1, v7.2.2.1, v7.2.2.2.1, v7.2.2.2.2.1, v7.2.2.2.2.2)).bind fun v9 =>
  (g10 v7.1 ([(11, (⟨#[]⟩ : ByteArray), 0, false, false, true)])).bind fun v11 =>
  if v11 = true then
    (
      (g10 v9.1 ([(5, (⟨#[]⟩ : ByteArray), 0, false, false, false)])).bind fun v14 =>
      if v14 = true then
        (
          (g11 (v9.2.1, v9.2.2.1, v9.2.2.2.1, v9.2.2.2.2.1, v9.2.2.2.2.2)).bind fun v17 =>
          if v17 = 0 then
            (
              ck (0 ≤ (0 : Int) ∧ 0 < ((v7.1.length : Nat) : Int)) <|
              (g21 ((v7.1.getD (0 : Int).toNat default).1, (v7.1.getD (0 : Int).toNat default).2.1, (v7.1.getD (0 : Int).toNat default).2.2.1, (decide (((v7.1.getD (0 : Int).toNat default).2.2.2.1) = true)), (decide (((v7.1.getD (0 : Int).toNat default).2.2.2.2.1) = true)), (decide (((v7.1.getD (0 : Int).toNat default).2.2.2.2.2) = true)))).bind fun v21 =>
              some (decide (v21.data.toList = (lit [99, 116, 108, 45, 114, 105, 103, 104, 116]).data.toList))
            )
          else
            some false
        )
      else
        some false
    )
  else
    some false
noncomputable def k12 : Eng.CS := { f := 12, calm := true, more := 0, ι := Bool, ok := fun i => g12  = some i, rds := fun _ => [], args := fun i => [], res := fun i => bS i }
set_option maxRecDepth 8000 in
set_option maxHeartbeats 4000000 in
theorem k12_ok : CalmOk Tryd.prog k12 := by
  refine R.calmspec Tryd.func12 nm12 rfl ?_
  rintro r hok q _ args hargs
  match args, hargs with
  | [], hargs =>
  refine ⟨envC [k9, k10, k11, k15, k21] false [], 6, envC_ok (css_cons ⟨fun h => (by cases h), fun _ => k9_ok⟩ (css_cons ⟨fun _ => k10_ok, fun h => (by cases h)⟩ (css_cons ⟨fun _ => k11_ok, fun h => (by cases h)⟩ (css_cons ⟨fun h => (by cases h), fun _ => k15_ok⟩ (css_cons ⟨fun _ => k21_ok, fun h => (by cases h)⟩ (css_nil)))))), rfl, (by intro x hx; cases hx), ?_⟩
  have H : Gives (g12 ) (fun a => a = r) := ⟨r, hok, rfl⟩
  unfold g12 at H
  clear hok
  refine And.intro ⟨by first | decide | omega | (simp; done)⟩ ?_
  intro q1 A2 c3 hq4 hc5 hR6
  replace hR6 : Reads q1 A2 (ei .u8 ([27, 91, 49, 59, 53, 67, 27])) := Eq.mp (congrArg (Reads q1 A2) (by first | exact rfl | (simp only [ei, eb, es, ec, c51, gmin, gmax, List.map_append, List.flatMap_append, List.nil_append, List.append_nil, List.append_assoc]; done))) hR6
  obtain ⟨v7, hv8, H⟩ := call_st H
  refine ⟨(([], false, [], 0, true), [27, 91, 49, 59, 53, 67, 27], v7), ⟨hv8⟩, ⟨trivial⟩, ?_⟩
  refine And.intro ⟨rfl⟩ ?_
  refine And.intro ⟨((show ([27, 91, 49, 59, 53, 67, 27]).length = 7 from by first | rfl | (simp; done) | (simp; omega))).symm, hc5, ei_len.trans ((show _ = _ from (show ([27, 91, 49, 59, 53, 67, 27]).length = 7 from by first | rfl | (simp; done) | (simp; omega))).trans (Nat.mul_one _).symm), hR6⟩ ?_
  refine mo1_LiftD5 ?_
  refine mo1_LiftD5 ?_
  refine mo1_LiftD5 ?_
  refine mo1_LiftD5 ?_
  refine mo1_LiftD5 ?_
  obtain ⟨v9, hv10, H⟩ := call_st H
  refine ⟨((v7.2.1, v7.2.2.1, v7.2.2.2.1, v7.2.2.2.2.1, v7.2.2.2.2.2), v9), ⟨hv10⟩, ⟨trivial⟩, ?_⟩
  refine And.intro ⟨rfl⟩ ?_
  refine mo1_LiftD5 ?_
  refine mo1_LiftD5 ?_
  refine mo1_LiftD5 ?_
  refine mo1_LiftD5 ?_
  refine mo1_LiftD5 ?_
  obtain ⟨v11, hv12, H⟩ := call_st H
  refine ⟨(v7.1, [(11, (⟨#[]⟩ : ByteArray), 0, false, false, true)], v11), ⟨hv12⟩, ⟨trivial⟩, ?_⟩
  refine And.intro ⟨by first | rfl | (simp; done), by first | rfl | (simp [ei, eb, es, ec, c51]; done) | (simp only [ei, eb, es, ec, c51, List.map_append, List.nil_append, List.append_assoc]; rfl)⟩ ?_
  refine And.intro ⟨by first | rfl | (simp; done), by first | rfl | (simp [ei, eb, es, ec, c51]; done) | (simp only [ei, eb, es, ec, c51, List.map_append, List.nil_append, List.append_assoc]; rfl)⟩ ?_
  refine if_st H (fun h13 H => ?_) (fun h13 H => ?_)
  · obtain ⟨v14, hv15, H⟩ := call_st H
    refine ⟨(v9.1, [(5, (⟨#[]⟩ : ByteArray), 0, false, false, false)], v14), ⟨hv15⟩, ⟨trivial⟩, ?_⟩
    refine And.intro ⟨by first | rfl | (simp; done), by first | rfl | (simp [ei, eb, es, ec, c51]; done) | (simp only [ei, eb, es, ec, c51, List.map_append, List.nil_append, List.append_assoc]; rfl)⟩ ?_
    refine And.intro ⟨by first | rfl | (simp; done), by first | rfl | (simp [ei, eb, es, ec, c51]; done) | (simp only [ei, eb, es, ec, c51, List.map_append, List.nil_append, List.append_assoc]; rfl)⟩ ?_
    refine if_st H (fun h16 H => ?_) (fun h16 H => ?_)
    · obtain ⟨v17, hv18, H⟩ := call_st H
      refine ⟨((v9.2.1, v9.2.2.1, v9.2.2.2.1, v9.2.2.2.2.1, v9.2.2.2.2.2), v17), ⟨hv18⟩, ⟨trivial⟩, ?_⟩
      refine mo1_LiftD5 ?_
      refine mo1_LiftD5 ?_
      refine mo1_LiftD5 ?_
      refine mo1_LiftD5 ?_
      refine mo1_LiftD5 ?_
      refine if_st H (fun h19 H => ?_) (fun h19 H => ?_)
      · refine ob_ck H fun h20 H => ?_
        refine ld_int (e := (v7.1.getD (0 : Int).toNat default).1) (own_get (ys := ec c51 v7.1) (by first | rfl | simp [ei, eb, es, ec, c51]) ((ec_get (i := (0 : Int).toNat) (o := 0) c51_len (by first | exact tn h20 | (have := tn h20; simp at this ⊢; omega) | (have := tn h20; simp; omega)) (by decide)).trans rfl)) ?_
        refine ld_str (e := (v7.1.getD (0 : Int).toNat default).2.1) (own_get (ys := ec c51 v7.1) (by first | rfl | simp [ei, eb, es, ec, c51]) ((ec_get (i := (0 : Int).toNat) (o := 1) c51_len (by first | exact tn h20 | (have := tn h20; simp at this ⊢; omega) | (have := tn h20; simp; omega)) (by decide)).trans rfl)) ?_
        refine ld_int (e := (v7.1.getD (0 : Int).toNat default).2.2.1) (own_get (ys := ec c51 v7.1) (by first | rfl | simp [ei, eb, es, ec, c51]) ((ec_get (i := (0 : Int).toNat) (o := 2) c51_len (by first | exact tn h20 | (have := tn h20; simp at this ⊢; omega) | (have := tn h20; simp; omega)) (by decide)).trans rfl)) ?_
        refine ld_bool (e := (v7.1.getD (0 : Int).toNat default).2.2.2.1) (own_get (ys := ec c51 v7.1) (by first | rfl | simp [ei, eb, es, ec, c51]) ((ec_get (i := (0 : Int).toNat) (o := 3) c51_len (by first | exact tn h20 | (have := tn h20; simp at this ⊢; omega) | (have := tn h20; simp; omega)) (by decide)).trans rfl)) ?_
        refine ld_bool (e := (v7.1.getD (0 : Int).toNat default).2.2.2.2.1) (own_get (ys := ec c51 v7.1) (by first | rfl | simp [ei, eb, es, ec, c51]) ((ec_get (i := (0 : Int).toNat) (o := 4) c51_len (by first | exact tn h20 | (have := tn h20; simp at this ⊢; omega) | (have := tn h20; simp; omega)) (by decide)).trans rfl)) ?_
        refine ld_bool (e := (v7.1.getD (0 : Int).toNat default).2.2.2.2.2) (own_get (ys := ec c51 v7.1) (by first | rfl | simp [ei, eb, es, ec, c51]) ((ec_get (i := (0 : Int).toNat) (o := 5) c51_len (by first | exact tn h20 | (have := tn h20; simp at this ⊢; omega) | (have := tn h20; simp; omega)) (by decide)).trans rfl)) ?_
        obtain ⟨v21, hv22, H⟩ := call_st H
        refine ⟨(((v7.1.getD (0 : Int).toNat default).1, (v7.1.getD (0 : Int).toNat default).2.1, (v7.1.getD (0 : Int).toNat default).2.2.1, (decide (((v7.1.getD (0 : Int).toNat default).2.2.2.1) = true)), (decide (((v7.1.getD (0 : Int).toNat default).2.2.2.2.1) = true)), (decide (((v7.1.getD (0 : Int).toNat default).2.2.2.2.2) = true))), v21), ⟨hv22⟩, ⟨trivial⟩, ?_⟩
        refine mo1_LiftD5 ?_
        refine mo1_LiftD5 ?_
        refine mo1_LiftD5 ?_
        refine mo1_LiftD5 ?_
        refine mo1_LiftD5 ?_
        refine mo1_LiftD5 ?_
        have hfin := fin_st H
        repeat refine mf1_LiftD5 ?_
        first | exact trivial | exact rfl
      · have hfin := fin_st H
        repeat refine mf1_LiftD5 ?_
        first | exact trivial | exact rfl
    · have hfin := fin_st H
      repeat refine mf1_LiftD5 ?_
      first | exact trivial | exact rfl
  · have hfin := fin_st H
    repeat refine mf1_LiftD5 ?_
    first | exact trivial | exact rfl

end Go.Proofs.YtenjkphlbdhaiaaDoor
