/-
  Functions of the program, lifted: each with its walk. Printed by lift.py.
  Nothing here is trusted.
-/
import Derived.Test.YtcnofjjiepcpjaaLiftW1
set_option linter.unusedVariables false
set_option linter.unusedSimpArgs false
namespace Go.Proofs.Ytcnofjjiepcpjaa
open Go Go.Eng

/-- placard/window.Bar -/
noncomputable def g65 (a0 : Int) (a1 : Int) (a2 : Int) : Option (Int × Int) :=
  if (gmin a1 1073741824) < 1 then
    some (0, 0)
  else
    (
      if (gmin a0 1073741824) ≤ (gmin a1 1073741824) then
        some (0, gmin a1 1073741824)
      else
        (
          ck (inR .i64 ((gmin a1 1073741824) * (gmin a1 1073741824))) <|
          ck ((gmin a0 1073741824) ≠ 0) <|
          ck (inR .i64 (Int.tdiv ((gmin a1 1073741824) * (gmin a1 1073741824)) (gmin a0 1073741824))) <|
          ck (inR .i64 ((gmin a0 1073741824) - (gmin a1 1073741824))) <|
          (g67 a2 0 ((gmin a0 1073741824) - (gmin a1 1073741824))).bind fun v9 =>
          ck (inR .i64 ((gmin a1 1073741824) - (gmax 1 (Int.tdiv ((gmin a1 1073741824) * (gmin a1 1073741824)) (gmin a0 1073741824))))) <|
          ck (inR .i64 (v9 * ((gmin a1 1073741824) - (gmax 1 (Int.tdiv ((gmin a1 1073741824) * (gmin a1 1073741824)) (gmin a0 1073741824)))))) <|
          ck (((gmin a0 1073741824) - (gmin a1 1073741824)) ≠ 0) <|
          ck (inR .i64 (Int.tdiv (v9 * ((gmin a1 1073741824) - (gmax 1 (Int.tdiv ((gmin a1 1073741824) * (gmin a1 1073741824)) (gmin a0 1073741824))))) ((gmin a0 1073741824) - (gmin a1 1073741824)))) <|
          some (Int.tdiv (v9 * ((gmin a1 1073741824) - (gmax 1 (Int.tdiv ((gmin a1 1073741824) * (gmin a1 1073741824)) (gmin a0 1073741824))))) ((gmin a0 1073741824) - (gmin a1 1073741824)), gmax 1 (Int.tdiv ((gmin a1 1073741824) * (gmin a1 1073741824)) (gmin a0 1073741824)))
        )
    )
noncomputable def k65 : Eng.CS := { f := 65, calm := true, more := 0, ι := Int × Int × Int × (Int × Int), ok := fun i => g65 i.1 i.2.1 i.2.2.1 = some i.2.2.2, rds := fun _ => [], args := fun i => [.w (.v (.int .i64 (i.1))), .w (.v (.int .i64 (i.2.1))), .w (.v (.int .i64 (i.2.2.1)))], res := fun i => .tup [.v (.int .i64 (i.2.2.2.1)), .v (.int .i64 (i.2.2.2.2))] }
set_option maxRecDepth 8000 in
set_option maxHeartbeats 4000000 in
theorem k65_ok : CalmOk Try.prog k65 := by
  refine R.calmspec Try.func65 nm65 rfl ?_
  rintro ⟨a0, a1, a2, r⟩ hok q _ args hargs
  match args, hargs with
  | [_, _, _], hargs =>
  obtain ⟨rfl, rfl, rfl, _⟩ := hargs
  refine ⟨envC [k67] false [], 6, envC_ok (css_cons ⟨fun _ => k67_ok, fun h => (by cases h)⟩ (css_nil)), rfl, (by intro x hx; simp only [List.mem_cons, List.not_mem_nil, or_false] at hx; rcases hx with rfl | rfl | rfl <;> rfl), ?_⟩
  have H : Gives (g65 a0 a1 a2) (fun a => a = r) := ⟨r, hok, rfl⟩
  unfold g65 at H
  clear hok
  refine if_st H (fun h3 H => ?_) (fun h3 H => ?_)
  · have hfin := fin_st H
    repeat (refine And.intro (Ob.mk (by first | (rw [← hfin] <;> first | exact rfl | exact Iff.rfl | exact ⟨rfl, rfl⟩ | exact decide_eq_true_iff | (constructor <;> first | rfl | simp [ei, eb, es, ec]) | simp [ei, eb, es, ec]) | first | exact rfl | exact Iff.rfl | exact ⟨rfl, rfl⟩ | exact decide_eq_true_iff | (constructor <;> first | rfl | simp [ei, eb, es, ec]) | simp [ei, eb, es, ec])) ?_)
    first | exact trivial | exact rfl
  · refine if_st H (fun h4 H => ?_) (fun h4 H => ?_)
    · have hfin := fin_st H
      repeat (refine And.intro (Ob.mk (by first | (rw [← hfin] <;> first | exact rfl | exact Iff.rfl | exact ⟨rfl, rfl⟩ | exact decide_eq_true_iff | (constructor <;> first | rfl | simp [ei, eb, es, ec]) | simp [ei, eb, es, ec]) | first | exact rfl | exact Iff.rfl | exact ⟨rfl, rfl⟩ | exact decide_eq_true_iff | (constructor <;> first | rfl | simp [ei, eb, es, ec]) | simp [ei, eb, es, ec])) ?_)
      first | exact trivial | exact rfl
    · refine ob_ck H fun h5 H => ?_
      refine ob_ck H fun h6 H => ?_
      refine ob_ck H fun h7 H => ?_
      refine ob_ck H fun h8 H => ?_
      obtain ⟨v9, hv10, H⟩ := call_st H
      refine ⟨(a2, 0, (gmin a0 1073741824) - (gmin a1 1073741824), v9), ⟨hv10⟩, ⟨trivial⟩, ?_⟩
      refine And.intro ⟨rfl⟩ ?_
      refine And.intro ⟨rfl⟩ ?_
      refine And.intro ⟨rfl⟩ ?_
      refine ob_ck H fun h11 H => ?_
      refine ob_ck H fun h12 H => ?_
      refine ob_ck H fun h13 H => ?_
      refine ob_ck H fun h14 H => ?_
      have hfin := fin_st H
      repeat (refine And.intro (Ob.mk (by first | (rw [← hfin] <;> first | exact rfl | exact Iff.rfl | exact ⟨rfl, rfl⟩ | exact decide_eq_true_iff | (constructor <;> first | rfl | simp [ei, eb, es, ec]) | simp [ei, eb, es, ec]) | first | exact rfl | exact Iff.rfl | exact ⟨rfl, rfl⟩ | exact decide_eq_true_iff | (constructor <;> first | rfl | simp [ei, eb, es, ec]) | simp [ei, eb, es, ec])) ?_)
      first | exact trivial | exact rfl
noncomputable def e65 (n : Nat) (a0 : Int) (a1 : Int) (a2 : Int) : Option (Int × Int) :=
  if (gmin a1 1073741824) < 1 then
    some (0, 0)
  else
    (
      if (gmin a0 1073741824) ≤ (gmin a1 1073741824) then
        some (0, gmin a1 1073741824)
      else
        (
          ck (inR .i64 ((gmin a1 1073741824) * (gmin a1 1073741824))) <|
          ck ((gmin a0 1073741824) ≠ 0) <|
          ck (inR .i64 (Int.tdiv ((gmin a1 1073741824) * (gmin a1 1073741824)) (gmin a0 1073741824))) <|
          ck (inR .i64 ((gmin a0 1073741824) - (gmin a1 1073741824))) <|
          (e67 n a2 0 ((gmin a0 1073741824) - (gmin a1 1073741824))).bind fun v9 =>
          ck (inR .i64 ((gmin a1 1073741824) - (gmax 1 (Int.tdiv ((gmin a1 1073741824) * (gmin a1 1073741824)) (gmin a0 1073741824))))) <|
          ck (inR .i64 (v9 * ((gmin a1 1073741824) - (gmax 1 (Int.tdiv ((gmin a1 1073741824) * (gmin a1 1073741824)) (gmin a0 1073741824)))))) <|
          ck (((gmin a0 1073741824) - (gmin a1 1073741824)) ≠ 0) <|
          ck (inR .i64 (Int.tdiv (v9 * ((gmin a1 1073741824) - (gmax 1 (Int.tdiv ((gmin a1 1073741824) * (gmin a1 1073741824)) (gmin a0 1073741824))))) ((gmin a0 1073741824) - (gmin a1 1073741824)))) <|
          some (Int.tdiv (v9 * ((gmin a1 1073741824) - (gmax 1 (Int.tdiv ((gmin a1 1073741824) * (gmin a1 1073741824)) (gmin a0 1073741824))))) ((gmin a0 1073741824) - (gmin a1 1073741824)), gmax 1 (Int.tdiv ((gmin a1 1073741824) * (gmin a1 1073741824)) (gmin a0 1073741824)))
        )
    )
theorem e65_le (n : Nat) (a0 : Int) (a1 : Int) (a2 : Int) : Le (e65 n a0 a1 a2) (g65 a0 a1 a2) := by
  unfold e65 g65
  repeat' first | exact e67_le _ _ _ _ | refine le_bind ?_ (fun _ => ?_) | refine le_ck ?_ | refine le_if ?_ ?_ | refine le_sm (fun _ => ?_) (fun _ => ?_) | refine le_jn (fun _ _ _ => ?_) (fun _ => ?_) | refine le_loop (fun _ => ?_) | with_reducible exact le_refl | apply_assumption

/-- placard/window.Page -/
noncomputable def g66 (a0 : Int) (a1 : Int) (a2 : Int) (a3 : Int) : Option (Int) :=
  if (gmin a0 1073741824) < 1 then
    some 0
  else
    (
      ck (inR .i64 ((gmin a1 1073741824) - 1)) <|
      ck (inR .i64 ((gmin a0 1073741824) - 1)) <|
      (g67 a2 0 ((gmin a0 1073741824) - 1)).bind fun v19 =>
      (g67 a3 (-1073741824) 1073741824).bind fun v21 =>
      ck (inR .i64 (v21 * (gmax 1 ((gmin a1 1073741824) - 1)))) <|
      ck (inR .i64 (v19 + (v21 * (gmax 1 ((gmin a1 1073741824) - 1))))) <|
      ck (inR .i64 ((gmin a0 1073741824) - 1)) <|
      (g67 (v19 + (v21 * (gmax 1 ((gmin a1 1073741824) - 1)))) 0 ((gmin a0 1073741824) - 1)).bind fun v26 =>
      some v26
    )
noncomputable def k66 : Eng.CS := { f := 66, calm := true, more := 0, ι := Int × Int × Int × Int × Int, ok := fun i => g66 i.1 i.2.1 i.2.2.1 i.2.2.2.1 = some i.2.2.2.2, rds := fun _ => [], args := fun i => [.w (.v (.int .i64 (i.1))), .w (.v (.int .i64 (i.2.1))), .w (.v (.int .i64 (i.2.2.1))), .w (.v (.int .i64 (i.2.2.2.1)))], res := fun i => .v (.int .i64 (i.2.2.2.2)) }
set_option maxRecDepth 8000 in
set_option maxHeartbeats 4000000 in
theorem k66_ok : CalmOk Try.prog k66 := by
  refine R.calmspec Try.func66 nm66 rfl ?_
  rintro ⟨a0, a1, a2, a3, r⟩ hok q _ args hargs
  match args, hargs with
  | [_, _, _, _], hargs =>
  obtain ⟨rfl, rfl, rfl, rfl, _⟩ := hargs
  refine ⟨envC [k67] false [], 6, envC_ok (css_cons ⟨fun _ => k67_ok, fun h => (by cases h)⟩ (css_nil)), rfl, (by intro x hx; simp only [List.mem_cons, List.not_mem_nil, or_false] at hx; rcases hx with rfl | rfl | rfl | rfl <;> rfl), ?_⟩
  have H : Gives (g66 a0 a1 a2 a3) (fun a => a = r) := ⟨r, hok, rfl⟩
  unfold g66 at H
  clear hok
  refine if_st H (fun h16 H => ?_) (fun h16 H => ?_)
  · have hfin := fin_st H
    repeat (refine And.intro (Ob.mk (by first | (rw [← hfin] <;> first | exact rfl | exact Iff.rfl | exact ⟨rfl, rfl⟩ | exact decide_eq_true_iff | (constructor <;> first | rfl | simp [ei, eb, es, ec]) | simp [ei, eb, es, ec]) | first | exact rfl | exact Iff.rfl | exact ⟨rfl, rfl⟩ | exact decide_eq_true_iff | (constructor <;> first | rfl | simp [ei, eb, es, ec]) | simp [ei, eb, es, ec])) ?_)
    first | exact trivial | exact rfl
  · refine ob_ck H fun h17 H => ?_
    refine ob_ck H fun h18 H => ?_
    obtain ⟨v19, hv20, H⟩ := call_st H
    refine ⟨(a2, 0, (gmin a0 1073741824) - 1, v19), ⟨hv20⟩, ⟨trivial⟩, ?_⟩
    refine And.intro ⟨rfl⟩ ?_
    refine And.intro ⟨rfl⟩ ?_
    refine And.intro ⟨rfl⟩ ?_
    obtain ⟨v21, hv22, H⟩ := call_st H
    refine ⟨(a3, (-1073741824), 1073741824, v21), ⟨hv22⟩, ⟨trivial⟩, ?_⟩
    refine And.intro ⟨rfl⟩ ?_
    refine And.intro ⟨rfl⟩ ?_
    refine And.intro ⟨rfl⟩ ?_
    refine ob_ck H fun h23 H => ?_
    refine ob_ck H fun h24 H => ?_
    refine ob_ck H fun h25 H => ?_
    obtain ⟨v26, hv27, H⟩ := call_st H
    refine ⟨(v19 + (v21 * (gmax 1 ((gmin a1 1073741824) - 1))), 0, (gmin a0 1073741824) - 1, v26), ⟨hv27⟩, ⟨trivial⟩, ?_⟩
    refine And.intro ⟨rfl⟩ ?_
    refine And.intro ⟨rfl⟩ ?_
    refine And.intro ⟨rfl⟩ ?_
    have hfin := fin_st H
    repeat (refine And.intro (Ob.mk (by first | (rw [← hfin] <;> first | exact rfl | exact Iff.rfl | exact ⟨rfl, rfl⟩ | exact decide_eq_true_iff | (constructor <;> first | rfl | simp [ei, eb, es, ec]) | simp [ei, eb, es, ec]) | first | exact rfl | exact Iff.rfl | exact ⟨rfl, rfl⟩ | exact decide_eq_true_iff | (constructor <;> first | rfl | simp [ei, eb, es, ec]) | simp [ei, eb, es, ec])) ?_)
    first | exact trivial | exact rfl
noncomputable def e66 (n : Nat) (a0 : Int) (a1 : Int) (a2 : Int) (a3 : Int) : Option (Int) :=
  if (gmin a0 1073741824) < 1 then
    some 0
  else
    (
      ck (inR .i64 ((gmin a1 1073741824) - 1)) <|
      ck (inR .i64 ((gmin a0 1073741824) - 1)) <|
      (e67 n a2 0 ((gmin a0 1073741824) - 1)).bind fun v19 =>
      (e67 n a3 (-1073741824) 1073741824).bind fun v21 =>
      ck (inR .i64 (v21 * (gmax 1 ((gmin a1 1073741824) - 1)))) <|
      ck (inR .i64 (v19 + (v21 * (gmax 1 ((gmin a1 1073741824) - 1))))) <|
      ck (inR .i64 ((gmin a0 1073741824) - 1)) <|
      (e67 n (v19 + (v21 * (gmax 1 ((gmin a1 1073741824) - 1)))) 0 ((gmin a0 1073741824) - 1)).bind fun v26 =>
      some v26
    )
theorem e66_le (n : Nat) (a0 : Int) (a1 : Int) (a2 : Int) (a3 : Int) : Le (e66 n a0 a1 a2 a3) (g66 a0 a1 a2 a3) := by
  unfold e66 g66
  repeat' first | exact e67_le _ _ _ _ | refine le_bind ?_ (fun _ => ?_) | refine le_ck ?_ | refine le_if ?_ ?_ | refine le_sm (fun _ => ?_) (fun _ => ?_) | refine le_jn (fun _ _ _ => ?_) (fun _ => ?_) | refine le_loop (fun _ => ?_) | with_reducible exact le_refl | apply_assumption

/-- placard/placardlaw15.awake -/
noncomputable def g24  : Option (Bool) :=
  (g26 5 3 ([1, 1, 1, 1, 1])).bind fun v28 =>
  (g21 10 4 9).bind fun v30 =>
  (g65 100 10 90).bind fun v32 =>
  if v28.1 = 3 then
    (
      if v28.2 = 5 then
        (
          if v30.1 = 6 then
            (
              if v30.2 = 10 then
                (
                  if v32.1 = 9 then
                    (
                      if v32.2 = 1 then
                        (
                          (g66 10 4 5 1).bind fun v40 =>
                          some (decide (v40 = 8))
                        )
                      else
                        some false
                    )
                  else
                    some false
                )
              else
                some false
            )
          else
            some false
        )
      else
        some false
    )
  else
    some false
noncomputable def k24 : Eng.CS := { f := 24, calm := true, more := 0, ι := Bool, ok := fun i => g24  = some i, rds := fun _ => [], args := fun i => [], res := fun i => bS i }
set_option maxRecDepth 8000 in
set_option maxHeartbeats 4000000 in
theorem k24_ok : CalmOk Try.prog k24 := by
  refine R.calmspec Try.func24 nm24 rfl ?_
  rintro r hok q _ args hargs
  match args, hargs with
  | [], hargs =>
  refine ⟨envC [k21, k26, k65, k66] false [], 6, envC_ok (css_cons ⟨fun _ => k21_ok, fun h => (by cases h)⟩ (css_cons ⟨fun _ => k26_ok, fun h => (by cases h)⟩ (css_cons ⟨fun _ => k65_ok, fun h => (by cases h)⟩ (css_cons ⟨fun _ => k66_ok, fun h => (by cases h)⟩ (css_nil))))), rfl, (by intro x hx; cases hx), ?_⟩
  have H : Gives (g24 ) (fun a => a = r) := ⟨r, hok, rfl⟩
  unfold g24 at H
  clear hok
  obtain ⟨v28, hv29, H⟩ := call_st H
  refine ⟨(5, 3, [1, 1, 1, 1, 1], v28), ⟨hv29⟩, ⟨trivial⟩, ?_⟩
  refine And.intro ⟨rfl⟩ ?_
  refine And.intro ⟨rfl⟩ ?_
  refine And.intro ⟨by first | rfl | simp, by first | rfl | simp [ei, eb, es, ec]⟩ ?_
  obtain ⟨v30, hv31, H⟩ := call_st H
  refine ⟨(10, 4, 9, v30), ⟨hv31⟩, ⟨trivial⟩, ?_⟩
  refine And.intro ⟨rfl⟩ ?_
  refine And.intro ⟨rfl⟩ ?_
  refine And.intro ⟨rfl⟩ ?_
  obtain ⟨v32, hv33, H⟩ := call_st H
  refine ⟨(100, 10, 90, v32), ⟨hv33⟩, ⟨trivial⟩, ?_⟩
  refine And.intro ⟨rfl⟩ ?_
  refine And.intro ⟨rfl⟩ ?_
  refine And.intro ⟨rfl⟩ ?_
  refine if_st H (fun h34 H => ?_) (fun h34 H => ?_)
  · refine if_st H (fun h35 H => ?_) (fun h35 H => ?_)
    · refine if_st H (fun h36 H => ?_) (fun h36 H => ?_)
      · refine if_st H (fun h37 H => ?_) (fun h37 H => ?_)
        · refine if_st H (fun h38 H => ?_) (fun h38 H => ?_)
          · refine if_st H (fun h39 H => ?_) (fun h39 H => ?_)
            · obtain ⟨v40, hv41, H⟩ := call_st H
              refine ⟨(10, 4, 5, 1, v40), ⟨hv41⟩, ⟨trivial⟩, ?_⟩
              refine And.intro ⟨rfl⟩ ?_
              refine And.intro ⟨rfl⟩ ?_
              refine And.intro ⟨rfl⟩ ?_
              refine And.intro ⟨rfl⟩ ?_
              have hfin := fin_st H
              repeat (refine And.intro (Ob.mk (by first | (rw [← hfin] <;> first | exact rfl | exact Iff.rfl | exact ⟨rfl, rfl⟩ | exact decide_eq_true_iff | (constructor <;> first | rfl | simp [ei, eb, es, ec]) | simp [ei, eb, es, ec]) | first | exact rfl | exact Iff.rfl | exact ⟨rfl, rfl⟩ | exact decide_eq_true_iff | (constructor <;> first | rfl | simp [ei, eb, es, ec]) | simp [ei, eb, es, ec])) ?_)
              first | exact trivial | exact rfl
            · have hfin := fin_st H
              repeat (refine And.intro (Ob.mk (by first | (rw [← hfin] <;> first | exact rfl | exact Iff.rfl | exact ⟨rfl, rfl⟩ | exact decide_eq_true_iff | (constructor <;> first | rfl | simp [ei, eb, es, ec]) | simp [ei, eb, es, ec]) | first | exact rfl | exact Iff.rfl | exact ⟨rfl, rfl⟩ | exact decide_eq_true_iff | (constructor <;> first | rfl | simp [ei, eb, es, ec]) | simp [ei, eb, es, ec])) ?_)
              first | exact trivial | exact rfl
          · have hfin := fin_st H
            repeat (refine And.intro (Ob.mk (by first | (rw [← hfin] <;> first | exact rfl | exact Iff.rfl | exact ⟨rfl, rfl⟩ | exact decide_eq_true_iff | (constructor <;> first | rfl | simp [ei, eb, es, ec]) | simp [ei, eb, es, ec]) | first | exact rfl | exact Iff.rfl | exact ⟨rfl, rfl⟩ | exact decide_eq_true_iff | (constructor <;> first | rfl | simp [ei, eb, es, ec]) | simp [ei, eb, es, ec])) ?_)
            first | exact trivial | exact rfl
        · have hfin := fin_st H
          repeat (refine And.intro (Ob.mk (by first | (rw [← hfin] <;> first | exact rfl | exact Iff.rfl | exact ⟨rfl, rfl⟩ | exact decide_eq_true_iff | (constructor <;> first | rfl | simp [ei, eb, es, ec]) | simp [ei, eb, es, ec]) | first | exact rfl | exact Iff.rfl | exact ⟨rfl, rfl⟩ | exact decide_eq_true_iff | (constructor <;> first | rfl | simp [ei, eb, es, ec]) | simp [ei, eb, es, ec])) ?_)
          first | exact trivial | exact rfl
      · have hfin := fin_st H
        repeat (refine And.intro (Ob.mk (by first | (rw [← hfin] <;> first | exact rfl | exact Iff.rfl | exact ⟨rfl, rfl⟩ | exact decide_eq_true_iff | (constructor <;> first | rfl | simp [ei, eb, es, ec]) | simp [ei, eb, es, ec]) | first | exact rfl | exact Iff.rfl | exact ⟨rfl, rfl⟩ | exact decide_eq_true_iff | (constructor <;> first | rfl | simp [ei, eb, es, ec]) | simp [ei, eb, es, ec])) ?_)
        first | exact trivial | exact rfl
    · have hfin := fin_st H
      repeat (refine And.intro (Ob.mk (by first | (rw [← hfin] <;> first | exact rfl | exact Iff.rfl | exact ⟨rfl, rfl⟩ | exact decide_eq_true_iff | (constructor <;> first | rfl | simp [ei, eb, es, ec]) | simp [ei, eb, es, ec]) | first | exact rfl | exact Iff.rfl | exact ⟨rfl, rfl⟩ | exact decide_eq_true_iff | (constructor <;> first | rfl | simp [ei, eb, es, ec]) | simp [ei, eb, es, ec])) ?_)
      first | exact trivial | exact rfl
  · have hfin := fin_st H
    repeat (refine And.intro (Ob.mk (by first | (rw [← hfin] <;> first | exact rfl | exact Iff.rfl | exact ⟨rfl, rfl⟩ | exact decide_eq_true_iff | (constructor <;> first | rfl | simp [ei, eb, es, ec]) | simp [ei, eb, es, ec]) | first | exact rfl | exact Iff.rfl | exact ⟨rfl, rfl⟩ | exact decide_eq_true_iff | (constructor <;> first | rfl | simp [ei, eb, es, ec]) | simp [ei, eb, es, ec])) ?_)
    first | exact trivial | exact rfl
noncomputable def e24 (n : Nat)  : Option (Bool) :=
  (e26 n 5 3 ([1, 1, 1, 1, 1])).bind fun v28 =>
  (e21 n 10 4 9).bind fun v30 =>
  (e65 n 100 10 90).bind fun v32 =>
  if v28.1 = 3 then
    (
      if v28.2 = 5 then
        (
          if v30.1 = 6 then
            (
              if v30.2 = 10 then
                (
                  if v32.1 = 9 then
                    (
                      if v32.2 = 1 then
                        (
                          (e66 n 10 4 5 1).bind fun v40 =>
                          some (decide (v40 = 8))
                        )
                      else
                        some false
                    )
                  else
                    some false
                )
              else
                some false
            )
          else
            some false
        )
      else
        some false
    )
  else
    some false
theorem e24_le (n : Nat)  : Le (e24 n ) (g24 ) := by
  unfold e24 g24
  repeat' first | exact e21_le _ _ _ _ | exact e26_le _ _ _ _ | exact e65_le _ _ _ _ | exact e66_le _ _ _ _ _ | refine le_bind ?_ (fun _ => ?_) | refine le_ck ?_ | refine le_if ?_ ?_ | refine le_sm (fun _ => ?_) (fun _ => ?_) | refine le_jn (fun _ _ _ => ?_) (fun _ => ?_) | refine le_loop (fun _ => ?_) | with_reducible exact le_refl | apply_assumption

/-- placard/placardlaw15.told -/
noncomputable def g23 (a0 : Int) (a1 : Int) (a2 : Int) (a3 : Int) : Option (List Int × Bool) :=
  jn (α := _) (β := List Int) (fun k78 =>
      (g21 a0 a1 a2).bind fun v79 =>
      (loopO (σ := List Int × Int) (ρ := (List Int) ⊕ ((List Int) ⊕ (List Int))) (fun s81 =>
          if s81.2 < v79.2 then
            (
              ck (inR .i64 (s81.2 - v79.1)) <|
              if a3 ≤ ((s81.1.length : Nat) : Int) then
                some (.out (.inl (s81.1)))
              else
                (
                  if ¬ (s81.2 - v79.1) = ((s81.1.length : Nat) : Int) then
                    some (.out (.inr (.inl (s81.1))))
                  else
                    (
                      ck ((s81.1.length + 1) * 8 ≤ 140737488355328) <|
                      ck (inR .i64 (s81.2 + 1)) <|
                      some (.go ((s81.1 ++ [s81.2]), s81.2 + 1))
                    )
                )
            )
          else
            some (.out (.inr (.inr (s81.1))))
        ) ([], v79.1)).bind fun o95 =>
      sm o95 (fun o102 =>
          k78 o102
        ) (fun o105 =>
          sm o105 (fun o103 =>
              some (([] : List Int), false)
            ) (fun o104 =>
              k78 o104
            )
        )
  ) (fun v77 =>
    some (v77, true)
  )
noncomputable def k23 : Eng.CS := { f := 23, calm := false, more := 1, ι := Int × Int × Int × Int × (List Int × Bool), ok := fun i => g23 i.1 i.2.1 i.2.2.1 i.2.2.2.1 = some i.2.2.2.2, rds := fun _ => [], args := fun i => [.w (.v (.int .i64 (i.1))), .w (.v (.int .i64 (i.2.1))), .w (.v (.int .i64 (i.2.2.1))), .w (.v (.int .i64 (i.2.2.2.1)))], res := fun i => .tup [.own 0, bS i.2.2.2.2.2], L' := fun i => [(0, .arr 3 1 i.2.2.2.2.1.length (ei .i64 i.2.2.2.2.1))], rn := [(0, 0, 3, 1)] }
set_option maxRecDepth 8000 in
set_option maxHeartbeats 4000000 in
theorem k23_ok : CSOk Try.prog k23 := by
  refine R.cspec Try.func23 nm23 rfl ?_
  rintro ⟨a0, a1, a2, a3, r⟩ hok q _ args hargs
  match args, hargs with
  | [_, _, _, _], hargs =>
  obtain ⟨rfl, rfl, rfl, rfl, _⟩ := hargs
  refine ⟨envC [k21] false [(23, 12)], 6, envC_ok (css_cons ⟨fun _ => k21_ok, fun h => (by cases h)⟩ (css_nil)), ?_⟩
  have H : Gives (g23 a0 a1 a2 a3) (fun a => a = r) := ⟨r, hok, rfl⟩
  unfold g23 at H
  clear hok
  refine R.cut_fam H 52 [8, 9, 10] [] (fun v77 => []) (fun v77 => [(3, .cells 32 [.own 52]), (52, .arr 3 1 (v77.length) (ei .i64 (v77)))]) [(0, .cells 3 [.v (.int .i64 (a3))]), (1, .cells 32 [.v (.slice none 0 0)]), (2, .cells 4 [.bb false]), (9, .cells 3 [.v (.int .i64 (a0))]), (10, .cells 3 [.v (.int .i64 (a1))]), (11, .cells 3 [.v (.int .i64 (a2))]), (19, .dfr)] 1 (fun H => ?_)
  refine And.intro ?_ ?_
  · obtain ⟨v79, hv80, H⟩ := call_st H
    refine ⟨(a0, a1, a2, v79), ⟨hv80⟩, ⟨trivial⟩, ?_⟩
    refine And.intro ⟨rfl⟩ ?_
    refine And.intro ⟨rfl⟩ ?_
    refine And.intro ⟨rfl⟩ ?_
    refine R.loop_fam (bind_st H) [0, 5, 6] [(100003, 0, 3, 1)] (fun _ s81 => [(7, .v (.int .i64 (s81.2)))]) (fun _ s81 => [(3, .cells 32 [.own 32]), (32, .arr 3 1 (s81.1.length) (ei .i64 (s81.1)))]) 1 (fun n106 H => ?_)
    refine ⟨(n106, _), ⟨H⟩, trivial, ?_⟩
    repeat (refine And.intro (Ob.mk (by first | exact rfl | exact Iff.rfl | exact ⟨rfl, rfl⟩ | exact decide_eq_true_iff | (constructor <;> first | rfl | simp [ei, eb, es, ec]) | simp [ei, eb, es, ec])) ?_)
    rintro ⟨m0, s81⟩ H _
    obtain ⟨m82, hm0, H⟩ := IG_succ H
    dsimp only at hm0
    subst hm0
    try dsimp only at H
    refine if_st H (fun h96 H => ?_) (fun h96 H => ?_)
    · refine ob_ck H fun h97 H => ?_
      refine if_st H (fun h98 H => ?_) (fun h98 H => ?_)
      · replace H := some_st H
        dsimp only [stp, sm] at H
        refine ⟨s81.1, ⟨H⟩, ⟨rfl⟩, ?_⟩
        repeat (refine And.intro (Ob.mk (by first | exact rfl | exact Iff.rfl | exact ⟨rfl, rfl⟩ | exact decide_eq_true_iff | (constructor <;> first | rfl | simp [ei, eb, es, ec]) | simp [ei, eb, es, ec])) ?_)
        first | exact trivial | exact rfl
      · refine if_st H (fun h99 H => ?_) (fun h99 H => ?_)
        · replace H := some_st H
          dsimp only [stp, sm] at H
          have hfin := fin_st H
          repeat (refine And.intro (Ob.mk (by first | (rw [← hfin] <;> first | exact rfl | exact Iff.rfl | exact ⟨rfl, rfl⟩ | exact decide_eq_true_iff | (constructor <;> first | rfl | simp [ei, eb, es, ec]) | simp [ei, eb, es, ec]) | first | exact rfl | exact Iff.rfl | exact ⟨rfl, rfl⟩ | exact decide_eq_true_iff | (constructor <;> first | rfl | simp [ei, eb, es, ec]) | simp [ei, eb, es, ec])) ?_)
          first | exact trivial | exact rfl
        · refine ob_app (by decide) (by first | exact ei_one | (intro y hy; simp [ei, eb, es, ec] at hy; (first | (rcases hy with rfl | hy) | subst hy | skip); all_goals first | rfl | simp_all [Value.oneCell'])) H fun h100 H => ?_
          refine ob_ck H fun h101 H => ?_
          replace H := some_st H
          refine ⟨(m82, ((s81.1 ++ [s81.2]), s81.2 + 1)), ⟨H, Nat.lt_succ_self _⟩, trivial, ⟨rfl⟩, ?_⟩
          repeat (refine And.intro (Ob.mk (by first | exact rfl | exact Iff.rfl | exact ⟨rfl, rfl⟩ | exact decide_eq_true_iff | (constructor <;> first | rfl | simp [ei, eb, es, ec]) | simp [ei, eb, es, ec])) ?_)
          first | exact trivial | exact rfl
    · replace H := some_st H
      dsimp only [stp, sm] at H
      refine ⟨s81.1, ⟨H⟩, ⟨rfl⟩, ?_⟩
      repeat (refine And.intro (Ob.mk (by first | exact rfl | exact Iff.rfl | exact ⟨rfl, rfl⟩ | exact decide_eq_true_iff | (constructor <;> first | rfl | simp [ei, eb, es, ec]) | simp [ei, eb, es, ec])) ?_)
      first | exact trivial | exact rfl
  · intro v77 H
    have hfin := fin_st H
    repeat (refine And.intro (Ob.mk (by first | (rw [← hfin] <;> first | exact rfl | exact Iff.rfl | exact ⟨rfl, rfl⟩ | exact decide_eq_true_iff | (constructor <;> first | rfl | simp [ei, eb, es, ec]) | simp [ei, eb, es, ec]) | first | exact rfl | exact Iff.rfl | exact ⟨rfl, rfl⟩ | exact decide_eq_true_iff | (constructor <;> first | rfl | simp [ei, eb, es, ec]) | simp [ei, eb, es, ec])) ?_)
    first | exact trivial | exact rfl

/-- placard/placardlaw15.WindowLists -/
noncomputable def g4 (a0 : Int) (a1 : Int) (a2 : Int) (a3 : Int) : Option (Bool) :=
  (g21 a0 a1 a2).bind fun v107 =>
  (g22 a0 a1 a2).bind fun v109 =>
  if ¬ v107.1 = v109.1 then
    some false
  else
    (
      if ¬ v107.2 = v109.2 then
        some false
      else
        (
          jn (α := _) (β := Bool) (fun k204 =>
              if 0 < a0 then
                (
                  if 0 < a1 then
                    (
                      if 0 ≤ a2 then
                        (
                          if a2 < a0 then
                            (
                              if a2 < v107.1 then
                                k204 true
                              else
                                (
                                  if v107.2 ≤ a2 then
                                    k204 true
                                  else
                                    (
                                      if a1 ≤ a0 then
                                        (
                                          if 0 ≤ a1 then
                                            (
                                              ck (inR .i64 (v107.2 - v107.1)) <|
                                              k204 (decide (¬ (v107.2 - v107.1) = a1))
                                            )
                                          else
                                            k204 false
                                        )
                                      else
                                        k204 false
                                    )
                                )
                            )
                          else
                            (
                              if a1 ≤ a0 then
                                (
                                  if 0 ≤ a1 then
                                    (
                                      ck (inR .i64 (v107.2 - v107.1)) <|
                                      k204 (decide (¬ (v107.2 - v107.1) = a1))
                                    )
                                  else
                                    k204 false
                                )
                              else
                                k204 false
                            )
                        )
                      else
                        (
                          if a1 ≤ a0 then
                            (
                              if 0 ≤ a1 then
                                (
                                  ck (inR .i64 (v107.2 - v107.1)) <|
                                  k204 (decide (¬ (v107.2 - v107.1) = a1))
                                )
                              else
                                k204 false
                            )
                          else
                            k204 false
                        )
                    )
                  else
                    (
                      if a1 ≤ a0 then
                        (
                          if 0 ≤ a1 then
                            (
                              ck (inR .i64 (v107.2 - v107.1)) <|
                              k204 (decide (¬ (v107.2 - v107.1) = a1))
                            )
                          else
                            k204 false
                        )
                      else
                        k204 false
                    )
                )
              else
                (
                  if a1 ≤ a0 then
                    (
                      if 0 ≤ a1 then
                        (
                          ck (inR .i64 (v107.2 - v107.1)) <|
                          k204 (decide (¬ (v107.2 - v107.1) = a1))
                        )
                      else
                        k204 false
                    )
                  else
                    k204 false
                )
          ) (fun v203 =>
            if v203 = true then
              some false
            else
              (
                ck (inR .i64 a3) <|
                ck (inR .i64 (v107.2 - v107.1)) <|
                (g23 a0 a1 a2 (gmin a3 (v107.2 - v107.1))).bind fun v229 =>
                if ¬ (v229.2 = true) then
                  some false
                else
                  (
                    if ¬ ((v229.1.length : Nat) : Int) = (gmin a3 (v107.2 - v107.1)) then
                      some false
                    else
                      (
                        jn (α := _) (β := Unit) (fun k262 =>
                            (loopO (σ := Int) (ρ := (Unit) ⊕ (Unit)) (fun s263 =>
                                if s263 < (gmin a3 (v107.2 - v107.1)) then
                                  (
                                    ck (0 ≤ s263 ∧ s263 < ((v229.1.length : Nat) : Int)) <|
                                    ck (inR .i64 (v107.1 + s263)) <|
                                    if ¬ (v229.1.getD s263.toNat 0) = (v107.1 + s263) then
                                      some (.out (.inl (())))
                                    else
                                      (
                                        ck (inR .i64 (s263 + 1)) <|
                                        some (.go (s263 + 1))
                                      )
                                  )
                                else
                                  some (.out (.inr (())))
                              ) 0).bind fun o275 =>
                            sm o275 (fun o281 =>
                                some false
                              ) (fun o282 =>
                                k262 ()
                              )
                        ) (fun v261 =>
                          ck (inR .i64 (v107.2 - v107.1)) <|
                          if (v107.2 - v107.1) < 100 then
                            (
                              (g23 a0 a1 a2 200).bind fun v295 =>
                              if ¬ (v295.2 = true) then
                                some false
                              else
                                (
                                  ck (inR .i64 (v107.2 - v107.1)) <|
                                  if ¬ ((v295.1.length : Nat) : Int) = (v107.2 - v107.1) then
                                    some false
                                  else
                                    (
                                      (g24).bind fun v300 =>
                                      some v300
                                    )
                                )
                            )
                          else
                            (
                              (g24).bind fun v302 =>
                              some v302
                            )
                        )
                      )
                  )
              )
          )
        )
    )
noncomputable def k4 : Eng.CS := { f := 4, calm := true, more := 0, ι := Int × Int × Int × Int × Bool, ok := fun i => g4 i.1 i.2.1 i.2.2.1 i.2.2.2.1 = some i.2.2.2.2, rds := fun _ => [], args := fun i => [.w (.v (.int .i64 (i.1))), .w (.v (.int .i64 (i.2.1))), .w (.v (.int .i64 (i.2.2.1))), .w (.v (.int .u8 (i.2.2.2.1)))], res := fun i => bS i.2.2.2.2 }
set_option maxRecDepth 8000 in
set_option maxHeartbeats 4000000 in
theorem k4_ok : CalmOk Try.prog k4 := by
  refine R.calmspec Try.func4 nm4 rfl ?_
  rintro ⟨a0, a1, a2, a3, r⟩ hok q _ args hargs
  match args, hargs with
  | [_, _, _, _], hargs =>
  obtain ⟨rfl, rfl, rfl, rfl, _⟩ := hargs
  refine ⟨envC [k21, k22, k23, k24] false [(4, 6), (4, 16)], 6, envC_ok (css_cons ⟨fun _ => k21_ok, fun h => (by cases h)⟩ (css_cons ⟨fun _ => k22_ok, fun h => (by cases h)⟩ (css_cons ⟨fun h => (by cases h), fun _ => k23_ok⟩ (css_cons ⟨fun _ => k24_ok, fun h => (by cases h)⟩ (css_nil))))), rfl, (by intro x hx; simp only [List.mem_cons, List.not_mem_nil, or_false] at hx; rcases hx with rfl | rfl | rfl | rfl <;> rfl), ?_⟩
  have H : Gives (g4 a0 a1 a2 a3) (fun a => a = r) := ⟨r, hok, rfl⟩
  unfold g4 at H
  clear hok
  obtain ⟨v107, hv108, H⟩ := call_st H
  refine ⟨(a0, a1, a2, v107), ⟨hv108⟩, ⟨trivial⟩, ?_⟩
  refine And.intro ⟨rfl⟩ ?_
  refine And.intro ⟨rfl⟩ ?_
  refine And.intro ⟨rfl⟩ ?_
  obtain ⟨v109, hv110, H⟩ := call_st H
  refine ⟨(a0, a1, a2, v109), ⟨hv110⟩, ⟨trivial⟩, ?_⟩
  refine And.intro ⟨rfl⟩ ?_
  refine And.intro ⟨rfl⟩ ?_
  refine And.intro ⟨rfl⟩ ?_
  refine if_st H (fun h114 H => ?_) (fun h114 H => ?_)
  · have hfin := fin_st H
    repeat (refine And.intro (Ob.mk (by first | (rw [← hfin] <;> first | exact rfl | exact Iff.rfl | exact ⟨rfl, rfl⟩ | exact decide_eq_true_iff | (constructor <;> first | rfl | simp [ei, eb, es, ec]) | simp [ei, eb, es, ec]) | first | exact rfl | exact Iff.rfl | exact ⟨rfl, rfl⟩ | exact decide_eq_true_iff | (constructor <;> first | rfl | simp [ei, eb, es, ec]) | simp [ei, eb, es, ec])) ?_)
    first | exact trivial | exact rfl
  · refine if_st H (fun h115 H => ?_) (fun h115 H => ?_)
    · have hfin := fin_st H
      repeat (refine And.intro (Ob.mk (by first | (rw [← hfin] <;> first | exact rfl | exact Iff.rfl | exact ⟨rfl, rfl⟩ | exact decide_eq_true_iff | (constructor <;> first | rfl | simp [ei, eb, es, ec]) | simp [ei, eb, es, ec]) | first | exact rfl | exact Iff.rfl | exact ⟨rfl, rfl⟩ | exact decide_eq_true_iff | (constructor <;> first | rfl | simp [ei, eb, es, ec]) | simp [ei, eb, es, ec])) ?_)
      first | exact trivial | exact rfl
    · refine R.cut_fam H 69 [0, 1, 2, 3, 9, 10] [] (fun v203 => [(81, bS v203)]) (fun v203 => []) [] 0 (fun H => ?_)
      refine And.intro ?_ ?_
      · refine if_st H (fun h205 H => ?_) (fun h205 H => ?_)
        · refine if_st H (fun h206 H => ?_) (fun h206 H => ?_)
          · refine if_st H (fun h207 H => ?_) (fun h207 H => ?_)
            · refine if_st H (fun h208 H => ?_) (fun h208 H => ?_)
              · refine if_st H (fun h209 H => ?_) (fun h209 H => ?_)
                · refine ⟨true, ⟨H⟩, ⟨rfl⟩, ?_⟩
                  repeat (refine And.intro (Ob.mk (by first | exact rfl | exact Iff.rfl | exact ⟨rfl, rfl⟩ | exact decide_eq_true_iff | (constructor <;> first | rfl | simp [ei, eb, es, ec]) | simp [ei, eb, es, ec])) ?_)
                  first | exact trivial | exact rfl
                · refine if_st H (fun h210 H => ?_) (fun h210 H => ?_)
                  · refine ⟨true, ⟨H⟩, ⟨rfl⟩, ?_⟩
                    repeat (refine And.intro (Ob.mk (by first | exact rfl | exact Iff.rfl | exact ⟨rfl, rfl⟩ | exact decide_eq_true_iff | (constructor <;> first | rfl | simp [ei, eb, es, ec]) | simp [ei, eb, es, ec])) ?_)
                    first | exact trivial | exact rfl
                  · refine if_st H (fun h211 H => ?_) (fun h211 H => ?_)
                    · refine if_st H (fun h212 H => ?_) (fun h212 H => ?_)
                      · refine ob_ck H fun h213 H => ?_
                        refine ⟨(decide (¬ (v107.2 - v107.1) = a1)), ⟨H⟩, ⟨rfl⟩, ?_⟩
                        repeat (refine And.intro (Ob.mk (by first | exact rfl | exact Iff.rfl | exact ⟨rfl, rfl⟩ | exact decide_eq_true_iff | (constructor <;> first | rfl | simp [ei, eb, es, ec]) | simp [ei, eb, es, ec])) ?_)
                        first | exact trivial | exact rfl
                      · refine ⟨false, ⟨H⟩, ⟨rfl⟩, ?_⟩
                        repeat (refine And.intro (Ob.mk (by first | exact rfl | exact Iff.rfl | exact ⟨rfl, rfl⟩ | exact decide_eq_true_iff | (constructor <;> first | rfl | simp [ei, eb, es, ec]) | simp [ei, eb, es, ec])) ?_)
                        first | exact trivial | exact rfl
                    · refine ⟨false, ⟨H⟩, ⟨rfl⟩, ?_⟩
                      repeat (refine And.intro (Ob.mk (by first | exact rfl | exact Iff.rfl | exact ⟨rfl, rfl⟩ | exact decide_eq_true_iff | (constructor <;> first | rfl | simp [ei, eb, es, ec]) | simp [ei, eb, es, ec])) ?_)
                      first | exact trivial | exact rfl
              · refine if_st H (fun h214 H => ?_) (fun h214 H => ?_)
                · refine if_st H (fun h215 H => ?_) (fun h215 H => ?_)
                  · refine ob_ck H fun h216 H => ?_
                    refine ⟨(decide (¬ (v107.2 - v107.1) = a1)), ⟨H⟩, ⟨rfl⟩, ?_⟩
                    repeat (refine And.intro (Ob.mk (by first | exact rfl | exact Iff.rfl | exact ⟨rfl, rfl⟩ | exact decide_eq_true_iff | (constructor <;> first | rfl | simp [ei, eb, es, ec]) | simp [ei, eb, es, ec])) ?_)
                    first | exact trivial | exact rfl
                  · refine ⟨false, ⟨H⟩, ⟨rfl⟩, ?_⟩
                    repeat (refine And.intro (Ob.mk (by first | exact rfl | exact Iff.rfl | exact ⟨rfl, rfl⟩ | exact decide_eq_true_iff | (constructor <;> first | rfl | simp [ei, eb, es, ec]) | simp [ei, eb, es, ec])) ?_)
                    first | exact trivial | exact rfl
                · refine ⟨false, ⟨H⟩, ⟨rfl⟩, ?_⟩
                  repeat (refine And.intro (Ob.mk (by first | exact rfl | exact Iff.rfl | exact ⟨rfl, rfl⟩ | exact decide_eq_true_iff | (constructor <;> first | rfl | simp [ei, eb, es, ec]) | simp [ei, eb, es, ec])) ?_)
                  first | exact trivial | exact rfl
            · refine if_st H (fun h217 H => ?_) (fun h217 H => ?_)
              · refine if_st H (fun h218 H => ?_) (fun h218 H => ?_)
                · refine ob_ck H fun h219 H => ?_
                  refine ⟨(decide (¬ (v107.2 - v107.1) = a1)), ⟨H⟩, ⟨rfl⟩, ?_⟩
                  repeat (refine And.intro (Ob.mk (by first | exact rfl | exact Iff.rfl | exact ⟨rfl, rfl⟩ | exact decide_eq_true_iff | (constructor <;> first | rfl | simp [ei, eb, es, ec]) | simp [ei, eb, es, ec])) ?_)
                  first | exact trivial | exact rfl
                · refine ⟨false, ⟨H⟩, ⟨rfl⟩, ?_⟩
                  repeat (refine And.intro (Ob.mk (by first | exact rfl | exact Iff.rfl | exact ⟨rfl, rfl⟩ | exact decide_eq_true_iff | (constructor <;> first | rfl | simp [ei, eb, es, ec]) | simp [ei, eb, es, ec])) ?_)
                  first | exact trivial | exact rfl
              · refine ⟨false, ⟨H⟩, ⟨rfl⟩, ?_⟩
                repeat (refine And.intro (Ob.mk (by first | exact rfl | exact Iff.rfl | exact ⟨rfl, rfl⟩ | exact decide_eq_true_iff | (constructor <;> first | rfl | simp [ei, eb, es, ec]) | simp [ei, eb, es, ec])) ?_)
                first | exact trivial | exact rfl
          · refine if_st H (fun h220 H => ?_) (fun h220 H => ?_)
            · refine if_st H (fun h221 H => ?_) (fun h221 H => ?_)
              · refine ob_ck H fun h222 H => ?_
                refine ⟨(decide (¬ (v107.2 - v107.1) = a1)), ⟨H⟩, ⟨rfl⟩, ?_⟩
                repeat (refine And.intro (Ob.mk (by first | exact rfl | exact Iff.rfl | exact ⟨rfl, rfl⟩ | exact decide_eq_true_iff | (constructor <;> first | rfl | simp [ei, eb, es, ec]) | simp [ei, eb, es, ec])) ?_)
                first | exact trivial | exact rfl
              · refine ⟨false, ⟨H⟩, ⟨rfl⟩, ?_⟩
                repeat (refine And.intro (Ob.mk (by first | exact rfl | exact Iff.rfl | exact ⟨rfl, rfl⟩ | exact decide_eq_true_iff | (constructor <;> first | rfl | simp [ei, eb, es, ec]) | simp [ei, eb, es, ec])) ?_)
                first | exact trivial | exact rfl
            · refine ⟨false, ⟨H⟩, ⟨rfl⟩, ?_⟩
              repeat (refine And.intro (Ob.mk (by first | exact rfl | exact Iff.rfl | exact ⟨rfl, rfl⟩ | exact decide_eq_true_iff | (constructor <;> first | rfl | simp [ei, eb, es, ec]) | simp [ei, eb, es, ec])) ?_)
              first | exact trivial | exact rfl
        · refine if_st H (fun h223 H => ?_) (fun h223 H => ?_)
          · refine if_st H (fun h224 H => ?_) (fun h224 H => ?_)
            · refine ob_ck H fun h225 H => ?_
              refine ⟨(decide (¬ (v107.2 - v107.1) = a1)), ⟨H⟩, ⟨rfl⟩, ?_⟩
              repeat (refine And.intro (Ob.mk (by first | exact rfl | exact Iff.rfl | exact ⟨rfl, rfl⟩ | exact decide_eq_true_iff | (constructor <;> first | rfl | simp [ei, eb, es, ec]) | simp [ei, eb, es, ec])) ?_)
              first | exact trivial | exact rfl
            · refine ⟨false, ⟨H⟩, ⟨rfl⟩, ?_⟩
              repeat (refine And.intro (Ob.mk (by first | exact rfl | exact Iff.rfl | exact ⟨rfl, rfl⟩ | exact decide_eq_true_iff | (constructor <;> first | rfl | simp [ei, eb, es, ec]) | simp [ei, eb, es, ec])) ?_)
              first | exact trivial | exact rfl
          · refine ⟨false, ⟨H⟩, ⟨rfl⟩, ?_⟩
            repeat (refine And.intro (Ob.mk (by first | exact rfl | exact Iff.rfl | exact ⟨rfl, rfl⟩ | exact decide_eq_true_iff | (constructor <;> first | rfl | simp [ei, eb, es, ec]) | simp [ei, eb, es, ec])) ?_)
            first | exact trivial | exact rfl
      · intro v203 H
        refine if_st H (fun h226 H => ?_) (fun h226 H => ?_)
        · have hfin := fin_st H
          repeat (refine And.intro (Ob.mk (by first | (rw [← hfin] <;> first | exact rfl | exact Iff.rfl | exact ⟨rfl, rfl⟩ | exact decide_eq_true_iff | (constructor <;> first | rfl | simp [ei, eb, es, ec]) | simp [ei, eb, es, ec]) | first | exact rfl | exact Iff.rfl | exact ⟨rfl, rfl⟩ | exact decide_eq_true_iff | (constructor <;> first | rfl | simp [ei, eb, es, ec]) | simp [ei, eb, es, ec])) ?_)
          first | exact trivial | exact rfl
        · refine ob_ck H fun h227 H => ?_
          refine ob_ck H fun h228 H => ?_
          obtain ⟨v229, hv230, H⟩ := call_st H
          refine ⟨(a0, a1, a2, gmin a3 (v107.2 - v107.1), v229), ⟨hv230⟩, ⟨trivial⟩, ?_⟩
          refine And.intro ⟨rfl⟩ ?_
          refine And.intro ⟨rfl⟩ ?_
          refine And.intro ⟨rfl⟩ ?_
          refine And.intro ⟨rfl⟩ ?_
          refine if_st H (fun h234 H => ?_) (fun h234 H => ?_)
          · have hfin := fin_st H
            repeat (refine And.intro (Ob.mk (by first | (rw [← hfin] <;> first | exact rfl | exact Iff.rfl | exact ⟨rfl, rfl⟩ | exact decide_eq_true_iff | (constructor <;> first | rfl | simp [ei, eb, es, ec]) | simp [ei, eb, es, ec]) | first | exact rfl | exact Iff.rfl | exact ⟨rfl, rfl⟩ | exact decide_eq_true_iff | (constructor <;> first | rfl | simp [ei, eb, es, ec]) | simp [ei, eb, es, ec])) ?_)
            first | exact trivial | exact rfl
          · refine if_st H (fun h235 H => ?_) (fun h235 H => ?_)
            · have hfin := fin_st H
              repeat (refine And.intro (Ob.mk (by first | (rw [← hfin] <;> first | exact rfl | exact Iff.rfl | exact ⟨rfl, rfl⟩ | exact decide_eq_true_iff | (constructor <;> first | rfl | simp [ei, eb, es, ec]) | simp [ei, eb, es, ec]) | first | exact rfl | exact Iff.rfl | exact ⟨rfl, rfl⟩ | exact decide_eq_true_iff | (constructor <;> first | rfl | simp [ei, eb, es, ec]) | simp [ei, eb, es, ec])) ?_)
              first | exact trivial | exact rfl
            · refine R.cut_fam H 101 [0, 1, 2, 9, 10] [] (fun v261 => []) (fun v261 => []) [(86, .arr 3 1 (v229.1.length) (ei .i64 (v229.1)))] 0 (fun H => ?_)
              refine And.intro ?_ ?_
              · refine R.loop_fam (bind_st H) [0, 1, 2, 9, 10, 13, 14] [] (fun _ s263 => [(16, .v (.int .i64 (s263)))]) (fun _ s263 => []) 0 (fun n283 H => ?_)
                refine ⟨(n283, _), ⟨H⟩, trivial, ?_⟩
                repeat (refine And.intro (Ob.mk (by first | exact rfl | exact Iff.rfl | exact ⟨rfl, rfl⟩ | exact decide_eq_true_iff | (constructor <;> first | rfl | simp [ei, eb, es, ec]) | simp [ei, eb, es, ec])) ?_)
                rintro ⟨m0, s263⟩ H _
                obtain ⟨m264, hm0, H⟩ := IG_succ H
                dsimp only at hm0
                subst hm0
                try dsimp only at H
                refine if_st H (fun h276 H => ?_) (fun h276 H => ?_)
                · refine ob_ck H fun h277 H => ?_
                  refine ld_int (e := v229.1.getD s263.toNat 0) (own_get (ys := ei .i64 v229.1) (by first | rfl | simp [ei, eb, es, ec]) (ei_get (l := v229.1) (by first | exact tn h277 | (have := tn h277; simp at this ⊢; omega) | (have := tn h277; simp; omega)))) ?_
                  refine ob_ck H fun h278 H => ?_
                  refine if_st H (fun h279 H => ?_) (fun h279 H => ?_)
                  · replace H := some_st H
                    dsimp only [stp, sm] at H
                    have hfin := fin_st H
                    repeat (refine And.intro (Ob.mk (by first | (rw [← hfin] <;> first | exact rfl | exact Iff.rfl | exact ⟨rfl, rfl⟩ | exact decide_eq_true_iff | (constructor <;> first | rfl | simp [ei, eb, es, ec]) | simp [ei, eb, es, ec]) | first | exact rfl | exact Iff.rfl | exact ⟨rfl, rfl⟩ | exact decide_eq_true_iff | (constructor <;> first | rfl | simp [ei, eb, es, ec]) | simp [ei, eb, es, ec])) ?_)
                    first | exact trivial | exact rfl
                  · refine ob_ck H fun h280 H => ?_
                    replace H := some_st H
                    refine ⟨(m264, s263 + 1), ⟨H, Nat.lt_succ_self _⟩, trivial, ⟨rfl⟩, ?_⟩
                    repeat (refine And.intro (Ob.mk (by first | exact rfl | exact Iff.rfl | exact ⟨rfl, rfl⟩ | exact decide_eq_true_iff | (constructor <;> first | rfl | simp [ei, eb, es, ec]) | simp [ei, eb, es, ec])) ?_)
                    first | exact trivial | exact rfl
                · replace H := some_st H
                  dsimp only [stp, sm] at H
                  refine ⟨(), ⟨H⟩, ⟨rfl⟩, ?_⟩
                  repeat (refine And.intro (Ob.mk (by first | exact rfl | exact Iff.rfl | exact ⟨rfl, rfl⟩ | exact decide_eq_true_iff | (constructor <;> first | rfl | simp [ei, eb, es, ec]) | simp [ei, eb, es, ec])) ?_)
                  first | exact trivial | exact rfl
              · intro v261 H
                refine ob_ck H fun h293 H => ?_
                refine if_st H (fun h294 H => ?_) (fun h294 H => ?_)
                · obtain ⟨v295, hv296, H⟩ := call_st H
                  refine ⟨(a0, a1, a2, 200, v295), ⟨hv296⟩, ⟨trivial⟩, ?_⟩
                  refine And.intro ⟨rfl⟩ ?_
                  refine And.intro ⟨rfl⟩ ?_
                  refine And.intro ⟨rfl⟩ ?_
                  refine And.intro ⟨rfl⟩ ?_
                  refine if_st H (fun h297 H => ?_) (fun h297 H => ?_)
                  · have hfin := fin_st H
                    repeat (refine And.intro (Ob.mk (by first | (rw [← hfin] <;> first | exact rfl | exact Iff.rfl | exact ⟨rfl, rfl⟩ | exact decide_eq_true_iff | (constructor <;> first | rfl | simp [ei, eb, es, ec]) | simp [ei, eb, es, ec]) | first | exact rfl | exact Iff.rfl | exact ⟨rfl, rfl⟩ | exact decide_eq_true_iff | (constructor <;> first | rfl | simp [ei, eb, es, ec]) | simp [ei, eb, es, ec])) ?_)
                    first | exact trivial | exact rfl
                  · refine ob_ck H fun h298 H => ?_
                    refine if_st H (fun h299 H => ?_) (fun h299 H => ?_)
                    · have hfin := fin_st H
                      repeat (refine And.intro (Ob.mk (by first | (rw [← hfin] <;> first | exact rfl | exact Iff.rfl | exact ⟨rfl, rfl⟩ | exact decide_eq_true_iff | (constructor <;> first | rfl | simp [ei, eb, es, ec]) | simp [ei, eb, es, ec]) | first | exact rfl | exact Iff.rfl | exact ⟨rfl, rfl⟩ | exact decide_eq_true_iff | (constructor <;> first | rfl | simp [ei, eb, es, ec]) | simp [ei, eb, es, ec])) ?_)
                      first | exact trivial | exact rfl
                    · obtain ⟨v300, hv301, H⟩ := call_st H
                      refine ⟨v300, ⟨hv301⟩, ⟨trivial⟩, ?_⟩
                      have hfin := fin_st H
                      repeat (refine And.intro (Ob.mk (by first | (rw [← hfin] <;> first | exact rfl | exact Iff.rfl | exact ⟨rfl, rfl⟩ | exact decide_eq_true_iff | (constructor <;> first | rfl | simp [ei, eb, es, ec]) | simp [ei, eb, es, ec]) | first | exact rfl | exact Iff.rfl | exact ⟨rfl, rfl⟩ | exact decide_eq_true_iff | (constructor <;> first | rfl | simp [ei, eb, es, ec]) | simp [ei, eb, es, ec])) ?_)
                      first | exact trivial | exact rfl
                · obtain ⟨v302, hv303, H⟩ := call_st H
                  refine ⟨v302, ⟨hv303⟩, ⟨trivial⟩, ?_⟩
                  have hfin := fin_st H
                  repeat (refine And.intro (Ob.mk (by first | (rw [← hfin] <;> first | exact rfl | exact Iff.rfl | exact ⟨rfl, rfl⟩ | exact decide_eq_true_iff | (constructor <;> first | rfl | simp [ei, eb, es, ec]) | simp [ei, eb, es, ec]) | first | exact rfl | exact Iff.rfl | exact ⟨rfl, rfl⟩ | exact decide_eq_true_iff | (constructor <;> first | rfl | simp [ei, eb, es, ec]) | simp [ei, eb, es, ec])) ?_)
                  first | exact trivial | exact rfl

end Go.Proofs.Ytcnofjjiepcpjaa
