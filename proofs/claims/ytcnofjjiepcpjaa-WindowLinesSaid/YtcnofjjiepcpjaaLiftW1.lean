/-
  Functions of the program, lifted: each with its walk. Printed by lift.py.
  Nothing here is trusted.
-/
import Derived.Test.YtcnofjjiepcpjaaEngT
import Derived.Test.YtcnofjjiepcpjaaEngLc
set_option linter.unusedVariables false
set_option linter.unusedSimpArgs false
namespace Go.Proofs.Ytcnofjjiepcpjaa
open Go Go.Eng

/-- placard/window.columns -/
noncomputable def g69 (a0 : Int) : Option (Int) :=
  if a0 = 2 then
    some 2
  else
    some 1
noncomputable def k69 : Eng.CS := { f := 69, calm := true, more := 0, ι := Int × Int, ok := fun i => g69 i.1 = some i.2, rds := fun _ => [], args := fun i => [.w (.v (.int .i64 (i.1)))], res := fun i => .v (.int .i64 (i.2)) }
set_option maxRecDepth 8000 in
set_option maxHeartbeats 4000000 in
theorem k69_ok : CalmOk Try.prog k69 := by
  refine R.calmspec Try.func69 nm69 rfl ?_
  rintro ⟨a0, r⟩ hok q _ args hargs
  match args, hargs with
  | [_], hargs =>
  obtain ⟨rfl, _⟩ := hargs
  refine ⟨envC [] false [], 6, envC_ok (css_nil), rfl, (by intro x hx; simp only [List.mem_cons, List.not_mem_nil, or_false] at hx; rcases hx with rfl <;> rfl), ?_⟩
  have H : Gives (g69 a0) (fun a => a = r) := ⟨r, hok, rfl⟩
  unfold g69 at H
  clear hok
  refine if_st H (fun h2 H => ?_) (fun h2 H => ?_)
  · have hfin := fin_st H
    repeat (refine And.intro (Ob.mk (by first | (rw [← hfin] <;> first | exact rfl | exact Iff.rfl | exact ⟨rfl, rfl⟩ | exact decide_eq_true_iff | (constructor <;> first | rfl | simp [ei, eb, es, ec]) | simp [ei, eb, es, ec]) | first | exact rfl | exact Iff.rfl | exact ⟨rfl, rfl⟩ | exact decide_eq_true_iff | (constructor <;> first | rfl | simp [ei, eb, es, ec]) | simp [ei, eb, es, ec])) ?_)
    first | exact trivial | exact rfl
  · have hfin := fin_st H
    repeat (refine And.intro (Ob.mk (by first | (rw [← hfin] <;> first | exact rfl | exact Iff.rfl | exact ⟨rfl, rfl⟩ | exact decide_eq_true_iff | (constructor <;> first | rfl | simp [ei, eb, es, ec]) | simp [ei, eb, es, ec]) | first | exact rfl | exact Iff.rfl | exact ⟨rfl, rfl⟩ | exact decide_eq_true_iff | (constructor <;> first | rfl | simp [ei, eb, es, ec]) | simp [ei, eb, es, ec])) ?_)
    first | exact trivial | exact rfl
noncomputable def e69 (n : Nat) (a0 : Int) : Option (Int) :=
  if a0 = 2 then
    some 2
  else
    some 1
theorem e69_le (n : Nat) (a0 : Int) : Le (e69 n a0) (g69 a0) := by
  unfold e69 g69
  repeat' first | refine le_bind ?_ (fun _ => ?_) | refine le_ck ?_ | refine le_if ?_ ?_ | refine le_sm (fun _ => ?_) (fun _ => ?_) | refine le_jn (fun _ _ _ => ?_) (fun _ => ?_) | refine le_loop (fun _ => ?_) | with_reducible exact le_refl | apply_assumption

/-- placard/window.held -/
noncomputable def g67 (a0 : Int) (a1 : Int) (a2 : Int) : Option (Int) :=
  some (gmax a1 (gmin a0 a2))
noncomputable def k67 : Eng.CS := { f := 67, calm := true, more := 0, ι := Int × Int × Int × Int, ok := fun i => g67 i.1 i.2.1 i.2.2.1 = some i.2.2.2, rds := fun _ => [], args := fun i => [.w (.v (.int .i64 (i.1))), .w (.v (.int .i64 (i.2.1))), .w (.v (.int .i64 (i.2.2.1)))], res := fun i => .v (.int .i64 (i.2.2.2)) }
set_option maxRecDepth 8000 in
set_option maxHeartbeats 4000000 in
theorem k67_ok : CalmOk Try.prog k67 := by
  refine R.calmspec Try.func67 nm67 rfl ?_
  rintro ⟨a0, a1, a2, r⟩ hok q _ args hargs
  match args, hargs with
  | [_, _, _], hargs =>
  obtain ⟨rfl, rfl, rfl, _⟩ := hargs
  refine ⟨envC [] false [], 6, envC_ok (css_nil), rfl, (by intro x hx; simp only [List.mem_cons, List.not_mem_nil, or_false] at hx; rcases hx with rfl | rfl | rfl <;> rfl), ?_⟩
  have H : Gives (g67 a0 a1 a2) (fun a => a = r) := ⟨r, hok, rfl⟩
  unfold g67 at H
  clear hok
  have hfin := fin_st H
  repeat (refine And.intro (Ob.mk (by first | (rw [← hfin] <;> first | exact rfl | exact Iff.rfl | exact ⟨rfl, rfl⟩ | exact decide_eq_true_iff | (constructor <;> first | rfl | simp [ei, eb, es, ec]) | simp [ei, eb, es, ec]) | first | exact rfl | exact Iff.rfl | exact ⟨rfl, rfl⟩ | exact decide_eq_true_iff | (constructor <;> first | rfl | simp [ei, eb, es, ec]) | simp [ei, eb, es, ec])) ?_)
  first | exact trivial | exact rfl
noncomputable def e67 (n : Nat) (a0 : Int) (a1 : Int) (a2 : Int) : Option (Int) :=
  some (gmax a1 (gmin a0 a2))
theorem e67_le (n : Nat) (a0 : Int) (a1 : Int) (a2 : Int) : Le (e67 n a0 a1 a2) (g67 a0 a1 a2) := by
  unfold e67 g67
  repeat' first | refine le_bind ?_ (fun _ => ?_) | refine le_ck ?_ | refine le_if ?_ ?_ | refine le_sm (fun _ => ?_) (fun _ => ?_) | refine le_jn (fun _ _ _ => ?_) (fun _ => ?_) | refine le_loop (fun _ => ?_) | with_reducible exact le_refl | apply_assumption

/-- placard/window.takes -/
noncomputable def g68 (a0 : Int) (a1 : List Int) : Option (Int) :=
  if a0 < ((a1.length : Nat) : Int) then
    (
      ck (0 ≤ a0 ∧ a0 < ((a1.length : Nat) : Int)) <|
      (g69 (a1.getD a0.toNat 0)).bind fun v9 =>
      some v9
    )
  else
    some 1
noncomputable def k68 : Eng.CS := { f := 68, calm := true, more := 0, ι := Int × (List Int) × Int, ok := fun i => g68 i.1 i.2.1 = some i.2.2, rds := fun _ => [], args := fun i => [.w (.v (.int .i64 (i.1))), .sl 1 i.2.1.length (ei .i64 i.2.1)], res := fun i => .v (.int .i64 (i.2.2)) }
set_option maxRecDepth 8000 in
set_option maxHeartbeats 4000000 in
theorem k68_ok : CalmOk Try.prog k68 := by
  refine R.calmspec Try.func68 nm68 rfl ?_
  rintro ⟨a0, a1, r⟩ hok q _ args hargs
  match args, hargs with
  | [_, _], hargs =>
  obtain ⟨rfl, ⟨A1, cp1, rfl, hc1, _, hR1⟩, _⟩ := hargs
  refine ⟨envC [k69] false [], 6, envC_ok (css_cons ⟨fun _ => k69_ok, fun h => (by cases h)⟩ (css_nil)), rfl, (by intro x hx; simp only [List.mem_cons, List.not_mem_nil, or_false] at hx; rcases hx with rfl | rfl <;> rfl), ?_⟩
  have H : Gives (g68 a0 a1) (fun a => a = r) := ⟨r, hok, rfl⟩
  unfold g68 at H
  clear hok
  refine if_st H (fun h7 H => ?_) (fun h7 H => ?_)
  · refine ob_ix hR1 (by rw [ei_len]; exact id) H fun h8 H => ?_
    refine ld_int (e := a1.getD a0.toNat 0) (rd_get hR1 (ei_get (l := a1) (tn h8))) ?_
    obtain ⟨v9, hv10, H⟩ := call_st H
    refine ⟨(a1.getD a0.toNat 0, v9), ⟨hv10⟩, ⟨trivial⟩, ?_⟩
    refine And.intro ⟨rfl⟩ ?_
    have hfin := fin_st H
    repeat (refine And.intro (Ob.mk (by first | (rw [← hfin] <;> first | exact rfl | exact Iff.rfl | exact ⟨rfl, rfl⟩ | exact decide_eq_true_iff | (constructor <;> first | rfl | simp [ei, eb, es, ec]) | simp [ei, eb, es, ec]) | first | exact rfl | exact Iff.rfl | exact ⟨rfl, rfl⟩ | exact decide_eq_true_iff | (constructor <;> first | rfl | simp [ei, eb, es, ec]) | simp [ei, eb, es, ec])) ?_)
    first | exact trivial | exact rfl
  · have hfin := fin_st H
    repeat (refine And.intro (Ob.mk (by first | (rw [← hfin] <;> first | exact rfl | exact Iff.rfl | exact ⟨rfl, rfl⟩ | exact decide_eq_true_iff | (constructor <;> first | rfl | simp [ei, eb, es, ec]) | simp [ei, eb, es, ec]) | first | exact rfl | exact Iff.rfl | exact ⟨rfl, rfl⟩ | exact decide_eq_true_iff | (constructor <;> first | rfl | simp [ei, eb, es, ec]) | simp [ei, eb, es, ec])) ?_)
    first | exact trivial | exact rfl
noncomputable def e68 (n : Nat) (a0 : Int) (a1 : List Int) : Option (Int) :=
  if a0 < ((a1.length : Nat) : Int) then
    (
      ck (0 ≤ a0 ∧ a0 < ((a1.length : Nat) : Int)) <|
      (e69 n (a1.getD a0.toNat 0)).bind fun v9 =>
      some v9
    )
  else
    some 1
theorem e68_le (n : Nat) (a0 : Int) (a1 : List Int) : Le (e68 n a0 a1) (g68 a0 a1) := by
  unfold e68 g68
  repeat' first | exact e69_le _ _ | refine le_bind ?_ (fun _ => ?_) | refine le_ck ?_ | refine le_if ?_ ?_ | refine le_sm (fun _ => ?_) (fun _ => ?_) | refine le_jn (fun _ _ _ => ?_) (fun _ => ?_) | refine le_loop (fun _ => ?_) | with_reducible exact le_refl | apply_assumption

/-- placard/placardref15.wide -/
noncomputable def g88 (a0 : Int) : Option (Int) :=
  if a0 = 2 then
    some 2
  else
    some 1
noncomputable def k88 : Eng.CS := { f := 88, calm := true, more := 0, ι := Int × Int, ok := fun i => g88 i.1 = some i.2, rds := fun _ => [], args := fun i => [.w (.v (.int .i64 (i.1)))], res := fun i => .v (.int .i64 (i.2)) }
set_option maxRecDepth 8000 in
set_option maxHeartbeats 4000000 in
theorem k88_ok : CalmOk Try.prog k88 := by
  refine R.calmspec Try.func88 nm88 rfl ?_
  rintro ⟨a0, r⟩ hok q _ args hargs
  match args, hargs with
  | [_], hargs =>
  obtain ⟨rfl, _⟩ := hargs
  refine ⟨envC [] false [], 6, envC_ok (css_nil), rfl, (by intro x hx; simp only [List.mem_cons, List.not_mem_nil, or_false] at hx; rcases hx with rfl <;> rfl), ?_⟩
  have H : Gives (g88 a0) (fun a => a = r) := ⟨r, hok, rfl⟩
  unfold g88 at H
  clear hok
  refine if_st H (fun h12 H => ?_) (fun h12 H => ?_)
  · have hfin := fin_st H
    repeat (refine And.intro (Ob.mk (by first | (rw [← hfin] <;> first | exact rfl | exact Iff.rfl | exact ⟨rfl, rfl⟩ | exact decide_eq_true_iff | (constructor <;> first | rfl | simp [ei, eb, es, ec]) | simp [ei, eb, es, ec]) | first | exact rfl | exact Iff.rfl | exact ⟨rfl, rfl⟩ | exact decide_eq_true_iff | (constructor <;> first | rfl | simp [ei, eb, es, ec]) | simp [ei, eb, es, ec])) ?_)
    first | exact trivial | exact rfl
  · have hfin := fin_st H
    repeat (refine And.intro (Ob.mk (by first | (rw [← hfin] <;> first | exact rfl | exact Iff.rfl | exact ⟨rfl, rfl⟩ | exact decide_eq_true_iff | (constructor <;> first | rfl | simp [ei, eb, es, ec]) | simp [ei, eb, es, ec]) | first | exact rfl | exact Iff.rfl | exact ⟨rfl, rfl⟩ | exact decide_eq_true_iff | (constructor <;> first | rfl | simp [ei, eb, es, ec]) | simp [ei, eb, es, ec])) ?_)
    first | exact trivial | exact rfl

/-- placard/placardref15.at -/
noncomputable def g70 (a0 : Int) (a1 : List Int) : Option (Int) :=
  some (gmax 0 (gmin a0 ((a1.length : Nat) : Int)))
noncomputable def k70 : Eng.CS := { f := 70, calm := true, more := 0, ι := Int × (List Int) × Int, ok := fun i => g70 i.1 i.2.1 = some i.2.2, rds := fun _ => [], args := fun i => [.w (.v (.int .i64 (i.1))), .sl 1 i.2.1.length (ei .i64 i.2.1)], res := fun i => .v (.int .i64 (i.2.2)) }
set_option maxRecDepth 8000 in
set_option maxHeartbeats 4000000 in
theorem k70_ok : CalmOk Try.prog k70 := by
  refine R.calmspec Try.func70 nm70 rfl ?_
  rintro ⟨a0, a1, r⟩ hok q _ args hargs
  match args, hargs with
  | [_, _], hargs =>
  obtain ⟨rfl, ⟨A1, cp1, rfl, hc1, _, hR1⟩, _⟩ := hargs
  refine ⟨envC [] false [], 6, envC_ok (css_nil), rfl, (by intro x hx; simp only [List.mem_cons, List.not_mem_nil, or_false] at hx; rcases hx with rfl | rfl <;> rfl), ?_⟩
  have H : Gives (g70 a0 a1) (fun a => a = r) := ⟨r, hok, rfl⟩
  unfold g70 at H
  clear hok
  have hfin := fin_st H
  repeat (refine And.intro (Ob.mk (by first | (rw [← hfin] <;> first | exact rfl | exact Iff.rfl | exact ⟨rfl, rfl⟩ | exact decide_eq_true_iff | (constructor <;> first | rfl | simp [ei, eb, es, ec]) | simp [ei, eb, es, ec]) | first | exact rfl | exact Iff.rfl | exact ⟨rfl, rfl⟩ | exact decide_eq_true_iff | (constructor <;> first | rfl | simp [ei, eb, es, ec]) | simp [ei, eb, es, ec])) ?_)
  first | exact trivial | exact rfl

/-- placard/placardref15.takes -/
noncomputable def g72 (a0 : Int) (a1 : List Int) : Option (Int) :=
  if a0 < ((a1.length : Nat) : Int) then
    (
      ck (0 ≤ a0 ∧ a0 < ((a1.length : Nat) : Int)) <|
      (g88 (a1.getD a0.toNat 0)).bind fun v19 =>
      some v19
    )
  else
    some 1
noncomputable def k72 : Eng.CS := { f := 72, calm := true, more := 0, ι := Int × (List Int) × Int, ok := fun i => g72 i.1 i.2.1 = some i.2.2, rds := fun _ => [], args := fun i => [.w (.v (.int .i64 (i.1))), .sl 1 i.2.1.length (ei .i64 i.2.1)], res := fun i => .v (.int .i64 (i.2.2)) }
set_option maxRecDepth 8000 in
set_option maxHeartbeats 4000000 in
theorem k72_ok : CalmOk Try.prog k72 := by
  refine R.calmspec Try.func72 nm72 rfl ?_
  rintro ⟨a0, a1, r⟩ hok q _ args hargs
  match args, hargs with
  | [_, _], hargs =>
  obtain ⟨rfl, ⟨A1, cp1, rfl, hc1, _, hR1⟩, _⟩ := hargs
  refine ⟨envC [k88] false [], 6, envC_ok (css_cons ⟨fun _ => k88_ok, fun h => (by cases h)⟩ (css_nil)), rfl, (by intro x hx; simp only [List.mem_cons, List.not_mem_nil, or_false] at hx; rcases hx with rfl | rfl <;> rfl), ?_⟩
  have H : Gives (g72 a0 a1) (fun a => a = r) := ⟨r, hok, rfl⟩
  unfold g72 at H
  clear hok
  refine if_st H (fun h17 H => ?_) (fun h17 H => ?_)
  · refine ob_ix hR1 (by rw [ei_len]; exact id) H fun h18 H => ?_
    refine ld_int (e := a1.getD a0.toNat 0) (rd_get hR1 (ei_get (l := a1) (tn h18))) ?_
    obtain ⟨v19, hv20, H⟩ := call_st H
    refine ⟨(a1.getD a0.toNat 0, v19), ⟨hv20⟩, ⟨trivial⟩, ?_⟩
    refine And.intro ⟨rfl⟩ ?_
    have hfin := fin_st H
    repeat (refine And.intro (Ob.mk (by first | (rw [← hfin] <;> first | exact rfl | exact Iff.rfl | exact ⟨rfl, rfl⟩ | exact decide_eq_true_iff | (constructor <;> first | rfl | simp [ei, eb, es, ec]) | simp [ei, eb, es, ec]) | first | exact rfl | exact Iff.rfl | exact ⟨rfl, rfl⟩ | exact decide_eq_true_iff | (constructor <;> first | rfl | simp [ei, eb, es, ec]) | simp [ei, eb, es, ec])) ?_)
    first | exact trivial | exact rfl
  · have hfin := fin_st H
    repeat (refine And.intro (Ob.mk (by first | (rw [← hfin] <;> first | exact rfl | exact Iff.rfl | exact ⟨rfl, rfl⟩ | exact decide_eq_true_iff | (constructor <;> first | rfl | simp [ei, eb, es, ec]) | simp [ei, eb, es, ec]) | first | exact rfl | exact Iff.rfl | exact ⟨rfl, rfl⟩ | exact decide_eq_true_iff | (constructor <;> first | rfl | simp [ei, eb, es, ec]) | simp [ei, eb, es, ec])) ?_)
    first | exact trivial | exact rfl

/-- placard/window.List -/
noncomputable def g21 (a0 : Int) (a1 : Int) (a2 : Int) : Option (Int × Int) :=
  ck (inR .i64 ((gmax 0 a0) - (gmax 0 a1))) <|
  ck (inR .i64 (Int.tdiv (gmax 0 a1) 2)) <|
  jn (α := _) (β := Int) (fun k28 =>
      if (Int.tdiv (gmax 0 a1) 2) < a2 then
        (
          ck (inR .i64 (a2 - (Int.tdiv (gmax 0 a1) 2))) <|
          k28 (gmin (a2 - (Int.tdiv (gmax 0 a1) 2)) (gmax 0 ((gmax 0 a0) - (gmax 0 a1))))
        )
      else
        k28 0
  ) (fun v27 =>
    ck (inR .i64 ((gmax 0 a0) - v27)) <|
    if (gmax 0 a1) < ((gmax 0 a0) - v27) then
      (
        ck (inR .i64 (v27 + (gmax 0 a1))) <|
        some (v27, v27 + (gmax 0 a1))
      )
    else
      some (v27, gmax 0 a0)
  )
noncomputable def k21 : Eng.CS := { f := 21, calm := true, more := 0, ι := Int × Int × Int × (Int × Int), ok := fun i => g21 i.1 i.2.1 i.2.2.1 = some i.2.2.2, rds := fun _ => [], args := fun i => [.w (.v (.int .i64 (i.1))), .w (.v (.int .i64 (i.2.1))), .w (.v (.int .i64 (i.2.2.1)))], res := fun i => .tup [.v (.int .i64 (i.2.2.2.1)), .v (.int .i64 (i.2.2.2.2))] }
set_option maxRecDepth 8000 in
set_option maxHeartbeats 4000000 in
theorem k21_ok : CalmOk Try.prog k21 := by
  refine R.calmspec Try.func21 nm21 rfl ?_
  rintro ⟨a0, a1, a2, r⟩ hok q _ args hargs
  match args, hargs with
  | [_, _, _], hargs =>
  obtain ⟨rfl, rfl, rfl, _⟩ := hargs
  refine ⟨envC [] false [(21, 6)], 6, envC_ok (css_nil), rfl, (by intro x hx; simp only [List.mem_cons, List.not_mem_nil, or_false] at hx; rcases hx with rfl | rfl | rfl <;> rfl), ?_⟩
  have H : Gives (g21 a0 a1 a2) (fun a => a = r) := ⟨r, hok, rfl⟩
  unfold g21 at H
  clear hok
  refine ob_ck H fun h21 H => ?_
  refine And.intro ⟨by decide⟩ ?_
  refine ob_ck H fun h22 H => ?_
  refine R.cut_fam H 26 [0, 1] [] (fun v27 => [(6, .v (.int .i64 (v27)))]) (fun v27 => []) [] 0 (fun H => ?_)
  refine And.intro ?_ ?_
  · refine if_st H (fun h29 H => ?_) (fun h29 H => ?_)
    · refine ob_ck H fun h30 H => ?_
      refine ⟨gmin (a2 - (Int.tdiv (gmax 0 a1) 2)) (gmax 0 ((gmax 0 a0) - (gmax 0 a1))), ⟨H⟩, ⟨rfl⟩, ?_⟩
      repeat (refine And.intro (Ob.mk (by first | exact rfl | exact Iff.rfl | exact ⟨rfl, rfl⟩ | exact decide_eq_true_iff | (constructor <;> first | rfl | simp [ei, eb, es, ec]) | simp [ei, eb, es, ec])) ?_)
      first | exact trivial | exact rfl
    · refine ⟨0, ⟨H⟩, ⟨rfl⟩, ?_⟩
      repeat (refine And.intro (Ob.mk (by first | exact rfl | exact Iff.rfl | exact ⟨rfl, rfl⟩ | exact decide_eq_true_iff | (constructor <;> first | rfl | simp [ei, eb, es, ec]) | simp [ei, eb, es, ec])) ?_)
      first | exact trivial | exact rfl
  · intro v27 H
    refine ob_ck H fun h34 H => ?_
    refine if_st H (fun h35 H => ?_) (fun h35 H => ?_)
    · refine ob_ck H fun h36 H => ?_
      have hfin := fin_st H
      repeat (refine And.intro (Ob.mk (by first | (rw [← hfin] <;> first | exact rfl | exact Iff.rfl | exact ⟨rfl, rfl⟩ | exact decide_eq_true_iff | (constructor <;> first | rfl | simp [ei, eb, es, ec]) | simp [ei, eb, es, ec]) | first | exact rfl | exact Iff.rfl | exact ⟨rfl, rfl⟩ | exact decide_eq_true_iff | (constructor <;> first | rfl | simp [ei, eb, es, ec]) | simp [ei, eb, es, ec])) ?_)
      first | exact trivial | exact rfl
    · have hfin := fin_st H
      repeat (refine And.intro (Ob.mk (by first | (rw [← hfin] <;> first | exact rfl | exact Iff.rfl | exact ⟨rfl, rfl⟩ | exact decide_eq_true_iff | (constructor <;> first | rfl | simp [ei, eb, es, ec]) | simp [ei, eb, es, ec]) | first | exact rfl | exact Iff.rfl | exact ⟨rfl, rfl⟩ | exact decide_eq_true_iff | (constructor <;> first | rfl | simp [ei, eb, es, ec]) | simp [ei, eb, es, ec])) ?_)
      first | exact trivial | exact rfl
noncomputable def e21 (n : Nat) (a0 : Int) (a1 : Int) (a2 : Int) : Option (Int × Int) :=
  ck (inR .i64 ((gmax 0 a0) - (gmax 0 a1))) <|
  ck (inR .i64 (Int.tdiv (gmax 0 a1) 2)) <|
  jn (α := _) (β := Int) (fun k28 =>
      if (Int.tdiv (gmax 0 a1) 2) < a2 then
        (
          ck (inR .i64 (a2 - (Int.tdiv (gmax 0 a1) 2))) <|
          k28 (gmin (a2 - (Int.tdiv (gmax 0 a1) 2)) (gmax 0 ((gmax 0 a0) - (gmax 0 a1))))
        )
      else
        k28 0
  ) (fun v27 =>
    ck (inR .i64 ((gmax 0 a0) - v27)) <|
    if (gmax 0 a1) < ((gmax 0 a0) - v27) then
      (
        ck (inR .i64 (v27 + (gmax 0 a1))) <|
        some (v27, v27 + (gmax 0 a1))
      )
    else
      some (v27, gmax 0 a0)
  )
theorem e21_le (n : Nat) (a0 : Int) (a1 : Int) (a2 : Int) : Le (e21 n a0 a1 a2) (g21 a0 a1 a2) := by
  unfold e21 g21
  repeat' first | refine le_bind ?_ (fun _ => ?_) | refine le_ck ?_ | refine le_if ?_ ?_ | refine le_sm (fun _ => ?_) (fun _ => ?_) | refine le_jn (fun _ _ _ => ?_) (fun _ => ?_) | refine le_loop (fun _ => ?_) | with_reducible exact le_refl | apply_assumption

/-- placard/placardref15.List -/
noncomputable def g22 (a0 : Int) (a1 : Int) (a2 : Int) : Option (Int × Int) :=
  ck (inR .i64 ((gmax 0 a0) - (gmax 0 a1))) <|
  jn (α := _) (β := Int) (fun k47 =>
      ck (inR .i64 (Int.tdiv (gmax 0 a1) 2)) <|
      if (Int.tdiv (gmax 0 a1) 2) < a2 then
        (
          ck (inR .i64 (Int.tdiv (gmax 0 a1) 2)) <|
          ck (inR .i64 (a2 - (Int.tdiv (gmax 0 a1) 2))) <|
          k47 (gmin (gmax 0 ((gmax 0 a0) - (gmax 0 a1))) (a2 - (Int.tdiv (gmax 0 a1) 2)))
        )
      else
        k47 0
  ) (fun v46 =>
    ck (inR .i64 ((gmax 0 a0) - v46)) <|
    if ((gmax 0 a0) - v46) < (gmax 0 a1) then
      some (v46, gmax 0 a0)
    else
      (
        ck (inR .i64 (v46 + (gmax 0 a1))) <|
        some (v46, v46 + (gmax 0 a1))
      )
  )
noncomputable def k22 : Eng.CS := { f := 22, calm := true, more := 0, ι := Int × Int × Int × (Int × Int), ok := fun i => g22 i.1 i.2.1 i.2.2.1 = some i.2.2.2, rds := fun _ => [], args := fun i => [.w (.v (.int .i64 (i.1))), .w (.v (.int .i64 (i.2.1))), .w (.v (.int .i64 (i.2.2.1)))], res := fun i => .tup [.v (.int .i64 (i.2.2.2.1)), .v (.int .i64 (i.2.2.2.2))] }
set_option maxRecDepth 8000 in
set_option maxHeartbeats 4000000 in
theorem k22_ok : CalmOk Try.prog k22 := by
  refine R.calmspec Try.func22 nm22 rfl ?_
  rintro ⟨a0, a1, a2, r⟩ hok q _ args hargs
  match args, hargs with
  | [_, _, _], hargs =>
  obtain ⟨rfl, rfl, rfl, _⟩ := hargs
  refine ⟨envC [] false [(22, 6)], 6, envC_ok (css_nil), rfl, (by intro x hx; simp only [List.mem_cons, List.not_mem_nil, or_false] at hx; rcases hx with rfl | rfl | rfl <;> rfl), ?_⟩
  have H : Gives (g22 a0 a1 a2) (fun a => a = r) := ⟨r, hok, rfl⟩
  unfold g22 at H
  clear hok
  refine ob_ck H fun h37 H => ?_
  refine R.cut_fam H 26 [0, 1] [] (fun v46 => [(9, .v (.int .i64 (v46)))]) (fun v46 => []) [] 0 (fun H => ?_)
  refine And.intro ?_ ?_
  · refine And.intro ⟨by decide⟩ ?_
    refine ob_ck H fun h48 H => ?_
    refine if_st H (fun h49 H => ?_) (fun h49 H => ?_)
    · refine And.intro ⟨by decide⟩ ?_
      refine ob_ck H fun h50 H => ?_
      refine ob_ck H fun h51 H => ?_
      refine ⟨gmin (gmax 0 ((gmax 0 a0) - (gmax 0 a1))) (a2 - (Int.tdiv (gmax 0 a1) 2)), ⟨H⟩, ⟨rfl⟩, ?_⟩
      repeat (refine And.intro (Ob.mk (by first | exact rfl | exact Iff.rfl | exact ⟨rfl, rfl⟩ | exact decide_eq_true_iff | (constructor <;> first | rfl | simp [ei, eb, es, ec]) | simp [ei, eb, es, ec])) ?_)
      first | exact trivial | exact rfl
    · refine ⟨0, ⟨H⟩, ⟨rfl⟩, ?_⟩
      repeat (refine And.intro (Ob.mk (by first | exact rfl | exact Iff.rfl | exact ⟨rfl, rfl⟩ | exact decide_eq_true_iff | (constructor <;> first | rfl | simp [ei, eb, es, ec]) | simp [ei, eb, es, ec])) ?_)
      first | exact trivial | exact rfl
  · intro v46 H
    refine ob_ck H fun h54 H => ?_
    refine if_st H (fun h55 H => ?_) (fun h55 H => ?_)
    · have hfin := fin_st H
      repeat (refine And.intro (Ob.mk (by first | (rw [← hfin] <;> first | exact rfl | exact Iff.rfl | exact ⟨rfl, rfl⟩ | exact decide_eq_true_iff | (constructor <;> first | rfl | simp [ei, eb, es, ec]) | simp [ei, eb, es, ec]) | first | exact rfl | exact Iff.rfl | exact ⟨rfl, rfl⟩ | exact decide_eq_true_iff | (constructor <;> first | rfl | simp [ei, eb, es, ec]) | simp [ei, eb, es, ec])) ?_)
      first | exact trivial | exact rfl
    · refine ob_ck H fun h56 H => ?_
      have hfin := fin_st H
      repeat (refine And.intro (Ob.mk (by first | (rw [← hfin] <;> first | exact rfl | exact Iff.rfl | exact ⟨rfl, rfl⟩ | exact decide_eq_true_iff | (constructor <;> first | rfl | simp [ei, eb, es, ec]) | simp [ei, eb, es, ec]) | first | exact rfl | exact Iff.rfl | exact ⟨rfl, rfl⟩ | exact decide_eq_true_iff | (constructor <;> first | rfl | simp [ei, eb, es, ec]) | simp [ei, eb, es, ec])) ?_)
      first | exact trivial | exact rfl

/-- placard/placardref15.sum -/
noncomputable def g71 (a0 : List Int) (a1 : Int) (a2 : Int) : Option (Int) :=
  jn (α := _) (β := Int) (fun k89 =>
      (loopO (σ := Int × Int) (ρ := Int) (fun s90 =>
          if s90.2 < a2 then
            (
              if s90.2 < ((a0.length : Nat) : Int) then
                (
                  ck (0 ≤ s90.2 ∧ s90.2 < ((a0.length : Nat) : Int)) <|
                  (g88 (a0.getD s90.2.toNat 0)).bind fun v110 =>
                  ck (inR .i64 (s90.1 + v110)) <|
                  ck (inR .i64 (s90.2 + 1)) <|
                  some (.go (s90.1 + v110, s90.2 + 1))
                )
              else
                some (.out s90.1)
            )
          else
            some (.out s90.1)
        ) (0, a1)).bind fun o106 =>
        k89 o106
  ) (fun v88 =>
    some v88
  )
noncomputable def k71 : Eng.CS := { f := 71, calm := true, more := 0, ι := (List Int) × Int × Int × Int, ok := fun i => g71 i.1 i.2.1 i.2.2.1 = some i.2.2.2, rds := fun _ => [], args := fun i => [.sl 1 i.1.length (ei .i64 i.1), .w (.v (.int .i64 (i.2.1))), .w (.v (.int .i64 (i.2.2.1)))], res := fun i => .v (.int .i64 (i.2.2.2)) }
set_option maxRecDepth 8000 in
set_option maxHeartbeats 4000000 in
theorem k71_ok : CalmOk Try.prog k71 := by
  refine R.calmspec Try.func71 nm71 rfl ?_
  rintro ⟨a0, a1, a2, r⟩ hok q _ args hargs
  match args, hargs with
  | [_, _, _], hargs =>
  obtain ⟨⟨A0, cp0, rfl, hc0, _, hR0⟩, rfl, rfl, _⟩ := hargs
  refine ⟨envC [k88] false [(71, 6)], 6, envC_ok (css_cons ⟨fun _ => k88_ok, fun h => (by cases h)⟩ (css_nil)), rfl, (by intro x hx; simp only [List.mem_cons, List.not_mem_nil, or_false] at hx; rcases hx with rfl | rfl | rfl <;> rfl), ?_⟩
  have H : Gives (g71 a0 a1 a2) (fun a => a = r) := ⟨r, hok, rfl⟩
  unfold g71 at H
  clear hok
  refine R.cut_fam H 15 [] [] (fun v88 => [(7, .v (.int .i64 (v88)))]) (fun v88 => []) [] 0 (fun H => ?_)
  refine And.intro ?_ ?_
  · refine R.loop_fam (bind_st H) [0, 2] [] (fun _ s90 => [(7, .v (.int .i64 (s90.1))), (8, .v (.int .i64 (s90.2)))]) (fun _ s90 => []) 0 (fun n114 H => ?_)
    refine ⟨(n114, _), ⟨H⟩, trivial, ?_⟩
    repeat (refine And.intro (Ob.mk (by first | exact rfl | exact Iff.rfl | exact ⟨rfl, rfl⟩ | exact decide_eq_true_iff | (constructor <;> first | rfl | simp [ei, eb, es, ec]) | simp [ei, eb, es, ec])) ?_)
    rintro ⟨m0, s90⟩ H _
    obtain ⟨m91, hm0, H⟩ := IG_succ H
    dsimp only at hm0
    subst hm0
    try dsimp only at H
    refine if_st H (fun h107 H => ?_) (fun h107 H => ?_)
    · refine if_st H (fun h108 H => ?_) (fun h108 H => ?_)
      · refine ob_ix hR0 (by rw [ei_len]; exact id) H fun h109 H => ?_
        refine ld_int (e := a0.getD s90.2.toNat 0) (rd_get hR0 (ei_get (l := a0) (tn h109))) ?_
        obtain ⟨v110, hv111, H⟩ := call_st H
        refine ⟨(a0.getD s90.2.toNat 0, v110), ⟨hv111⟩, ⟨trivial⟩, ?_⟩
        refine And.intro ⟨rfl⟩ ?_
        refine ob_ck H fun h112 H => ?_
        refine ob_ck H fun h113 H => ?_
        replace H := some_st H
        refine ⟨(m91, (s90.1 + v110, s90.2 + 1)), ⟨H, Nat.lt_succ_self _⟩, trivial, ⟨rfl⟩, ?_⟩
        repeat (refine And.intro (Ob.mk (by first | exact rfl | exact Iff.rfl | exact ⟨rfl, rfl⟩ | exact decide_eq_true_iff | (constructor <;> first | rfl | simp [ei, eb, es, ec]) | simp [ei, eb, es, ec])) ?_)
        first | exact trivial | exact rfl
      · replace H := some_st H
        dsimp only [stp, sm] at H
        refine ⟨s90.1, ⟨H⟩, ⟨rfl⟩, ?_⟩
        repeat (refine And.intro (Ob.mk (by first | exact rfl | exact Iff.rfl | exact ⟨rfl, rfl⟩ | exact decide_eq_true_iff | (constructor <;> first | rfl | simp [ei, eb, es, ec]) | simp [ei, eb, es, ec])) ?_)
        first | exact trivial | exact rfl
    · replace H := some_st H
      dsimp only [stp, sm] at H
      refine ⟨s90.1, ⟨H⟩, ⟨rfl⟩, ?_⟩
      repeat (refine And.intro (Ob.mk (by first | exact rfl | exact Iff.rfl | exact ⟨rfl, rfl⟩ | exact decide_eq_true_iff | (constructor <;> first | rfl | simp [ei, eb, es, ec]) | simp [ei, eb, es, ec])) ?_)
      first | exact trivial | exact rfl
  · intro v88 H
    have hfin := fin_st H
    repeat (refine And.intro (Ob.mk (by first | (rw [← hfin] <;> first | exact rfl | exact Iff.rfl | exact ⟨rfl, rfl⟩ | exact decide_eq_true_iff | (constructor <;> first | rfl | simp [ei, eb, es, ec]) | simp [ei, eb, es, ec]) | first | exact rfl | exact Iff.rfl | exact ⟨rfl, rfl⟩ | exact decide_eq_true_iff | (constructor <;> first | rfl | simp [ei, eb, es, ec]) | simp [ei, eb, es, ec])) ?_)
    first | exact trivial | exact rfl

/-- placard/window.Line -/
noncomputable def g26 (a0 : Int) (a1 : Int) (a2 : List Int) : Option (Int × Int) :=
  (g67 a0 0 ((a2.length : Nat) : Int)).bind fun v115 =>
  if a1 < 1 then
    some (v115, v115)
  else
    (
      (g68 v115 a2).bind fun v119 =>
      jn (α := _) (β := Int) (fun k169 =>
          (loopO (σ := Int × Int) (ρ := Int) (fun s170 =>
              if 0 < s170.1 then
                (
                  ck (inR .i64 (s170.1 - 1)) <|
                  ck (0 ≤ s170.1 - 1 ∧ s170.1 - 1 < ((a2.length : Nat) : Int)) <|
                  (g69 (a2.getD (s170.1 - 1).toNat 0)).bind fun v200 =>
                  ck (inR .i64 (a1 - v200)) <|
                  if s170.2 ≤ (a1 - v200) then
                    (
                      ck (inR .i64 (s170.1 - 1)) <|
                      ck (0 ≤ s170.1 - 1 ∧ s170.1 - 1 < ((a2.length : Nat) : Int)) <|
                      (g69 (a2.getD (s170.1 - 1).toNat 0)).bind fun v206 =>
                      ck (inR .i64 (s170.2 + v206)) <|
                      some (.go (s170.1 - 1, s170.2 + v206))
                    )
                  else
                    some (.out s170.1)
                )
              else
                some (.out s170.1)
            ) (v115, v119)).bind fun o196 =>
            k169 o196
      ) (fun v168 =>
        jn (α := _) (β := Int) (fun k254 =>
            (loopO (σ := Int × Int) (ρ := Int) (fun s255 =>
                if s255.1 < ((a2.length : Nat) : Int) then
                  (
                    ck (0 ≤ s255.1 ∧ s255.1 < ((a2.length : Nat) : Int)) <|
                    (g69 (a2.getD s255.1.toNat 0)).bind fun v282 =>
                    ck (inR .i64 (a1 - v282)) <|
                    if s255.2 ≤ (a1 - v282) then
                      (
                        ck (0 ≤ s255.1 ∧ s255.1 < ((a2.length : Nat) : Int)) <|
                        (g69 (a2.getD s255.1.toNat 0)).bind fun v287 =>
                        ck (inR .i64 (s255.2 + v287)) <|
                        ck (inR .i64 (s255.1 + 1)) <|
                        some (.go (s255.1 + 1, s255.2 + v287))
                      )
                    else
                      some (.out s255.1)
                  )
                else
                  some (.out s255.1)
              ) (v168, 0)).bind fun o279 =>
              k254 o279
        ) (fun v253 =>
          some (v168, v253)
        )
      )
    )
noncomputable def k26 : Eng.CS := { f := 26, calm := true, more := 0, ι := Int × Int × (List Int) × (Int × Int), ok := fun i => g26 i.1 i.2.1 i.2.2.1 = some i.2.2.2, rds := fun _ => [], args := fun i => [.w (.v (.int .i64 (i.1))), .w (.v (.int .i64 (i.2.1))), .sl 1 i.2.2.1.length (ei .i64 i.2.2.1)], res := fun i => .tup [.v (.int .i64 (i.2.2.2.1)), .v (.int .i64 (i.2.2.2.2))] }
set_option maxRecDepth 8000 in
set_option maxHeartbeats 4000000 in
theorem k26_ok : CalmOk Try.prog k26 := by
  refine R.calmspec Try.func26 nm26 rfl ?_
  rintro ⟨a0, a1, a2, r⟩ hok q _ args hargs
  match args, hargs with
  | [_, _, _], hargs =>
  obtain ⟨rfl, rfl, ⟨A2, cp2, rfl, hc2, _, hR2⟩, _⟩ := hargs
  refine ⟨envC [k67, k68, k69] false [(26, 9), (26, 14)], 6, envC_ok (css_cons ⟨fun _ => k67_ok, fun h => (by cases h)⟩ (css_cons ⟨fun _ => k68_ok, fun h => (by cases h)⟩ (css_cons ⟨fun _ => k69_ok, fun h => (by cases h)⟩ (css_nil)))), rfl, (by intro x hx; simp only [List.mem_cons, List.not_mem_nil, or_false] at hx; rcases hx with rfl | rfl | rfl <;> rfl), ?_⟩
  have H : Gives (g26 a0 a1 a2) (fun a => a = r) := ⟨r, hok, rfl⟩
  unfold g26 at H
  clear hok
  obtain ⟨v115, hv116, H⟩ := call_st H
  refine ⟨(a0, 0, ((a2.length : Nat) : Int), v115), ⟨hv116⟩, ⟨trivial⟩, ?_⟩
  refine And.intro ⟨rfl⟩ ?_
  refine And.intro ⟨rfl⟩ ?_
  refine And.intro ⟨rfl⟩ ?_
  refine if_st H (fun h118 H => ?_) (fun h118 H => ?_)
  · have hfin := fin_st H
    repeat (refine And.intro (Ob.mk (by first | (rw [← hfin] <;> first | exact rfl | exact Iff.rfl | exact ⟨rfl, rfl⟩ | exact decide_eq_true_iff | (constructor <;> first | rfl | simp [ei, eb, es, ec]) | simp [ei, eb, es, ec]) | first | exact rfl | exact Iff.rfl | exact ⟨rfl, rfl⟩ | exact decide_eq_true_iff | (constructor <;> first | rfl | simp [ei, eb, es, ec]) | simp [ei, eb, es, ec])) ?_)
    first | exact trivial | exact rfl
  · obtain ⟨v119, hv120, H⟩ := call_st H
    refine ⟨(v115, a2, v119), ⟨hv120⟩, ⟨trivial⟩, ?_⟩
    refine And.intro ⟨rfl⟩ ?_
    refine And.intro ⟨rfl, hc2, by simp [ei_len, Nat.mul_one], hR2⟩ ?_
    refine R.cut_fam H 31 [1, 2] [] (fun v168 => [(6, .v (.int .i64 (v168)))]) (fun v168 => []) [] 0 (fun H => ?_)
    refine And.intro ?_ ?_
    · refine R.loop_fam (bind_st H) [1, 2] [] (fun _ s170 => [(6, .v (.int .i64 (s170.1))), (9, .v (.int .i64 (s170.2)))]) (fun _ s170 => []) 0 (fun n209 H => ?_)
      refine ⟨(n209, _), ⟨H⟩, trivial, ?_⟩
      repeat (refine And.intro (Ob.mk (by first | exact rfl | exact Iff.rfl | exact ⟨rfl, rfl⟩ | exact decide_eq_true_iff | (constructor <;> first | rfl | simp [ei, eb, es, ec]) | simp [ei, eb, es, ec])) ?_)
      rintro ⟨m0, s170⟩ H _
      obtain ⟨m171, hm0, H⟩ := IG_succ H
      dsimp only at hm0
      subst hm0
      try dsimp only at H
      refine if_st H (fun h197 H => ?_) (fun h197 H => ?_)
      · refine ob_ck H fun h198 H => ?_
        refine ob_ix hR2 (by rw [ei_len]; exact id) H fun h199 H => ?_
        refine ld_int (e := a2.getD (s170.1 - 1).toNat 0) (rd_get hR2 (ei_get (l := a2) (tn h199))) ?_
        obtain ⟨v200, hv201, H⟩ := call_st H
        refine ⟨(a2.getD (s170.1 - 1).toNat 0, v200), ⟨hv201⟩, ⟨trivial⟩, ?_⟩
        refine And.intro ⟨rfl⟩ ?_
        refine ob_ck H fun h202 H => ?_
        refine if_st H (fun h203 H => ?_) (fun h203 H => ?_)
        · refine ob_ck H fun h204 H => ?_
          refine ob_ix hR2 (by rw [ei_len]; exact id) H fun h205 H => ?_
          refine ld_int (e := a2.getD (s170.1 - 1).toNat 0) (rd_get hR2 (ei_get (l := a2) (tn h205))) ?_
          obtain ⟨v206, hv207, H⟩ := call_st H
          refine ⟨(a2.getD (s170.1 - 1).toNat 0, v206), ⟨hv207⟩, ⟨trivial⟩, ?_⟩
          refine And.intro ⟨rfl⟩ ?_
          refine ob_ck H fun h208 H => ?_
          replace H := some_st H
          refine ⟨(m171, (s170.1 - 1, s170.2 + v206)), ⟨H, Nat.lt_succ_self _⟩, trivial, ⟨rfl⟩, ?_⟩
          repeat (refine And.intro (Ob.mk (by first | exact rfl | exact Iff.rfl | exact ⟨rfl, rfl⟩ | exact decide_eq_true_iff | (constructor <;> first | rfl | simp [ei, eb, es, ec]) | simp [ei, eb, es, ec])) ?_)
          first | exact trivial | exact rfl
        · replace H := some_st H
          dsimp only [stp, sm] at H
          refine ⟨s170.1, ⟨H⟩, ⟨rfl⟩, ?_⟩
          repeat (refine And.intro (Ob.mk (by first | exact rfl | exact Iff.rfl | exact ⟨rfl, rfl⟩ | exact decide_eq_true_iff | (constructor <;> first | rfl | simp [ei, eb, es, ec]) | simp [ei, eb, es, ec])) ?_)
          first | exact trivial | exact rfl
      · replace H := some_st H
        dsimp only [stp, sm] at H
        refine ⟨s170.1, ⟨H⟩, ⟨rfl⟩, ?_⟩
        repeat (refine And.intro (Ob.mk (by first | exact rfl | exact Iff.rfl | exact ⟨rfl, rfl⟩ | exact decide_eq_true_iff | (constructor <;> first | rfl | simp [ei, eb, es, ec]) | simp [ei, eb, es, ec])) ?_)
        first | exact trivial | exact rfl
    · intro v168 H
      refine R.cut_fam H 51 [6] [] (fun v253 => [(7, .v (.int .i64 (v253)))]) (fun v253 => []) [] 0 (fun H => ?_)
      refine And.intro ?_ ?_
      · refine R.loop_fam (bind_st H) [1, 2, 6] [] (fun _ s255 => [(7, .v (.int .i64 (s255.1))), (10, .v (.int .i64 (s255.2)))]) (fun _ s255 => []) 0 (fun n291 H => ?_)
        refine ⟨(n291, _), ⟨H⟩, trivial, ?_⟩
        repeat (refine And.intro (Ob.mk (by first | exact rfl | exact Iff.rfl | exact ⟨rfl, rfl⟩ | exact decide_eq_true_iff | (constructor <;> first | rfl | simp [ei, eb, es, ec]) | simp [ei, eb, es, ec])) ?_)
        rintro ⟨m0, s255⟩ H _
        obtain ⟨m256, hm0, H⟩ := IG_succ H
        dsimp only at hm0
        subst hm0
        try dsimp only at H
        refine if_st H (fun h280 H => ?_) (fun h280 H => ?_)
        · refine ob_ix hR2 (by rw [ei_len]; exact id) H fun h281 H => ?_
          refine ld_int (e := a2.getD s255.1.toNat 0) (rd_get hR2 (ei_get (l := a2) (tn h281))) ?_
          obtain ⟨v282, hv283, H⟩ := call_st H
          refine ⟨(a2.getD s255.1.toNat 0, v282), ⟨hv283⟩, ⟨trivial⟩, ?_⟩
          refine And.intro ⟨rfl⟩ ?_
          refine ob_ck H fun h284 H => ?_
          refine if_st H (fun h285 H => ?_) (fun h285 H => ?_)
          · refine ob_ix hR2 (by rw [ei_len]; exact id) H fun h286 H => ?_
            refine ld_int (e := a2.getD s255.1.toNat 0) (rd_get hR2 (ei_get (l := a2) (tn h286))) ?_
            obtain ⟨v287, hv288, H⟩ := call_st H
            refine ⟨(a2.getD s255.1.toNat 0, v287), ⟨hv288⟩, ⟨trivial⟩, ?_⟩
            refine And.intro ⟨rfl⟩ ?_
            refine ob_ck H fun h289 H => ?_
            refine ob_ck H fun h290 H => ?_
            replace H := some_st H
            refine ⟨(m256, (s255.1 + 1, s255.2 + v287)), ⟨H, Nat.lt_succ_self _⟩, trivial, ⟨rfl⟩, ?_⟩
            repeat (refine And.intro (Ob.mk (by first | exact rfl | exact Iff.rfl | exact ⟨rfl, rfl⟩ | exact decide_eq_true_iff | (constructor <;> first | rfl | simp [ei, eb, es, ec]) | simp [ei, eb, es, ec])) ?_)
            first | exact trivial | exact rfl
          · replace H := some_st H
            dsimp only [stp, sm] at H
            refine ⟨s255.1, ⟨H⟩, ⟨rfl⟩, ?_⟩
            repeat (refine And.intro (Ob.mk (by first | exact rfl | exact Iff.rfl | exact ⟨rfl, rfl⟩ | exact decide_eq_true_iff | (constructor <;> first | rfl | simp [ei, eb, es, ec]) | simp [ei, eb, es, ec])) ?_)
            first | exact trivial | exact rfl
        · replace H := some_st H
          dsimp only [stp, sm] at H
          refine ⟨s255.1, ⟨H⟩, ⟨rfl⟩, ?_⟩
          repeat (refine And.intro (Ob.mk (by first | exact rfl | exact Iff.rfl | exact ⟨rfl, rfl⟩ | exact decide_eq_true_iff | (constructor <;> first | rfl | simp [ei, eb, es, ec]) | simp [ei, eb, es, ec])) ?_)
          first | exact trivial | exact rfl
      · intro v253 H
        have hfin := fin_st H
        repeat (refine And.intro (Ob.mk (by first | (rw [← hfin] <;> first | exact rfl | exact Iff.rfl | exact ⟨rfl, rfl⟩ | exact decide_eq_true_iff | (constructor <;> first | rfl | simp [ei, eb, es, ec]) | simp [ei, eb, es, ec]) | first | exact rfl | exact Iff.rfl | exact ⟨rfl, rfl⟩ | exact decide_eq_true_iff | (constructor <;> first | rfl | simp [ei, eb, es, ec]) | simp [ei, eb, es, ec])) ?_)
        first | exact trivial | exact rfl
noncomputable def e26 (n : Nat) (a0 : Int) (a1 : Int) (a2 : List Int) : Option (Int × Int) :=
  (e67 n a0 0 ((a2.length : Nat) : Int)).bind fun v115 =>
  if a1 < 1 then
    some (v115, v115)
  else
    (
      (e68 n v115 a2).bind fun v119 =>
      jn (α := _) (β := Int) (fun k169 =>
          (itN n (σ := Int × Int) (ρ := Int) (fun s170 =>
              if 0 < s170.1 then
                (
                  ck (inR .i64 (s170.1 - 1)) <|
                  ck (0 ≤ s170.1 - 1 ∧ s170.1 - 1 < ((a2.length : Nat) : Int)) <|
                  (e69 n (a2.getD (s170.1 - 1).toNat 0)).bind fun v200 =>
                  ck (inR .i64 (a1 - v200)) <|
                  if s170.2 ≤ (a1 - v200) then
                    (
                      ck (inR .i64 (s170.1 - 1)) <|
                      ck (0 ≤ s170.1 - 1 ∧ s170.1 - 1 < ((a2.length : Nat) : Int)) <|
                      (e69 n (a2.getD (s170.1 - 1).toNat 0)).bind fun v206 =>
                      ck (inR .i64 (s170.2 + v206)) <|
                      some (.go (s170.1 - 1, s170.2 + v206))
                    )
                  else
                    some (.out s170.1)
                )
              else
                some (.out s170.1)
            ) (v115, v119)).bind fun o196 =>
            k169 o196
      ) (fun v168 =>
        jn (α := _) (β := Int) (fun k254 =>
            (itN n (σ := Int × Int) (ρ := Int) (fun s255 =>
                if s255.1 < ((a2.length : Nat) : Int) then
                  (
                    ck (0 ≤ s255.1 ∧ s255.1 < ((a2.length : Nat) : Int)) <|
                    (e69 n (a2.getD s255.1.toNat 0)).bind fun v282 =>
                    ck (inR .i64 (a1 - v282)) <|
                    if s255.2 ≤ (a1 - v282) then
                      (
                        ck (0 ≤ s255.1 ∧ s255.1 < ((a2.length : Nat) : Int)) <|
                        (e69 n (a2.getD s255.1.toNat 0)).bind fun v287 =>
                        ck (inR .i64 (s255.2 + v287)) <|
                        ck (inR .i64 (s255.1 + 1)) <|
                        some (.go (s255.1 + 1, s255.2 + v287))
                      )
                    else
                      some (.out s255.1)
                  )
                else
                  some (.out s255.1)
              ) (v168, 0)).bind fun o279 =>
              k254 o279
        ) (fun v253 =>
          some (v168, v253)
        )
      )
    )
theorem e26_le (n : Nat) (a0 : Int) (a1 : Int) (a2 : List Int) : Le (e26 n a0 a1 a2) (g26 a0 a1 a2) := by
  unfold e26 g26
  repeat' first | exact e67_le _ _ _ _ | exact e68_le _ _ _ | exact e69_le _ _ | refine le_bind ?_ (fun _ => ?_) | refine le_ck ?_ | refine le_if ?_ ?_ | refine le_sm (fun _ => ?_) (fun _ => ?_) | refine le_jn (fun _ _ _ => ?_) (fun _ => ?_) | refine le_loop (fun _ => ?_) | with_reducible exact le_refl | apply_assumption

/-- placard/placardref15.Line -/
noncomputable def g27 (a0 : Int) (a1 : Int) (a2 : List Int) : Option (Int × Int) :=
  (g70 a0 a2).bind fun v292 =>
  if a1 < 1 then
    some (v292, v292)
  else
    (
      jn (α := _) (β := Int) (fun k332 =>
          (loopO (σ := Int) (ρ := Int) (fun s333 =>
              if s333 < v292 then
                (
                  (g71 a2 s333 v292).bind fun v353 =>
                  (g72 v292 a2).bind fun v355 =>
                  ck (inR .i64 (v353 + v355)) <|
                  if a1 < (v353 + v355) then
                    (
                      ck (inR .i64 (s333 + 1)) <|
                      some (.go (s333 + 1))
                    )
                  else
                    some (.out s333)
                )
              else
                some (.out s333)
            ) 0).bind fun o351 =>
            k332 o351
      ) (fun v331 =>
        jn (α := _) (β := Int) (fun k389 =>
            (loopO (σ := Int) (ρ := Int) (fun s390 =>
                if s390 < ((a2.length : Nat) : Int) then
                  (
                    ck (inR .i64 (s390 + 1)) <|
                    (g71 a2 v331 (s390 + 1)).bind fun v407 =>
                    if v407 ≤ a1 then
                      (
                        ck (inR .i64 (s390 + 1)) <|
                        some (.go (s390 + 1))
                      )
                    else
                      some (.out s390)
                  )
                else
                  some (.out s390)
              ) v331).bind fun o404 =>
              k389 o404
        ) (fun v388 =>
          some (v331, v388)
        )
      )
    )
noncomputable def k27 : Eng.CS := { f := 27, calm := true, more := 0, ι := Int × Int × (List Int) × (Int × Int), ok := fun i => g27 i.1 i.2.1 i.2.2.1 = some i.2.2.2, rds := fun _ => [], args := fun i => [.w (.v (.int .i64 (i.1))), .w (.v (.int .i64 (i.2.1))), .sl 1 i.2.2.1.length (ei .i64 i.2.2.1)], res := fun i => .tup [.v (.int .i64 (i.2.2.2.1)), .v (.int .i64 (i.2.2.2.2))] }
set_option maxRecDepth 8000 in
set_option maxHeartbeats 4000000 in
theorem k27_ok : CalmOk Try.prog k27 := by
  refine R.calmspec Try.func27 nm27 rfl ?_
  rintro ⟨a0, a1, a2, r⟩ hok q _ args hargs
  match args, hargs with
  | [_, _, _], hargs =>
  obtain ⟨rfl, rfl, ⟨A2, cp2, rfl, hc2, _, hR2⟩, _⟩ := hargs
  refine ⟨envC [k70, k71, k72] false [(27, 7), (27, 10)], 6, envC_ok (css_cons ⟨fun _ => k70_ok, fun h => (by cases h)⟩ (css_cons ⟨fun _ => k71_ok, fun h => (by cases h)⟩ (css_cons ⟨fun _ => k72_ok, fun h => (by cases h)⟩ (css_nil)))), rfl, (by intro x hx; simp only [List.mem_cons, List.not_mem_nil, or_false] at hx; rcases hx with rfl | rfl | rfl <;> rfl), ?_⟩
  have H : Gives (g27 a0 a1 a2) (fun a => a = r) := ⟨r, hok, rfl⟩
  unfold g27 at H
  clear hok
  obtain ⟨v292, hv293, H⟩ := call_st H
  refine ⟨(a0, a2, v292), ⟨hv293⟩, ⟨trivial⟩, ?_⟩
  refine And.intro ⟨rfl⟩ ?_
  refine And.intro ⟨rfl, hc2, by simp [ei_len, Nat.mul_one], hR2⟩ ?_
  refine if_st H (fun h295 H => ?_) (fun h295 H => ?_)
  · have hfin := fin_st H
    repeat (refine And.intro (Ob.mk (by first | (rw [← hfin] <;> first | exact rfl | exact Iff.rfl | exact ⟨rfl, rfl⟩ | exact decide_eq_true_iff | (constructor <;> first | rfl | simp [ei, eb, es, ec]) | simp [ei, eb, es, ec]) | first | exact rfl | exact Iff.rfl | exact ⟨rfl, rfl⟩ | exact decide_eq_true_iff | (constructor <;> first | rfl | simp [ei, eb, es, ec]) | simp [ei, eb, es, ec])) ?_)
    first | exact trivial | exact rfl
  · refine R.cut_fam H 26 [1, 2] [] (fun v331 => [(9, .v (.int .i64 (v331)))]) (fun v331 => []) [] 0 (fun H => ?_)
    refine And.intro ?_ ?_
    · refine R.loop_fam (bind_st H) [1, 2, 8] [] (fun _ s333 => [(9, .v (.int .i64 (s333)))]) (fun _ s333 => []) 0 (fun n360 H => ?_)
      refine ⟨(n360, _), ⟨H⟩, trivial, ?_⟩
      repeat (refine And.intro (Ob.mk (by first | exact rfl | exact Iff.rfl | exact ⟨rfl, rfl⟩ | exact decide_eq_true_iff | (constructor <;> first | rfl | simp [ei, eb, es, ec]) | simp [ei, eb, es, ec])) ?_)
      rintro ⟨m0, s333⟩ H _
      obtain ⟨m334, hm0, H⟩ := IG_succ H
      dsimp only at hm0
      subst hm0
      try dsimp only at H
      refine if_st H (fun h352 H => ?_) (fun h352 H => ?_)
      · obtain ⟨v353, hv354, H⟩ := call_st H
        refine ⟨(a2, s333, v292, v353), ⟨hv354⟩, ⟨trivial⟩, ?_⟩
        refine And.intro ⟨rfl, hc2, by simp [ei_len, Nat.mul_one], hR2⟩ ?_
        refine And.intro ⟨rfl⟩ ?_
        refine And.intro ⟨rfl⟩ ?_
        obtain ⟨v355, hv356, H⟩ := call_st H
        refine ⟨(v292, a2, v355), ⟨hv356⟩, ⟨trivial⟩, ?_⟩
        refine And.intro ⟨rfl⟩ ?_
        refine And.intro ⟨rfl, hc2, by simp [ei_len, Nat.mul_one], hR2⟩ ?_
        refine ob_ck H fun h357 H => ?_
        refine if_st H (fun h358 H => ?_) (fun h358 H => ?_)
        · refine ob_ck H fun h359 H => ?_
          replace H := some_st H
          refine ⟨(m334, s333 + 1), ⟨H, Nat.lt_succ_self _⟩, trivial, ⟨rfl⟩, ?_⟩
          repeat (refine And.intro (Ob.mk (by first | exact rfl | exact Iff.rfl | exact ⟨rfl, rfl⟩ | exact decide_eq_true_iff | (constructor <;> first | rfl | simp [ei, eb, es, ec]) | simp [ei, eb, es, ec])) ?_)
          first | exact trivial | exact rfl
        · replace H := some_st H
          dsimp only [stp, sm] at H
          refine ⟨s333, ⟨H⟩, ⟨rfl⟩, ?_⟩
          repeat (refine And.intro (Ob.mk (by first | exact rfl | exact Iff.rfl | exact ⟨rfl, rfl⟩ | exact decide_eq_true_iff | (constructor <;> first | rfl | simp [ei, eb, es, ec]) | simp [ei, eb, es, ec])) ?_)
          first | exact trivial | exact rfl
      · replace H := some_st H
        dsimp only [stp, sm] at H
        refine ⟨s333, ⟨H⟩, ⟨rfl⟩, ?_⟩
        repeat (refine And.intro (Ob.mk (by first | exact rfl | exact Iff.rfl | exact ⟨rfl, rfl⟩ | exact decide_eq_true_iff | (constructor <;> first | rfl | simp [ei, eb, es, ec]) | simp [ei, eb, es, ec])) ?_)
        first | exact trivial | exact rfl
    · intro v331 H
      refine R.cut_fam H 43 [9] [] (fun v388 => [(10, .v (.int .i64 (v388)))]) (fun v388 => []) [] 0 (fun H => ?_)
      refine And.intro ?_ ?_
      · refine R.loop_fam (bind_st H) [1, 2, 9] [] (fun _ s390 => [(10, .v (.int .i64 (s390)))]) (fun _ s390 => []) 0 (fun n411 H => ?_)
        refine ⟨(n411, _), ⟨H⟩, trivial, ?_⟩
        repeat (refine And.intro (Ob.mk (by first | exact rfl | exact Iff.rfl | exact ⟨rfl, rfl⟩ | exact decide_eq_true_iff | (constructor <;> first | rfl | simp [ei, eb, es, ec]) | simp [ei, eb, es, ec])) ?_)
        rintro ⟨m0, s390⟩ H _
        obtain ⟨m391, hm0, H⟩ := IG_succ H
        dsimp only at hm0
        subst hm0
        try dsimp only at H
        refine if_st H (fun h405 H => ?_) (fun h405 H => ?_)
        · refine ob_ck H fun h406 H => ?_
          obtain ⟨v407, hv408, H⟩ := call_st H
          refine ⟨(a2, v331, s390 + 1, v407), ⟨hv408⟩, ⟨trivial⟩, ?_⟩
          refine And.intro ⟨rfl, hc2, by simp [ei_len, Nat.mul_one], hR2⟩ ?_
          refine And.intro ⟨rfl⟩ ?_
          refine And.intro ⟨rfl⟩ ?_
          refine if_st H (fun h409 H => ?_) (fun h409 H => ?_)
          · refine ob_ck H fun h410 H => ?_
            replace H := some_st H
            refine ⟨(m391, s390 + 1), ⟨H, Nat.lt_succ_self _⟩, trivial, ⟨rfl⟩, ?_⟩
            repeat (refine And.intro (Ob.mk (by first | exact rfl | exact Iff.rfl | exact ⟨rfl, rfl⟩ | exact decide_eq_true_iff | (constructor <;> first | rfl | simp [ei, eb, es, ec]) | simp [ei, eb, es, ec])) ?_)
            first | exact trivial | exact rfl
          · replace H := some_st H
            dsimp only [stp, sm] at H
            refine ⟨s390, ⟨H⟩, ⟨rfl⟩, ?_⟩
            repeat (refine And.intro (Ob.mk (by first | exact rfl | exact Iff.rfl | exact ⟨rfl, rfl⟩ | exact decide_eq_true_iff | (constructor <;> first | rfl | simp [ei, eb, es, ec]) | simp [ei, eb, es, ec])) ?_)
            first | exact trivial | exact rfl
        · replace H := some_st H
          dsimp only [stp, sm] at H
          refine ⟨s390, ⟨H⟩, ⟨rfl⟩, ?_⟩
          repeat (refine And.intro (Ob.mk (by first | exact rfl | exact Iff.rfl | exact ⟨rfl, rfl⟩ | exact decide_eq_true_iff | (constructor <;> first | rfl | simp [ei, eb, es, ec]) | simp [ei, eb, es, ec])) ?_)
          first | exact trivial | exact rfl
      · intro v388 H
        have hfin := fin_st H
        repeat (refine And.intro (Ob.mk (by first | (rw [← hfin] <;> first | exact rfl | exact Iff.rfl | exact ⟨rfl, rfl⟩ | exact decide_eq_true_iff | (constructor <;> first | rfl | simp [ei, eb, es, ec]) | simp [ei, eb, es, ec]) | first | exact rfl | exact Iff.rfl | exact ⟨rfl, rfl⟩ | exact decide_eq_true_iff | (constructor <;> first | rfl | simp [ei, eb, es, ec]) | simp [ei, eb, es, ec])) ?_)
        first | exact trivial | exact rfl

/-- placard/placardref15.Column -/
noncomputable def g29 (a0 : Int) (a1 : Int) (a2 : List Int) : Option (Int) :=
  (g70 a0 a2).bind fun v412 =>
  if a1 < 0 then
    some 0
  else
    (
      if v412 < a1 then
        some 0
      else
        (
          (g71 a2 a1 v412).bind fun v419 =>
          some v419
        )
    )
noncomputable def k29 : Eng.CS := { f := 29, calm := true, more := 0, ι := Int × Int × (List Int) × Int, ok := fun i => g29 i.1 i.2.1 i.2.2.1 = some i.2.2.2, rds := fun _ => [], args := fun i => [.w (.v (.int .i64 (i.1))), .w (.v (.int .i64 (i.2.1))), .sl 1 i.2.2.1.length (ei .i64 i.2.2.1)], res := fun i => .v (.int .i64 (i.2.2.2)) }
set_option maxRecDepth 8000 in
set_option maxHeartbeats 4000000 in
theorem k29_ok : CalmOk Try.prog k29 := by
  refine R.calmspec Try.func29 nm29 rfl ?_
  rintro ⟨a0, a1, a2, r⟩ hok q _ args hargs
  match args, hargs with
  | [_, _, _], hargs =>
  obtain ⟨rfl, rfl, ⟨A2, cp2, rfl, hc2, _, hR2⟩, _⟩ := hargs
  refine ⟨envC [k70, k71] false [], 6, envC_ok (css_cons ⟨fun _ => k70_ok, fun h => (by cases h)⟩ (css_cons ⟨fun _ => k71_ok, fun h => (by cases h)⟩ (css_nil))), rfl, (by intro x hx; simp only [List.mem_cons, List.not_mem_nil, or_false] at hx; rcases hx with rfl | rfl | rfl <;> rfl), ?_⟩
  have H : Gives (g29 a0 a1 a2) (fun a => a = r) := ⟨r, hok, rfl⟩
  unfold g29 at H
  clear hok
  obtain ⟨v412, hv413, H⟩ := call_st H
  refine ⟨(a0, a2, v412), ⟨hv413⟩, ⟨trivial⟩, ?_⟩
  refine And.intro ⟨rfl⟩ ?_
  refine And.intro ⟨rfl, hc2, by simp [ei_len, Nat.mul_one], hR2⟩ ?_
  refine if_st H (fun h417 H => ?_) (fun h417 H => ?_)
  · have hfin := fin_st H
    repeat (refine And.intro (Ob.mk (by first | (rw [← hfin] <;> first | exact rfl | exact Iff.rfl | exact ⟨rfl, rfl⟩ | exact decide_eq_true_iff | (constructor <;> first | rfl | simp [ei, eb, es, ec]) | simp [ei, eb, es, ec]) | first | exact rfl | exact Iff.rfl | exact ⟨rfl, rfl⟩ | exact decide_eq_true_iff | (constructor <;> first | rfl | simp [ei, eb, es, ec]) | simp [ei, eb, es, ec])) ?_)
    first | exact trivial | exact rfl
  · refine if_st H (fun h418 H => ?_) (fun h418 H => ?_)
    · have hfin := fin_st H
      repeat (refine And.intro (Ob.mk (by first | (rw [← hfin] <;> first | exact rfl | exact Iff.rfl | exact ⟨rfl, rfl⟩ | exact decide_eq_true_iff | (constructor <;> first | rfl | simp [ei, eb, es, ec]) | simp [ei, eb, es, ec]) | first | exact rfl | exact Iff.rfl | exact ⟨rfl, rfl⟩ | exact decide_eq_true_iff | (constructor <;> first | rfl | simp [ei, eb, es, ec]) | simp [ei, eb, es, ec])) ?_)
      first | exact trivial | exact rfl
    · obtain ⟨v419, hv420, H⟩ := call_st H
      refine ⟨(a2, a1, v412, v419), ⟨hv420⟩, ⟨trivial⟩, ?_⟩
      refine And.intro ⟨rfl, hc2, by simp [ei_len, Nat.mul_one], hR2⟩ ?_
      refine And.intro ⟨rfl⟩ ?_
      refine And.intro ⟨rfl⟩ ?_
      have hfin := fin_st H
      repeat (refine And.intro (Ob.mk (by first | (rw [← hfin] <;> first | exact rfl | exact Iff.rfl | exact ⟨rfl, rfl⟩ | exact decide_eq_true_iff | (constructor <;> first | rfl | simp [ei, eb, es, ec]) | simp [ei, eb, es, ec]) | first | exact rfl | exact Iff.rfl | exact ⟨rfl, rfl⟩ | exact decide_eq_true_iff | (constructor <;> first | rfl | simp [ei, eb, es, ec]) | simp [ei, eb, es, ec])) ?_)
      first | exact trivial | exact rfl

end Go.Proofs.Ytcnofjjiepcpjaa
