/-
  Functions of the program, lifted: each with its walk. Printed by lift.py.
  Nothing here is trusted.
-/
import Derived.Test.YtcnofjjiepcpjaaEngT
import Derived.Test.YtcnofjjiepcpjaaEngLc
set_option linter.unusedVariables false
set_option linter.unusedSimpArgs false
namespace Go.Proofs.Ytcnofjjiepcpjaa
open Go Go.Eng

/-- placard/runes.shapeOf -/
noncomputable def g57 (a0 : Int) : Option ((Int × Int × Int × Int)) :=
  if a0 < 128 then
    (
      ck (inR .i32 a0) <|
      some (1, 0, 0, a0)
    )
  else
    (
      if a0 < 194 then
        some (0, 0, 0, 0)
      else
        (
          if a0 < 224 then
            (
              ck (inR .i32 (bits .and .u8 a0 31)) <|
              some (2, 128, 191, bits .and .u8 a0 31)
            )
          else
            (
              if a0 = 224 then
                some (3, 160, 191, 0)
              else
                (
                  if a0 = 237 then
                    some (3, 128, 159, 13)
                  else
                    (
                      if a0 < 240 then
                        (
                          ck (inR .i32 (bits .and .u8 a0 15)) <|
                          some (3, 128, 191, bits .and .u8 a0 15)
                        )
                      else
                        (
                          if a0 = 240 then
                            some (4, 144, 191, 0)
                          else
                            (
                              if a0 < 244 then
                                (
                                  ck (inR .i32 (bits .and .u8 a0 7)) <|
                                  some (4, 128, 191, bits .and .u8 a0 7)
                                )
                              else
                                (
                                  if a0 = 244 then
                                    some (4, 128, 143, 4)
                                  else
                                    some (0, 0, 0, 0)
                                )
                            )
                        )
                    )
                )
            )
        )
    )
noncomputable def k57 : Eng.CS := { f := 57, calm := true, more := 0, ι := Int × (Int × Int × Int × Int), ok := fun i => g57 i.1 = some i.2, rds := fun _ => [], args := fun i => [.w (.v (.int .u8 (i.1)))], res := fun i => .agg [.v (.int .i64 (i.2.1)), .v (.int .u8 (i.2.2.1)), .v (.int .u8 (i.2.2.2.1)), .v (.int .i32 (i.2.2.2.2))] }
set_option maxRecDepth 8000 in
set_option maxHeartbeats 4000000 in
theorem k57_ok : CalmOk Try.prog k57 := by
  refine R.calmspec Try.func57 nm57 rfl ?_
  rintro ⟨a0, r⟩ hok q _ args hargs
  match args, hargs with
  | [_], hargs =>
  obtain ⟨rfl, _⟩ := hargs
  refine ⟨envC [] false [], 6, envC_ok (css_nil), rfl, (by intro x hx; simp only [List.mem_cons, List.not_mem_nil, or_false] at hx; rcases hx with rfl <;> rfl), ?_⟩
  have H : Gives (g57 a0) (fun a => a = r) := ⟨r, hok, rfl⟩
  unfold g57 at H
  clear hok
  refine if_st H (fun h14 H => ?_) (fun h14 H => ?_)
  · refine ob_ck H fun h15 H => ?_
    have hfin := fin_st H
    repeat (refine And.intro (Ob.mk (by first | (rw [← hfin] <;> first | exact rfl | exact Iff.rfl | exact ⟨rfl, rfl⟩ | exact decide_eq_true_iff | (constructor <;> first | rfl | simp [ei, eb, es, ec]) | simp [ei, eb, es, ec]) | first | exact rfl | exact Iff.rfl | exact ⟨rfl, rfl⟩ | exact decide_eq_true_iff | (constructor <;> first | rfl | simp [ei, eb, es, ec]) | simp [ei, eb, es, ec])) ?_)
    first | exact trivial | exact rfl
  · refine if_st H (fun h16 H => ?_) (fun h16 H => ?_)
    · have hfin := fin_st H
      repeat (refine And.intro (Ob.mk (by first | (rw [← hfin] <;> first | exact rfl | exact Iff.rfl | exact ⟨rfl, rfl⟩ | exact decide_eq_true_iff | (constructor <;> first | rfl | simp [ei, eb, es, ec]) | simp [ei, eb, es, ec]) | first | exact rfl | exact Iff.rfl | exact ⟨rfl, rfl⟩ | exact decide_eq_true_iff | (constructor <;> first | rfl | simp [ei, eb, es, ec]) | simp [ei, eb, es, ec])) ?_)
      first | exact trivial | exact rfl
    · refine if_st H (fun h17 H => ?_) (fun h17 H => ?_)
      · refine ob_ck H fun h18 H => ?_
        have hfin := fin_st H
        repeat (refine And.intro (Ob.mk (by first | (rw [← hfin] <;> first | exact rfl | exact Iff.rfl | exact ⟨rfl, rfl⟩ | exact decide_eq_true_iff | (constructor <;> first | rfl | simp [ei, eb, es, ec]) | simp [ei, eb, es, ec]) | first | exact rfl | exact Iff.rfl | exact ⟨rfl, rfl⟩ | exact decide_eq_true_iff | (constructor <;> first | rfl | simp [ei, eb, es, ec]) | simp [ei, eb, es, ec])) ?_)
        first | exact trivial | exact rfl
      · refine if_st H (fun h19 H => ?_) (fun h19 H => ?_)
        · have hfin := fin_st H
          repeat (refine And.intro (Ob.mk (by first | (rw [← hfin] <;> first | exact rfl | exact Iff.rfl | exact ⟨rfl, rfl⟩ | exact decide_eq_true_iff | (constructor <;> first | rfl | simp [ei, eb, es, ec]) | simp [ei, eb, es, ec]) | first | exact rfl | exact Iff.rfl | exact ⟨rfl, rfl⟩ | exact decide_eq_true_iff | (constructor <;> first | rfl | simp [ei, eb, es, ec]) | simp [ei, eb, es, ec])) ?_)
          first | exact trivial | exact rfl
        · refine if_st H (fun h20 H => ?_) (fun h20 H => ?_)
          · have hfin := fin_st H
            repeat (refine And.intro (Ob.mk (by first | (rw [← hfin] <;> first | exact rfl | exact Iff.rfl | exact ⟨rfl, rfl⟩ | exact decide_eq_true_iff | (constructor <;> first | rfl | simp [ei, eb, es, ec]) | simp [ei, eb, es, ec]) | first | exact rfl | exact Iff.rfl | exact ⟨rfl, rfl⟩ | exact decide_eq_true_iff | (constructor <;> first | rfl | simp [ei, eb, es, ec]) | simp [ei, eb, es, ec])) ?_)
            first | exact trivial | exact rfl
          · refine if_st H (fun h21 H => ?_) (fun h21 H => ?_)
            · refine ob_ck H fun h22 H => ?_
              have hfin := fin_st H
              repeat (refine And.intro (Ob.mk (by first | (rw [← hfin] <;> first | exact rfl | exact Iff.rfl | exact ⟨rfl, rfl⟩ | exact decide_eq_true_iff | (constructor <;> first | rfl | simp [ei, eb, es, ec]) | simp [ei, eb, es, ec]) | first | exact rfl | exact Iff.rfl | exact ⟨rfl, rfl⟩ | exact decide_eq_true_iff | (constructor <;> first | rfl | simp [ei, eb, es, ec]) | simp [ei, eb, es, ec])) ?_)
              first | exact trivial | exact rfl
            · refine if_st H (fun h23 H => ?_) (fun h23 H => ?_)
              · have hfin := fin_st H
                repeat (refine And.intro (Ob.mk (by first | (rw [← hfin] <;> first | exact rfl | exact Iff.rfl | exact ⟨rfl, rfl⟩ | exact decide_eq_true_iff | (constructor <;> first | rfl | simp [ei, eb, es, ec]) | simp [ei, eb, es, ec]) | first | exact rfl | exact Iff.rfl | exact ⟨rfl, rfl⟩ | exact decide_eq_true_iff | (constructor <;> first | rfl | simp [ei, eb, es, ec]) | simp [ei, eb, es, ec])) ?_)
                first | exact trivial | exact rfl
              · refine if_st H (fun h24 H => ?_) (fun h24 H => ?_)
                · refine ob_ck H fun h25 H => ?_
                  have hfin := fin_st H
                  repeat (refine And.intro (Ob.mk (by first | (rw [← hfin] <;> first | exact rfl | exact Iff.rfl | exact ⟨rfl, rfl⟩ | exact decide_eq_true_iff | (constructor <;> first | rfl | simp [ei, eb, es, ec]) | simp [ei, eb, es, ec]) | first | exact rfl | exact Iff.rfl | exact ⟨rfl, rfl⟩ | exact decide_eq_true_iff | (constructor <;> first | rfl | simp [ei, eb, es, ec]) | simp [ei, eb, es, ec])) ?_)
                  first | exact trivial | exact rfl
                · refine if_st H (fun h26 H => ?_) (fun h26 H => ?_)
                  · have hfin := fin_st H
                    repeat (refine And.intro (Ob.mk (by first | (rw [← hfin] <;> first | exact rfl | exact Iff.rfl | exact ⟨rfl, rfl⟩ | exact decide_eq_true_iff | (constructor <;> first | rfl | simp [ei, eb, es, ec]) | simp [ei, eb, es, ec]) | first | exact rfl | exact Iff.rfl | exact ⟨rfl, rfl⟩ | exact decide_eq_true_iff | (constructor <;> first | rfl | simp [ei, eb, es, ec]) | simp [ei, eb, es, ec])) ?_)
                    first | exact trivial | exact rfl
                  · have hfin := fin_st H
                    repeat (refine And.intro (Ob.mk (by first | (rw [← hfin] <;> first | exact rfl | exact Iff.rfl | exact ⟨rfl, rfl⟩ | exact decide_eq_true_iff | (constructor <;> first | rfl | simp [ei, eb, es, ec]) | simp [ei, eb, es, ec]) | first | exact rfl | exact Iff.rfl | exact ⟨rfl, rfl⟩ | exact decide_eq_true_iff | (constructor <;> first | rfl | simp [ei, eb, es, ec]) | simp [ei, eb, es, ec])) ?_)
                    first | exact trivial | exact rfl
noncomputable def e57 (n : Nat) (a0 : Int) : Option ((Int × Int × Int × Int)) :=
  if a0 < 128 then
    (
      ck (inR .i32 a0) <|
      some (1, 0, 0, a0)
    )
  else
    (
      if a0 < 194 then
        some (0, 0, 0, 0)
      else
        (
          if a0 < 224 then
            (
              ck (inR .i32 (bits .and .u8 a0 31)) <|
              some (2, 128, 191, bits .and .u8 a0 31)
            )
          else
            (
              if a0 = 224 then
                some (3, 160, 191, 0)
              else
                (
                  if a0 = 237 then
                    some (3, 128, 159, 13)
                  else
                    (
                      if a0 < 240 then
                        (
                          ck (inR .i32 (bits .and .u8 a0 15)) <|
                          some (3, 128, 191, bits .and .u8 a0 15)
                        )
                      else
                        (
                          if a0 = 240 then
                            some (4, 144, 191, 0)
                          else
                            (
                              if a0 < 244 then
                                (
                                  ck (inR .i32 (bits .and .u8 a0 7)) <|
                                  some (4, 128, 191, bits .and .u8 a0 7)
                                )
                              else
                                (
                                  if a0 = 244 then
                                    some (4, 128, 143, 4)
                                  else
                                    some (0, 0, 0, 0)
                                )
                            )
                        )
                    )
                )
            )
        )
    )
theorem e57_le (n : Nat) (a0 : Int) : Le (e57 n a0) (g57 a0) := by
  unfold e57 g57
  repeat' first | refine le_bind ?_ (fun _ => ?_) | refine le_ck ?_ | refine le_if ?_ ?_ | refine le_sm (fun _ => ?_) (fun _ => ?_) | refine le_jn (fun _ _ _ => ?_) (fun _ => ?_) | refine le_loop (fun _ => ?_) | with_reducible exact le_refl | apply_assumption

/-- placard/runes.isRune -/
noncomputable def g61 (a0 : Int) : Option (Bool) :=
  if 0 ≤ a0 then
    (
      if a0 ≤ 1114111 then
        (
          if a0 < 55296 then
            some true
          else
            some (decide (57343 < a0))
        )
      else
        some false
    )
  else
    some false
noncomputable def k61 : Eng.CS := { f := 61, calm := true, more := 0, ι := Int × Bool, ok := fun i => g61 i.1 = some i.2, rds := fun _ => [], args := fun i => [.w (.v (.int .i32 (i.1)))], res := fun i => bS i.2 }
set_option maxRecDepth 8000 in
set_option maxHeartbeats 4000000 in
theorem k61_ok : CalmOk Try.prog k61 := by
  refine R.calmspec Try.func61 nm61 rfl ?_
  rintro ⟨a0, r⟩ hok q _ args hargs
  match args, hargs with
  | [_], hargs =>
  obtain ⟨rfl, _⟩ := hargs
  refine ⟨envC [] false [], 6, envC_ok (css_nil), rfl, (by intro x hx; simp only [List.mem_cons, List.not_mem_nil, or_false] at hx; rcases hx with rfl <;> rfl), ?_⟩
  have H : Gives (g61 a0) (fun a => a = r) := ⟨r, hok, rfl⟩
  unfold g61 at H
  clear hok
  refine if_st H (fun h27 H => ?_) (fun h27 H => ?_)
  · refine if_st H (fun h28 H => ?_) (fun h28 H => ?_)
    · refine if_st H (fun h29 H => ?_) (fun h29 H => ?_)
      · have hfin := fin_st H
        repeat (refine And.intro (Ob.mk (by first | (rw [← hfin] <;> first | exact rfl | exact Iff.rfl | exact ⟨rfl, rfl⟩ | exact decide_eq_true_iff | (constructor <;> first | rfl | simp [ei, eb, es, ec]) | simp [ei, eb, es, ec]) | first | exact rfl | exact Iff.rfl | exact ⟨rfl, rfl⟩ | exact decide_eq_true_iff | (constructor <;> first | rfl | simp [ei, eb, es, ec]) | simp [ei, eb, es, ec])) ?_)
        first | exact trivial | exact rfl
      · have hfin := fin_st H
        repeat (refine And.intro (Ob.mk (by first | (rw [← hfin] <;> first | exact rfl | exact Iff.rfl | exact ⟨rfl, rfl⟩ | exact decide_eq_true_iff | (constructor <;> first | rfl | simp [ei, eb, es, ec]) | simp [ei, eb, es, ec]) | first | exact rfl | exact Iff.rfl | exact ⟨rfl, rfl⟩ | exact decide_eq_true_iff | (constructor <;> first | rfl | simp [ei, eb, es, ec]) | simp [ei, eb, es, ec])) ?_)
        first | exact trivial | exact rfl
    · have hfin := fin_st H
      repeat (refine And.intro (Ob.mk (by first | (rw [← hfin] <;> first | exact rfl | exact Iff.rfl | exact ⟨rfl, rfl⟩ | exact decide_eq_true_iff | (constructor <;> first | rfl | simp [ei, eb, es, ec]) | simp [ei, eb, es, ec]) | first | exact rfl | exact Iff.rfl | exact ⟨rfl, rfl⟩ | exact decide_eq_true_iff | (constructor <;> first | rfl | simp [ei, eb, es, ec]) | simp [ei, eb, es, ec])) ?_)
      first | exact trivial | exact rfl
  · have hfin := fin_st H
    repeat (refine And.intro (Ob.mk (by first | (rw [← hfin] <;> first | exact rfl | exact Iff.rfl | exact ⟨rfl, rfl⟩ | exact decide_eq_true_iff | (constructor <;> first | rfl | simp [ei, eb, es, ec]) | simp [ei, eb, es, ec]) | first | exact rfl | exact Iff.rfl | exact ⟨rfl, rfl⟩ | exact decide_eq_true_iff | (constructor <;> first | rfl | simp [ei, eb, es, ec]) | simp [ei, eb, es, ec])) ?_)
    first | exact trivial | exact rfl
noncomputable def e61 (n : Nat) (a0 : Int) : Option (Bool) :=
  if 0 ≤ a0 then
    (
      if a0 ≤ 1114111 then
        (
          if a0 < 55296 then
            some true
          else
            some (decide (57343 < a0))
        )
      else
        some false
    )
  else
    some false
theorem e61_le (n : Nat) (a0 : Int) : Le (e61 n a0) (g61 a0) := by
  unfold e61 g61
  repeat' first | refine le_bind ?_ (fun _ => ?_) | refine le_ck ?_ | refine le_if ?_ ?_ | refine le_sm (fun _ => ?_) (fun _ => ?_) | refine le_jn (fun _ _ _ => ?_) (fun _ => ?_) | refine le_loop (fun _ => ?_) | with_reducible exact le_refl | apply_assumption

/-- placard/runes.six -/
noncomputable def g62 (a0 : Int) (a1 : Int) : Option (Int) :=
  ck (0 ≤ a1 ∧ a1 ≤ ((IntKind.bits .i32 : Nat) : Int)) <|
  some (bits .or .u8 128 (bits .and .u8 (IntKind.wrap .u8 (a0 / 2 ^ a1.toNat)) 63))
noncomputable def k62 : Eng.CS := { f := 62, calm := true, more := 0, ι := Int × Int × Int, ok := fun i => g62 i.1 i.2.1 = some i.2.2, rds := fun _ => [], args := fun i => [.w (.v (.int .i32 (i.1))), .w (.v (.int .u64 (i.2.1)))], res := fun i => .v (.int .u8 (i.2.2)) }
set_option maxRecDepth 8000 in
set_option maxHeartbeats 4000000 in
theorem k62_ok : CalmOk Try.prog k62 := by
  refine R.calmspec Try.func62 nm62 rfl ?_
  rintro ⟨a0, a1, r⟩ hok q _ args hargs
  match args, hargs with
  | [_, _], hargs =>
  obtain ⟨rfl, rfl, _⟩ := hargs
  refine ⟨envC [] false [], 6, envC_ok (css_nil), rfl, (by intro x hx; simp only [List.mem_cons, List.not_mem_nil, or_false] at hx; rcases hx with rfl | rfl <;> rfl), ?_⟩
  have H : Gives (g62 a0 a1) (fun a => a = r) := ⟨r, hok, rfl⟩
  unfold g62 at H
  clear hok
  refine ob_ck H fun h30 H => ?_
  have hfin := fin_st H
  repeat (refine And.intro (Ob.mk (by first | (rw [← hfin] <;> first | exact rfl | exact Iff.rfl | exact ⟨rfl, rfl⟩ | exact decide_eq_true_iff | (constructor <;> first | rfl | simp [ei, eb, es, ec]) | simp [ei, eb, es, ec]) | first | exact rfl | exact Iff.rfl | exact ⟨rfl, rfl⟩ | exact decide_eq_true_iff | (constructor <;> first | rfl | simp [ei, eb, es, ec]) | simp [ei, eb, es, ec])) ?_)
  first | exact trivial | exact rfl
noncomputable def e62 (n : Nat) (a0 : Int) (a1 : Int) : Option (Int) :=
  ck (0 ≤ a1 ∧ a1 ≤ ((IntKind.bits .i32 : Nat) : Int)) <|
  some (bits .or .u8 128 (bits .and .u8 (IntKind.wrap .u8 (a0 / 2 ^ a1.toNat)) 63))
theorem e62_le (n : Nat) (a0 : Int) (a1 : Int) : Le (e62 n a0 a1) (g62 a0 a1) := by
  unfold e62 g62
  repeat' first | refine le_bind ?_ (fun _ => ?_) | refine le_ck ?_ | refine le_if ?_ ?_ | refine le_sm (fun _ => ?_) (fun _ => ?_) | refine le_jn (fun _ _ _ => ?_) (fun _ => ?_) | refine le_loop (fun _ => ?_) | with_reducible exact le_refl | apply_assumption

/-- placard/runes.Next -/
noncomputable def g15 (a0 : List Int) : Option (Int × Int × Bool) :=
  if ((a0.length : Nat) : Int) = 0 then
    some (0, 0, true)
  else
    (
      ck (0 ≤ (0 : Int) ∧ 0 < ((a0.length : Nat) : Int)) <|
      (g57 (a0.getD (0 : Int).toNat 0)).bind fun v34 =>
      if v34.1 = 0 then
        some (65533, 1, false)
      else
        (
          jn (α := _) (β := Int) (fun k105 =>
              (loopO (σ := Int × Int) (ρ := (Int × Int × Bool) ⊕ (Int)) (fun s106 =>
                  if s106.2 < v34.1 then
                    (
                      if ((a0.length : Nat) : Int) ≤ s106.2 then
                        some (.out (.inl ((0, 0, true))))
                      else
                        (
                          jn (α := _) (β := Int × Int) (fun k139 =>
                              if s106.2 = 1 then
                                k139 (v34.2.1, v34.2.2.1)
                              else
                                k139 (128, 191)
                          ) (fun v138 =>
                            ck (0 ≤ s106.2 ∧ s106.2 < ((a0.length : Nat) : Int)) <|
                            if (a0.getD s106.2.toNat 0) < v138.1 then
                              some (.out (.inl ((65533, 1, false))))
                            else
                              (
                                ck (0 ≤ s106.2 ∧ s106.2 < ((a0.length : Nat) : Int)) <|
                                if v138.2 < (a0.getD s106.2.toNat 0) then
                                  some (.out (.inl ((65533, 1, false))))
                                else
                                  (
                                    ck (0 ≤ s106.2 ∧ s106.2 < ((a0.length : Nat) : Int)) <|
                                    ck (inR .i32 (bits .and .u8 (a0.getD s106.2.toNat 0) 63)) <|
                                    ck (inR .i64 (s106.2 + 1)) <|
                                    some (.go (bits .or .i32 (IntKind.wrap .i32 (s106.1 * 2 ^ (6 : Int).toNat)) (bits .and .u8 (a0.getD s106.2.toNat 0) 63), s106.2 + 1))
                                  )
                              )
                          )
                        )
                    )
                  else
                    some (.out (.inr (s106.1)))
                ) (v34.2.2.2, 1)).bind fun o134 =>
              sm o134 (fun o148 =>
                  some (o148.1, o148.2.1, o148.2.2)
                ) (fun o149 =>
                  k105 o149
                )
          ) (fun v104 =>
            some (v104, v34.1, false)
          )
        )
    )
noncomputable def k15 : Eng.CS := { f := 15, calm := true, more := 0, ι := (List Int) × (Int × Int × Bool), ok := fun i => g15 i.1 = some i.2, rds := fun _ => [], args := fun i => [.sl 1 i.1.length (ei .u8 i.1)], res := fun i => .tup [.v (.int .i32 (i.2.1)), .v (.int .i64 (i.2.2.1)), bS i.2.2.2] }
set_option maxRecDepth 8000 in
set_option maxHeartbeats 4000000 in
theorem k15_ok : CalmOk Try.prog k15 := by
  refine R.calmspec Try.func15 nm15 rfl ?_
  rintro ⟨a0, r⟩ hok q _ args hargs
  match args, hargs with
  | [_], hargs =>
  obtain ⟨⟨A0, cp0, rfl, hc0, _, hR0⟩, _⟩ := hargs
  refine ⟨envC [k57] false [(15, 15), (15, 18)], 6, envC_ok (css_cons ⟨fun _ => k57_ok, fun h => (by cases h)⟩ (css_nil)), rfl, (by intro x hx; simp only [List.mem_cons, List.not_mem_nil, or_false] at hx; rcases hx with rfl <;> rfl), ?_⟩
  have H : Gives (g15 a0) (fun a => a = r) := ⟨r, hok, rfl⟩
  unfold g15 at H
  clear hok
  refine if_st H (fun h32 H => ?_) (fun h32 H => ?_)
  · have hfin := fin_st H
    repeat (refine And.intro (Ob.mk (by first | (rw [← hfin] <;> first | exact rfl | exact Iff.rfl | exact ⟨rfl, rfl⟩ | exact decide_eq_true_iff | (constructor <;> first | rfl | simp [ei, eb, es, ec]) | simp [ei, eb, es, ec]) | first | exact rfl | exact Iff.rfl | exact ⟨rfl, rfl⟩ | exact decide_eq_true_iff | (constructor <;> first | rfl | simp [ei, eb, es, ec]) | simp [ei, eb, es, ec])) ?_)
    first | exact trivial | exact rfl
  · refine ob_ix hR0 (fun h => ei0 h) H fun h33 H => ?_
    refine ld_int (e := a0.getD (0 : Int).toNat 0) (rd_get hR0 (ei_get (l := a0) (tn h33))) ?_
    obtain ⟨v34, hv35, H⟩ := call_st H
    refine ⟨(a0.getD (0 : Int).toNat 0, v34), ⟨hv35⟩, ⟨trivial⟩, ?_⟩
    refine And.intro ⟨rfl⟩ ?_
    refine if_st H (fun h37 H => ?_) (fun h37 H => ?_)
    · have hfin := fin_st H
      repeat (refine And.intro (Ob.mk (by first | (rw [← hfin] <;> first | exact rfl | exact Iff.rfl | exact ⟨rfl, rfl⟩ | exact decide_eq_true_iff | (constructor <;> first | rfl | simp [ei, eb, es, ec]) | simp [ei, eb, es, ec]) | first | exact rfl | exact Iff.rfl | exact ⟨rfl, rfl⟩ | exact decide_eq_true_iff | (constructor <;> first | rfl | simp [ei, eb, es, ec]) | simp [ei, eb, es, ec])) ?_)
      first | exact trivial | exact rfl
    · refine R.cut_fam H 25 [5] [] (fun v104 => [(2, .v (.int .i32 (v104)))]) (fun v104 => []) [(10, .cells 87 [.v (.int .i64 (v34.1)), .v (.int .u8 (v34.2.1)), .v (.int .u8 (v34.2.2.1)), .v (.int .i32 (v34.2.2.2))])] 0 (fun H => ?_)
      refine And.intro ?_ ?_
      · refine R.loop_fam (bind_st H) [0, 5] [] (fun _ s106 => [(2, .v (.int .i32 (s106.1))), (6, .v (.int .i64 (s106.2)))]) (fun _ s106 => []) 0 (fun n150 H => ?_)
        refine ⟨(n150, _), ⟨H⟩, ⟨trivial⟩, ?_⟩
        repeat (refine And.intro (Ob.mk (by first | exact rfl | exact Iff.rfl | exact ⟨rfl, rfl⟩ | exact decide_eq_true_iff | (constructor <;> first | rfl | simp [ei, eb, es, ec]) | simp [ei, eb, es, ec])) ?_)
        rintro ⟨m0, s106⟩ H _
        obtain ⟨m107, hm0, H⟩ := IG_succ H
        dsimp only at hm0
        subst hm0
        try dsimp only at H
        refine if_st H (fun h135 H => ?_) (fun h135 H => ?_)
        · refine if_st H (fun h136 H => ?_) (fun h136 H => ?_)
          · replace H := some_st H
            dsimp only [stp, sm] at H
            have hfin := fin_st H
            repeat (refine And.intro (Ob.mk (by first | (rw [← hfin] <;> first | exact rfl | exact Iff.rfl | exact ⟨rfl, rfl⟩ | exact decide_eq_true_iff | (constructor <;> first | rfl | simp [ei, eb, es, ec]) | simp [ei, eb, es, ec]) | first | exact rfl | exact Iff.rfl | exact ⟨rfl, rfl⟩ | exact decide_eq_true_iff | (constructor <;> first | rfl | simp [ei, eb, es, ec]) | simp [ei, eb, es, ec])) ?_)
            first | exact trivial | exact rfl
          · refine R.cut_fam H 38 [0, 2, 5, 6] [] (fun v138 => [(7, .v (.int .u8 (v138.1))), (8, .v (.int .u8 (v138.2)))]) (fun v138 => []) [(10, .cells 87 [.v (.int .i64 (v34.1)), .v (.int .u8 (v34.2.1)), .v (.int .u8 (v34.2.2.1)), .v (.int .i32 (v34.2.2.2))])] 0 (fun H => ?_)
            refine And.intro ?_ ?_
            · refine if_st H (fun h140 H => ?_) (fun h140 H => ?_)
              · refine And.intro ⟨by kernel_rfl⟩ ?_
                refine ⟨(v34.2.1, v34.2.2.1), ⟨H⟩, ⟨rfl⟩, ?_⟩
                repeat (refine And.intro (Ob.mk (by first | exact rfl | exact Iff.rfl | exact ⟨rfl, rfl⟩ | exact decide_eq_true_iff | (constructor <;> first | rfl | simp [ei, eb, es, ec]) | simp [ei, eb, es, ec])) ?_)
                first | exact trivial | exact rfl
              · refine ⟨(128, 191), ⟨H⟩, ⟨rfl⟩, ?_⟩
                repeat (refine And.intro (Ob.mk (by first | exact rfl | exact Iff.rfl | exact ⟨rfl, rfl⟩ | exact decide_eq_true_iff | (constructor <;> first | rfl | simp [ei, eb, es, ec]) | simp [ei, eb, es, ec])) ?_)
                first | exact trivial | exact rfl
            · intro v138 H
              refine ob_ix hR0 (fun h => ei0 h) H fun h141 H => ?_
              refine ld_int (e := a0.getD s106.2.toNat 0) (rd_get hR0 (ei_get (l := a0) (tn h141))) ?_
              refine if_st H (fun h142 H => ?_) (fun h142 H => ?_)
              · replace H := some_st H
                dsimp only [stp, sm] at H
                have hfin := fin_st H
                repeat (refine And.intro (Ob.mk (by first | (rw [← hfin] <;> first | exact rfl | exact Iff.rfl | exact ⟨rfl, rfl⟩ | exact decide_eq_true_iff | (constructor <;> first | rfl | simp [ei, eb, es, ec]) | simp [ei, eb, es, ec]) | first | exact rfl | exact Iff.rfl | exact ⟨rfl, rfl⟩ | exact decide_eq_true_iff | (constructor <;> first | rfl | simp [ei, eb, es, ec]) | simp [ei, eb, es, ec])) ?_)
                first | exact trivial | exact rfl
              · refine ob_ix hR0 (fun h => ei0 h) H fun h143 H => ?_
                refine ld_int (e := a0.getD s106.2.toNat 0) (rd_get hR0 (ei_get (l := a0) (tn h143))) ?_
                refine if_st H (fun h144 H => ?_) (fun h144 H => ?_)
                · replace H := some_st H
                  dsimp only [stp, sm] at H
                  have hfin := fin_st H
                  repeat (refine And.intro (Ob.mk (by first | (rw [← hfin] <;> first | exact rfl | exact Iff.rfl | exact ⟨rfl, rfl⟩ | exact decide_eq_true_iff | (constructor <;> first | rfl | simp [ei, eb, es, ec]) | simp [ei, eb, es, ec]) | first | exact rfl | exact Iff.rfl | exact ⟨rfl, rfl⟩ | exact decide_eq_true_iff | (constructor <;> first | rfl | simp [ei, eb, es, ec]) | simp [ei, eb, es, ec])) ?_)
                  first | exact trivial | exact rfl
                · refine And.intro ⟨by decide⟩ ?_
                  refine ob_ix hR0 (fun h => ei0 h) H fun h145 H => ?_
                  refine ld_int (e := a0.getD s106.2.toNat 0) (rd_get hR0 (ei_get (l := a0) (tn h145))) ?_
                  refine ob_ck H fun h146 H => ?_
                  refine ob_ck H fun h147 H => ?_
                  replace H := some_st H
                  refine ⟨(m107, (bits .or .i32 (IntKind.wrap .i32 (s106.1 * 2 ^ (6 : Int).toNat)) (bits .and .u8 (a0.getD s106.2.toNat 0) 63), s106.2 + 1)), ⟨H, Nat.lt_succ_self _⟩, ⟨trivial⟩, ⟨rfl⟩, ?_⟩
                  repeat (refine And.intro (Ob.mk (by first | exact rfl | exact Iff.rfl | exact ⟨rfl, rfl⟩ | exact decide_eq_true_iff | (constructor <;> first | rfl | simp [ei, eb, es, ec]) | simp [ei, eb, es, ec])) ?_)
                  first | exact trivial | exact rfl
        · replace H := some_st H
          dsimp only [stp, sm] at H
          refine ⟨s106.1, ⟨H⟩, ⟨rfl⟩, ?_⟩
          repeat (refine And.intro (Ob.mk (by first | exact rfl | exact Iff.rfl | exact ⟨rfl, rfl⟩ | exact decide_eq_true_iff | (constructor <;> first | rfl | simp [ei, eb, es, ec]) | simp [ei, eb, es, ec])) ?_)
          first | exact trivial | exact rfl
      · intro v104 H
        refine And.intro ⟨by kernel_rfl⟩ ?_
        have hfin := fin_st H
        repeat (refine And.intro (Ob.mk (by first | (rw [← hfin] <;> first | exact rfl | exact Iff.rfl | exact ⟨rfl, rfl⟩ | exact decide_eq_true_iff | (constructor <;> first | rfl | simp [ei, eb, es, ec]) | simp [ei, eb, es, ec]) | first | exact rfl | exact Iff.rfl | exact ⟨rfl, rfl⟩ | exact decide_eq_true_iff | (constructor <;> first | rfl | simp [ei, eb, es, ec]) | simp [ei, eb, es, ec])) ?_)
        first | exact trivial | exact rfl
noncomputable def e15 (n : Nat) (a0 : List Int) : Option (Int × Int × Bool) :=
  if ((a0.length : Nat) : Int) = 0 then
    some (0, 0, true)
  else
    (
      ck (0 ≤ (0 : Int) ∧ 0 < ((a0.length : Nat) : Int)) <|
      (e57 n (a0.getD (0 : Int).toNat 0)).bind fun v34 =>
      if v34.1 = 0 then
        some (65533, 1, false)
      else
        (
          jn (α := _) (β := Int) (fun k105 =>
              (itN n (σ := Int × Int) (ρ := (Int × Int × Bool) ⊕ (Int)) (fun s106 =>
                  if s106.2 < v34.1 then
                    (
                      if ((a0.length : Nat) : Int) ≤ s106.2 then
                        some (.out (.inl ((0, 0, true))))
                      else
                        (
                          jn (α := _) (β := Int × Int) (fun k139 =>
                              if s106.2 = 1 then
                                k139 (v34.2.1, v34.2.2.1)
                              else
                                k139 (128, 191)
                          ) (fun v138 =>
                            ck (0 ≤ s106.2 ∧ s106.2 < ((a0.length : Nat) : Int)) <|
                            if (a0.getD s106.2.toNat 0) < v138.1 then
                              some (.out (.inl ((65533, 1, false))))
                            else
                              (
                                ck (0 ≤ s106.2 ∧ s106.2 < ((a0.length : Nat) : Int)) <|
                                if v138.2 < (a0.getD s106.2.toNat 0) then
                                  some (.out (.inl ((65533, 1, false))))
                                else
                                  (
                                    ck (0 ≤ s106.2 ∧ s106.2 < ((a0.length : Nat) : Int)) <|
                                    ck (inR .i32 (bits .and .u8 (a0.getD s106.2.toNat 0) 63)) <|
                                    ck (inR .i64 (s106.2 + 1)) <|
                                    some (.go (bits .or .i32 (IntKind.wrap .i32 (s106.1 * 2 ^ (6 : Int).toNat)) (bits .and .u8 (a0.getD s106.2.toNat 0) 63), s106.2 + 1))
                                  )
                              )
                          )
                        )
                    )
                  else
                    some (.out (.inr (s106.1)))
                ) (v34.2.2.2, 1)).bind fun o134 =>
              sm o134 (fun o148 =>
                  some (o148.1, o148.2.1, o148.2.2)
                ) (fun o149 =>
                  k105 o149
                )
          ) (fun v104 =>
            some (v104, v34.1, false)
          )
        )
    )
theorem e15_le (n : Nat) (a0 : List Int) : Le (e15 n a0) (g15 a0) := by
  unfold e15 g15
  repeat' first | exact e57_le _ _ | refine le_bind ?_ (fun _ => ?_) | refine le_ck ?_ | refine le_if ?_ ?_ | refine le_sm (fun _ => ?_) (fun _ => ?_) | refine le_jn (fun _ _ _ => ?_) (fun _ => ?_) | refine le_loop (fun _ => ?_) | with_reducible exact le_refl | apply_assumption

/-- placard/placardref01.low -/
noncomputable def g63 (a0 : Int) : Option (Int) :=
  ck (inR .i32 (128 + (Int.tmod a0 64))) <|
  some (IntKind.wrap .u8 (128 + (Int.tmod a0 64)))
noncomputable def k63 : Eng.CS := { f := 63, calm := true, more := 0, ι := Int × Int, ok := fun i => g63 i.1 = some i.2, rds := fun _ => [], args := fun i => [.w (.v (.int .i32 (i.1)))], res := fun i => .v (.int .u8 (i.2)) }
set_option maxRecDepth 8000 in
set_option maxHeartbeats 4000000 in
theorem k63_ok : CalmOk Try.prog k63 := by
  refine R.calmspec Try.func63 nm63 rfl ?_
  rintro ⟨a0, r⟩ hok q _ args hargs
  match args, hargs with
  | [_], hargs =>
  obtain ⟨rfl, _⟩ := hargs
  refine ⟨envC [] false [], 6, envC_ok (css_nil), rfl, (by intro x hx; simp only [List.mem_cons, List.not_mem_nil, or_false] at hx; rcases hx with rfl <;> rfl), ?_⟩
  have H : Gives (g63 a0) (fun a => a = r) := ⟨r, hok, rfl⟩
  unfold g63 at H
  clear hok
  refine And.intro ⟨by decide⟩ ?_
  refine ob_ck H fun h151 H => ?_
  have hfin := fin_st H
  repeat (refine And.intro (Ob.mk (by first | (rw [← hfin] <;> first | exact rfl | exact Iff.rfl | exact ⟨rfl, rfl⟩ | exact decide_eq_true_iff | (constructor <;> first | rfl | simp [ei, eb, es, ec]) | simp [ei, eb, es, ec]) | first | exact rfl | exact Iff.rfl | exact ⟨rfl, rfl⟩ | exact decide_eq_true_iff | (constructor <;> first | rfl | simp [ei, eb, es, ec]) | simp [ei, eb, es, ec])) ?_)
  first | exact trivial | exact rfl
noncomputable def e63 (n : Nat) (a0 : Int) : Option (Int) :=
  ck (inR .i32 (128 + (Int.tmod a0 64))) <|
  some (IntKind.wrap .u8 (128 + (Int.tmod a0 64)))
theorem e63_le (n : Nat) (a0 : Int) : Le (e63 n a0) (g63 a0) := by
  unfold e63 g63
  repeat' first | refine le_bind ?_ (fun _ => ?_) | refine le_ck ?_ | refine le_if ?_ ?_ | refine le_sm (fun _ => ?_) (fun _ => ?_) | refine le_jn (fun _ _ _ => ?_) (fun _ => ?_) | refine le_loop (fun _ => ?_) | with_reducible exact le_refl | apply_assumption

/-- placard/placardref01.Is -/
noncomputable def g19 (a0 : Int) : Option (Bool) :=
  if 0 ≤ a0 then
    (
      if a0 ≤ 1114111 then
        (
          if a0 < 55296 then
            some true
          else
            some (decide (57343 < a0))
        )
      else
        some false
    )
  else
    some false
noncomputable def k19 : Eng.CS := { f := 19, calm := true, more := 0, ι := Int × Bool, ok := fun i => g19 i.1 = some i.2, rds := fun _ => [], args := fun i => [.w (.v (.int .i32 (i.1)))], res := fun i => bS i.2 }
set_option maxRecDepth 8000 in
set_option maxHeartbeats 4000000 in
theorem k19_ok : CalmOk Try.prog k19 := by
  refine R.calmspec Try.func19 nm19 rfl ?_
  rintro ⟨a0, r⟩ hok q _ args hargs
  match args, hargs with
  | [_], hargs =>
  obtain ⟨rfl, _⟩ := hargs
  refine ⟨envC [] false [], 6, envC_ok (css_nil), rfl, (by intro x hx; simp only [List.mem_cons, List.not_mem_nil, or_false] at hx; rcases hx with rfl <;> rfl), ?_⟩
  have H : Gives (g19 a0) (fun a => a = r) := ⟨r, hok, rfl⟩
  unfold g19 at H
  clear hok
  refine if_st H (fun h152 H => ?_) (fun h152 H => ?_)
  · refine if_st H (fun h153 H => ?_) (fun h153 H => ?_)
    · refine if_st H (fun h154 H => ?_) (fun h154 H => ?_)
      · have hfin := fin_st H
        repeat (refine And.intro (Ob.mk (by first | (rw [← hfin] <;> first | exact rfl | exact Iff.rfl | exact ⟨rfl, rfl⟩ | exact decide_eq_true_iff | (constructor <;> first | rfl | simp [ei, eb, es, ec]) | simp [ei, eb, es, ec]) | first | exact rfl | exact Iff.rfl | exact ⟨rfl, rfl⟩ | exact decide_eq_true_iff | (constructor <;> first | rfl | simp [ei, eb, es, ec]) | simp [ei, eb, es, ec])) ?_)
        first | exact trivial | exact rfl
      · have hfin := fin_st H
        repeat (refine And.intro (Ob.mk (by first | (rw [← hfin] <;> first | exact rfl | exact Iff.rfl | exact ⟨rfl, rfl⟩ | exact decide_eq_true_iff | (constructor <;> first | rfl | simp [ei, eb, es, ec]) | simp [ei, eb, es, ec]) | first | exact rfl | exact Iff.rfl | exact ⟨rfl, rfl⟩ | exact decide_eq_true_iff | (constructor <;> first | rfl | simp [ei, eb, es, ec]) | simp [ei, eb, es, ec])) ?_)
        first | exact trivial | exact rfl
    · have hfin := fin_st H
      repeat (refine And.intro (Ob.mk (by first | (rw [← hfin] <;> first | exact rfl | exact Iff.rfl | exact ⟨rfl, rfl⟩ | exact decide_eq_true_iff | (constructor <;> first | rfl | simp [ei, eb, es, ec]) | simp [ei, eb, es, ec]) | first | exact rfl | exact Iff.rfl | exact ⟨rfl, rfl⟩ | exact decide_eq_true_iff | (constructor <;> first | rfl | simp [ei, eb, es, ec]) | simp [ei, eb, es, ec])) ?_)
      first | exact trivial | exact rfl
  · have hfin := fin_st H
    repeat (refine And.intro (Ob.mk (by first | (rw [← hfin] <;> first | exact rfl | exact Iff.rfl | exact ⟨rfl, rfl⟩ | exact decide_eq_true_iff | (constructor <;> first | rfl | simp [ei, eb, es, ec]) | simp [ei, eb, es, ec]) | first | exact rfl | exact Iff.rfl | exact ⟨rfl, rfl⟩ | exact decide_eq_true_iff | (constructor <;> first | rfl | simp [ei, eb, es, ec]) | simp [ei, eb, es, ec])) ?_)
    first | exact trivial | exact rfl
noncomputable def e19 (n : Nat) (a0 : Int) : Option (Bool) :=
  if 0 ≤ a0 then
    (
      if a0 ≤ 1114111 then
        (
          if a0 < 55296 then
            some true
          else
            some (decide (57343 < a0))
        )
      else
        some false
    )
  else
    some false
theorem e19_le (n : Nat) (a0 : Int) : Le (e19 n a0) (g19 a0) := by
  unfold e19 g19
  repeat' first | refine le_bind ?_ (fun _ => ?_) | refine le_ck ?_ | refine le_if ?_ ?_ | refine le_sm (fun _ => ?_) (fun _ => ?_) | refine le_jn (fun _ _ _ => ?_) (fun _ => ?_) | refine le_loop (fun _ => ?_) | with_reducible exact le_refl | apply_assumption

/-- placard/runes.Bytes -/
noncomputable def g17 (a0 : Int) : Option (List Int) :=
  jn (α := _) (β := Int) (fun k162 =>
      (g61 a0).bind fun v163 =>
      if ¬ (v163 = true) then
        k162 65533
      else
        k162 a0
  ) (fun v161 =>
    if v161 < 128 then
      some ([IntKind.wrap .u8 v161])
    else
      (
        if v161 < 2048 then
          (
            (g62 v161 0).bind fun v177 =>
            some ([bits .or .u8 192 (IntKind.wrap .u8 (v161 / 2 ^ (6 : Int).toNat)), v177])
          )
        else
          (
            if v161 < 65536 then
              (
                (g62 v161 6).bind fun v180 =>
                (g62 v161 0).bind fun v182 =>
                some ([bits .or .u8 224 (IntKind.wrap .u8 (v161 / 2 ^ (12 : Int).toNat)), v180, v182])
              )
            else
              (
                (g62 v161 12).bind fun v184 =>
                (g62 v161 6).bind fun v186 =>
                (g62 v161 0).bind fun v188 =>
                some ([bits .or .u8 240 (IntKind.wrap .u8 (v161 / 2 ^ (18 : Int).toNat)), v184, v186, v188])
              )
          )
      )
  )
noncomputable def k17 : Eng.CS := { f := 17, calm := false, more := 1, ι := Int × List Int, ok := fun i => g17 i.1 = some i.2, rds := fun _ => [], args := fun i => [.w (.v (.int .i32 (i.1)))], res := fun i => .own 0, L' := fun i => [(0, .arr 5 1 i.2.length (ei .u8 i.2))], rn := [(0, 0, 5, 1)] }
set_option maxRecDepth 8000 in
set_option maxHeartbeats 4000000 in
theorem k17_ok : CSOk Try.prog k17 := by
  refine R.cspec Try.func17 nm17 rfl ?_
  rintro ⟨a0, r⟩ hok q _ args hargs
  match args, hargs with
  | [_], hargs =>
  obtain ⟨rfl, _⟩ := hargs
  refine ⟨envC [k61, k62] false [(17, 3)], 6, envC_ok (css_cons ⟨fun _ => k61_ok, fun h => (by cases h)⟩ (css_cons ⟨fun _ => k62_ok, fun h => (by cases h)⟩ (css_nil))), ?_⟩
  have H : Gives (g17 a0) (fun a => a = r) := ⟨r, hok, rfl⟩
  unfold g17 at H
  clear hok
  refine R.cut_fam H 6 [] [] (fun v161 => [(0, .v (.int .i32 (v161)))]) (fun v161 => []) [] 0 (fun H => ?_)
  refine And.intro ?_ ?_
  · obtain ⟨v163, hv164, H⟩ := call_st H
    refine ⟨(a0, v163), ⟨hv164⟩, ⟨trivial⟩, ?_⟩
    refine And.intro ⟨rfl⟩ ?_
    refine if_st H (fun h165 H => ?_) (fun h165 H => ?_)
    · refine ⟨65533, ⟨H⟩, ⟨rfl⟩, ?_⟩
      repeat (refine And.intro (Ob.mk (by first | exact rfl | exact Iff.rfl | exact ⟨rfl, rfl⟩ | exact decide_eq_true_iff | (constructor <;> first | rfl | simp [ei, eb, es, ec]) | simp [ei, eb, es, ec])) ?_)
      first | exact trivial | exact rfl
    · refine ⟨a0, ⟨H⟩, ⟨rfl⟩, ?_⟩
      repeat (refine And.intro (Ob.mk (by first | exact rfl | exact Iff.rfl | exact ⟨rfl, rfl⟩ | exact decide_eq_true_iff | (constructor <;> first | rfl | simp [ei, eb, es, ec]) | simp [ei, eb, es, ec])) ?_)
      first | exact trivial | exact rfl
  · intro v161 H
    refine if_st H (fun h175 H => ?_) (fun h175 H => ?_)
    · have hfin := fin_st H
      repeat (refine And.intro (Ob.mk (by first | (rw [← hfin] <;> first | exact rfl | exact Iff.rfl | exact ⟨rfl, rfl⟩ | exact decide_eq_true_iff | (constructor <;> first | rfl | simp [ei, eb, es, ec]) | simp [ei, eb, es, ec]) | first | exact rfl | exact Iff.rfl | exact ⟨rfl, rfl⟩ | exact decide_eq_true_iff | (constructor <;> first | rfl | simp [ei, eb, es, ec]) | simp [ei, eb, es, ec])) ?_)
      first | exact trivial | exact rfl
    · refine if_st H (fun h176 H => ?_) (fun h176 H => ?_)
      · refine And.intro ⟨by decide⟩ ?_
        obtain ⟨v177, hv178, H⟩ := call_st H
        refine ⟨(v161, 0, v177), ⟨hv178⟩, ⟨trivial⟩, ?_⟩
        refine And.intro ⟨rfl⟩ ?_
        refine And.intro ⟨rfl⟩ ?_
        have hfin := fin_st H
        repeat (refine And.intro (Ob.mk (by first | (rw [← hfin] <;> first | exact rfl | exact Iff.rfl | exact ⟨rfl, rfl⟩ | exact decide_eq_true_iff | (constructor <;> first | rfl | simp [ei, eb, es, ec]) | simp [ei, eb, es, ec]) | first | exact rfl | exact Iff.rfl | exact ⟨rfl, rfl⟩ | exact decide_eq_true_iff | (constructor <;> first | rfl | simp [ei, eb, es, ec]) | simp [ei, eb, es, ec])) ?_)
        first | exact trivial | exact rfl
      · refine if_st H (fun h179 H => ?_) (fun h179 H => ?_)
        · refine And.intro ⟨by decide⟩ ?_
          obtain ⟨v180, hv181, H⟩ := call_st H
          refine ⟨(v161, 6, v180), ⟨hv181⟩, ⟨trivial⟩, ?_⟩
          refine And.intro ⟨rfl⟩ ?_
          refine And.intro ⟨rfl⟩ ?_
          obtain ⟨v182, hv183, H⟩ := call_st H
          refine ⟨(v161, 0, v182), ⟨hv183⟩, ⟨trivial⟩, ?_⟩
          refine And.intro ⟨rfl⟩ ?_
          refine And.intro ⟨rfl⟩ ?_
          have hfin := fin_st H
          repeat (refine And.intro (Ob.mk (by first | (rw [← hfin] <;> first | exact rfl | exact Iff.rfl | exact ⟨rfl, rfl⟩ | exact decide_eq_true_iff | (constructor <;> first | rfl | simp [ei, eb, es, ec]) | simp [ei, eb, es, ec]) | first | exact rfl | exact Iff.rfl | exact ⟨rfl, rfl⟩ | exact decide_eq_true_iff | (constructor <;> first | rfl | simp [ei, eb, es, ec]) | simp [ei, eb, es, ec])) ?_)
          first | exact trivial | exact rfl
        · refine And.intro ⟨by decide⟩ ?_
          obtain ⟨v184, hv185, H⟩ := call_st H
          refine ⟨(v161, 12, v184), ⟨hv185⟩, ⟨trivial⟩, ?_⟩
          refine And.intro ⟨rfl⟩ ?_
          refine And.intro ⟨rfl⟩ ?_
          obtain ⟨v186, hv187, H⟩ := call_st H
          refine ⟨(v161, 6, v186), ⟨hv187⟩, ⟨trivial⟩, ?_⟩
          refine And.intro ⟨rfl⟩ ?_
          refine And.intro ⟨rfl⟩ ?_
          obtain ⟨v188, hv189, H⟩ := call_st H
          refine ⟨(v161, 0, v188), ⟨hv189⟩, ⟨trivial⟩, ?_⟩
          refine And.intro ⟨rfl⟩ ?_
          refine And.intro ⟨rfl⟩ ?_
          have hfin := fin_st H
          repeat (refine And.intro (Ob.mk (by first | (rw [← hfin] <;> first | exact rfl | exact Iff.rfl | exact ⟨rfl, rfl⟩ | exact decide_eq_true_iff | (constructor <;> first | rfl | simp [ei, eb, es, ec]) | simp [ei, eb, es, ec]) | first | exact rfl | exact Iff.rfl | exact ⟨rfl, rfl⟩ | exact decide_eq_true_iff | (constructor <;> first | rfl | simp [ei, eb, es, ec]) | simp [ei, eb, es, ec])) ?_)
          first | exact trivial | exact rfl
noncomputable def e17 (n : Nat) (a0 : Int) : Option (List Int) :=
  jn (α := _) (β := Int) (fun k162 =>
      (e61 n a0).bind fun v163 =>
      if ¬ (v163 = true) then
        k162 65533
      else
        k162 a0
  ) (fun v161 =>
    if v161 < 128 then
      some ([IntKind.wrap .u8 v161])
    else
      (
        if v161 < 2048 then
          (
            (e62 n v161 0).bind fun v177 =>
            some ([bits .or .u8 192 (IntKind.wrap .u8 (v161 / 2 ^ (6 : Int).toNat)), v177])
          )
        else
          (
            if v161 < 65536 then
              (
                (e62 n v161 6).bind fun v180 =>
                (e62 n v161 0).bind fun v182 =>
                some ([bits .or .u8 224 (IntKind.wrap .u8 (v161 / 2 ^ (12 : Int).toNat)), v180, v182])
              )
            else
              (
                (e62 n v161 12).bind fun v184 =>
                (e62 n v161 6).bind fun v186 =>
                (e62 n v161 0).bind fun v188 =>
                some ([bits .or .u8 240 (IntKind.wrap .u8 (v161 / 2 ^ (18 : Int).toNat)), v184, v186, v188])
              )
          )
      )
  )
theorem e17_le (n : Nat) (a0 : Int) : Le (e17 n a0) (g17 a0) := by
  unfold e17 g17
  repeat' first | exact e61_le _ _ | exact e62_le _ _ _ | refine le_bind ?_ (fun _ => ?_) | refine le_ck ?_ | refine le_if ?_ ?_ | refine le_sm (fun _ => ?_) (fun _ => ?_) | refine le_jn (fun _ _ _ => ?_) (fun _ => ?_) | refine le_loop (fun _ => ?_) | with_reducible exact le_refl | apply_assumption

/-- placard/placardref01.Bytes -/
noncomputable def g18 (a0 : Int) : Option (List Int) :=
  jn (α := _) (β := Int) (fun k197 =>
      (g19 a0).bind fun v198 =>
      if ¬ (v198 = true) then
        k197 65533
      else
        k197 a0
  ) (fun v196 =>
    if v196 < 128 then
      some ([IntKind.wrap .u8 v196])
    else
      (
        if v196 < 2048 then
          (
            ck (inR .i32 (Int.tdiv v196 64)) <|
            ck (inR .i32 (192 + (Int.tdiv v196 64))) <|
            (g63 v196).bind fun v219 =>
            some ([IntKind.wrap .u8 (192 + (Int.tdiv v196 64)), v219])
          )
        else
          (
            if v196 < 65536 then
              (
                ck (inR .i32 (Int.tdiv v196 4096)) <|
                ck (inR .i32 (224 + (Int.tdiv v196 4096))) <|
                ck (inR .i32 (Int.tdiv v196 64)) <|
                (g63 (Int.tdiv v196 64)).bind fun v225 =>
                (g63 v196).bind fun v227 =>
                some ([IntKind.wrap .u8 (224 + (Int.tdiv v196 4096)), v225, v227])
              )
            else
              (
                ck (inR .i32 (Int.tdiv v196 262144)) <|
                ck (inR .i32 (240 + (Int.tdiv v196 262144))) <|
                ck (inR .i32 (Int.tdiv v196 4096)) <|
                (g63 (Int.tdiv v196 4096)).bind fun v232 =>
                ck (inR .i32 (Int.tdiv v196 64)) <|
                (g63 (Int.tdiv v196 64)).bind fun v235 =>
                (g63 v196).bind fun v237 =>
                some ([IntKind.wrap .u8 (240 + (Int.tdiv v196 262144)), v232, v235, v237])
              )
          )
      )
  )
noncomputable def k18 : Eng.CS := { f := 18, calm := false, more := 1, ι := Int × List Int, ok := fun i => g18 i.1 = some i.2, rds := fun _ => [], args := fun i => [.w (.v (.int .i32 (i.1)))], res := fun i => .own 0, L' := fun i => [(0, .arr 5 1 i.2.length (ei .u8 i.2))], rn := [(0, 0, 5, 1)] }
set_option maxRecDepth 8000 in
set_option maxHeartbeats 4000000 in
theorem k18_ok : CSOk Try.prog k18 := by
  refine R.cspec Try.func18 nm18 rfl ?_
  rintro ⟨a0, r⟩ hok q _ args hargs
  match args, hargs with
  | [_], hargs =>
  obtain ⟨rfl, _⟩ := hargs
  refine ⟨envC [k19, k63] false [(18, 3)], 6, envC_ok (css_cons ⟨fun _ => k19_ok, fun h => (by cases h)⟩ (css_cons ⟨fun _ => k63_ok, fun h => (by cases h)⟩ (css_nil))), ?_⟩
  have H : Gives (g18 a0) (fun a => a = r) := ⟨r, hok, rfl⟩
  unfold g18 at H
  clear hok
  refine R.cut_fam H 6 [] [] (fun v196 => [(0, .v (.int .i32 (v196)))]) (fun v196 => []) [] 0 (fun H => ?_)
  refine And.intro ?_ ?_
  · obtain ⟨v198, hv199, H⟩ := call_st H
    refine ⟨(a0, v198), ⟨hv199⟩, ⟨trivial⟩, ?_⟩
    refine And.intro ⟨rfl⟩ ?_
    refine if_st H (fun h200 H => ?_) (fun h200 H => ?_)
    · refine ⟨65533, ⟨H⟩, ⟨rfl⟩, ?_⟩
      repeat (refine And.intro (Ob.mk (by first | exact rfl | exact Iff.rfl | exact ⟨rfl, rfl⟩ | exact decide_eq_true_iff | (constructor <;> first | rfl | simp [ei, eb, es, ec]) | simp [ei, eb, es, ec])) ?_)
      first | exact trivial | exact rfl
    · refine ⟨a0, ⟨H⟩, ⟨rfl⟩, ?_⟩
      repeat (refine And.intro (Ob.mk (by first | exact rfl | exact Iff.rfl | exact ⟨rfl, rfl⟩ | exact decide_eq_true_iff | (constructor <;> first | rfl | simp [ei, eb, es, ec]) | simp [ei, eb, es, ec])) ?_)
      first | exact trivial | exact rfl
  · intro v196 H
    refine if_st H (fun h215 H => ?_) (fun h215 H => ?_)
    · have hfin := fin_st H
      repeat (refine And.intro (Ob.mk (by first | (rw [← hfin] <;> first | exact rfl | exact Iff.rfl | exact ⟨rfl, rfl⟩ | exact decide_eq_true_iff | (constructor <;> first | rfl | simp [ei, eb, es, ec]) | simp [ei, eb, es, ec]) | first | exact rfl | exact Iff.rfl | exact ⟨rfl, rfl⟩ | exact decide_eq_true_iff | (constructor <;> first | rfl | simp [ei, eb, es, ec]) | simp [ei, eb, es, ec])) ?_)
      first | exact trivial | exact rfl
    · refine if_st H (fun h216 H => ?_) (fun h216 H => ?_)
      · refine And.intro ⟨by decide⟩ ?_
        refine ob_ck H fun h217 H => ?_
        refine ob_ck H fun h218 H => ?_
        obtain ⟨v219, hv220, H⟩ := call_st H
        refine ⟨(v196, v219), ⟨hv220⟩, ⟨trivial⟩, ?_⟩
        refine And.intro ⟨rfl⟩ ?_
        have hfin := fin_st H
        repeat (refine And.intro (Ob.mk (by first | (rw [← hfin] <;> first | exact rfl | exact Iff.rfl | exact ⟨rfl, rfl⟩ | exact decide_eq_true_iff | (constructor <;> first | rfl | simp [ei, eb, es, ec]) | simp [ei, eb, es, ec]) | first | exact rfl | exact Iff.rfl | exact ⟨rfl, rfl⟩ | exact decide_eq_true_iff | (constructor <;> first | rfl | simp [ei, eb, es, ec]) | simp [ei, eb, es, ec])) ?_)
        first | exact trivial | exact rfl
      · refine if_st H (fun h221 H => ?_) (fun h221 H => ?_)
        · refine And.intro ⟨by decide⟩ ?_
          refine ob_ck H fun h222 H => ?_
          refine ob_ck H fun h223 H => ?_
          refine And.intro ⟨by decide⟩ ?_
          refine ob_ck H fun h224 H => ?_
          obtain ⟨v225, hv226, H⟩ := call_st H
          refine ⟨(Int.tdiv v196 64, v225), ⟨hv226⟩, ⟨trivial⟩, ?_⟩
          refine And.intro ⟨rfl⟩ ?_
          obtain ⟨v227, hv228, H⟩ := call_st H
          refine ⟨(v196, v227), ⟨hv228⟩, ⟨trivial⟩, ?_⟩
          refine And.intro ⟨rfl⟩ ?_
          have hfin := fin_st H
          repeat (refine And.intro (Ob.mk (by first | (rw [← hfin] <;> first | exact rfl | exact Iff.rfl | exact ⟨rfl, rfl⟩ | exact decide_eq_true_iff | (constructor <;> first | rfl | simp [ei, eb, es, ec]) | simp [ei, eb, es, ec]) | first | exact rfl | exact Iff.rfl | exact ⟨rfl, rfl⟩ | exact decide_eq_true_iff | (constructor <;> first | rfl | simp [ei, eb, es, ec]) | simp [ei, eb, es, ec])) ?_)
          first | exact trivial | exact rfl
        · refine And.intro ⟨by decide⟩ ?_
          refine ob_ck H fun h229 H => ?_
          refine ob_ck H fun h230 H => ?_
          refine And.intro ⟨by decide⟩ ?_
          refine ob_ck H fun h231 H => ?_
          obtain ⟨v232, hv233, H⟩ := call_st H
          refine ⟨(Int.tdiv v196 4096, v232), ⟨hv233⟩, ⟨trivial⟩, ?_⟩
          refine And.intro ⟨rfl⟩ ?_
          refine And.intro ⟨by decide⟩ ?_
          refine ob_ck H fun h234 H => ?_
          obtain ⟨v235, hv236, H⟩ := call_st H
          refine ⟨(Int.tdiv v196 64, v235), ⟨hv236⟩, ⟨trivial⟩, ?_⟩
          refine And.intro ⟨rfl⟩ ?_
          obtain ⟨v237, hv238, H⟩ := call_st H
          refine ⟨(v196, v237), ⟨hv238⟩, ⟨trivial⟩, ?_⟩
          refine And.intro ⟨rfl⟩ ?_
          have hfin := fin_st H
          repeat (refine And.intro (Ob.mk (by first | (rw [← hfin] <;> first | exact rfl | exact Iff.rfl | exact ⟨rfl, rfl⟩ | exact decide_eq_true_iff | (constructor <;> first | rfl | simp [ei, eb, es, ec]) | simp [ei, eb, es, ec]) | first | exact rfl | exact Iff.rfl | exact ⟨rfl, rfl⟩ | exact decide_eq_true_iff | (constructor <;> first | rfl | simp [ei, eb, es, ec]) | simp [ei, eb, es, ec])) ?_)
          first | exact trivial | exact rfl
noncomputable def e18 (n : Nat) (a0 : Int) : Option (List Int) :=
  jn (α := _) (β := Int) (fun k197 =>
      (e19 n a0).bind fun v198 =>
      if ¬ (v198 = true) then
        k197 65533
      else
        k197 a0
  ) (fun v196 =>
    if v196 < 128 then
      some ([IntKind.wrap .u8 v196])
    else
      (
        if v196 < 2048 then
          (
            ck (inR .i32 (Int.tdiv v196 64)) <|
            ck (inR .i32 (192 + (Int.tdiv v196 64))) <|
            (e63 n v196).bind fun v219 =>
            some ([IntKind.wrap .u8 (192 + (Int.tdiv v196 64)), v219])
          )
        else
          (
            if v196 < 65536 then
              (
                ck (inR .i32 (Int.tdiv v196 4096)) <|
                ck (inR .i32 (224 + (Int.tdiv v196 4096))) <|
                ck (inR .i32 (Int.tdiv v196 64)) <|
                (e63 n (Int.tdiv v196 64)).bind fun v225 =>
                (e63 n v196).bind fun v227 =>
                some ([IntKind.wrap .u8 (224 + (Int.tdiv v196 4096)), v225, v227])
              )
            else
              (
                ck (inR .i32 (Int.tdiv v196 262144)) <|
                ck (inR .i32 (240 + (Int.tdiv v196 262144))) <|
                ck (inR .i32 (Int.tdiv v196 4096)) <|
                (e63 n (Int.tdiv v196 4096)).bind fun v232 =>
                ck (inR .i32 (Int.tdiv v196 64)) <|
                (e63 n (Int.tdiv v196 64)).bind fun v235 =>
                (e63 n v196).bind fun v237 =>
                some ([IntKind.wrap .u8 (240 + (Int.tdiv v196 262144)), v232, v235, v237])
              )
          )
      )
  )
theorem e18_le (n : Nat) (a0 : Int) : Le (e18 n a0) (g18 a0) := by
  unfold e18 g18
  repeat' first | exact e19_le _ _ | exact e63_le _ _ | refine le_bind ?_ (fun _ => ?_) | refine le_ck ?_ | refine le_if ?_ ?_ | refine le_sm (fun _ => ?_) (fun _ => ?_) | refine le_jn (fun _ _ _ => ?_) (fun _ => ?_) | refine le_loop (fun _ => ?_) | with_reducible exact le_refl | apply_assumption

/-- placard/placardref01.length -/
noncomputable def g58 (a0 : Int) : Option (Int) :=
  if a0 < 128 then
    some 1
  else
    (
      jn (α := _) (β := Bool) (fun k257 =>
          if 194 ≤ a0 then
            k257 (decide (a0 < 224))
          else
            k257 false
      ) (fun v256 =>
        if v256 = true then
          some 2
        else
          (
            if 224 ≤ a0 then
              (
                if a0 < 240 then
                  some 3
                else
                  (
                    if 240 ≤ a0 then
                      (
                        if a0 < 245 then
                          some 4
                        else
                          some 0
                      )
                    else
                      some 0
                  )
              )
            else
              (
                if 240 ≤ a0 then
                  (
                    if a0 < 245 then
                      some 4
                    else
                      some 0
                  )
                else
                  some 0
              )
          )
      )
    )
noncomputable def k58 : Eng.CS := { f := 58, calm := true, more := 0, ι := Int × Int, ok := fun i => g58 i.1 = some i.2, rds := fun _ => [], args := fun i => [.w (.v (.int .u8 (i.1)))], res := fun i => .v (.int .i64 (i.2)) }
set_option maxRecDepth 8000 in
set_option maxHeartbeats 4000000 in
theorem k58_ok : CalmOk Try.prog k58 := by
  refine R.calmspec Try.func58 nm58 rfl ?_
  rintro ⟨a0, r⟩ hok q _ args hargs
  match args, hargs with
  | [_], hargs =>
  obtain ⟨rfl, _⟩ := hargs
  refine ⟨envC [] false [(58, 4)], 6, envC_ok (css_nil), rfl, (by intro x hx; simp only [List.mem_cons, List.not_mem_nil, or_false] at hx; rcases hx with rfl <;> rfl), ?_⟩
  have H : Gives (g58 a0) (fun a => a = r) := ⟨r, hok, rfl⟩
  unfold g58 at H
  clear hok
  refine if_st H (fun h254 H => ?_) (fun h254 H => ?_)
  · have hfin := fin_st H
    repeat (refine And.intro (Ob.mk (by first | (rw [← hfin] <;> first | exact rfl | exact Iff.rfl | exact ⟨rfl, rfl⟩ | exact decide_eq_true_iff | (constructor <;> first | rfl | simp [ei, eb, es, ec]) | simp [ei, eb, es, ec]) | first | exact rfl | exact Iff.rfl | exact ⟨rfl, rfl⟩ | exact decide_eq_true_iff | (constructor <;> first | rfl | simp [ei, eb, es, ec]) | simp [ei, eb, es, ec])) ?_)
    first | exact trivial | exact rfl
  · refine R.cut_fam H 12 [0] [] (fun v256 => [(6, bS v256)]) (fun v256 => []) [] 0 (fun H => ?_)
    refine And.intro ?_ ?_
    · refine if_st H (fun h258 H => ?_) (fun h258 H => ?_)
      · refine ⟨(decide (a0 < 224)), ⟨H⟩, ⟨rfl⟩, ?_⟩
        repeat (refine And.intro (Ob.mk (by first | exact rfl | exact Iff.rfl | exact ⟨rfl, rfl⟩ | exact decide_eq_true_iff | (constructor <;> first | rfl | simp [ei, eb, es, ec]) | simp [ei, eb, es, ec])) ?_)
        first | exact trivial | exact rfl
      · refine ⟨false, ⟨H⟩, ⟨rfl⟩, ?_⟩
        repeat (refine And.intro (Ob.mk (by first | exact rfl | exact Iff.rfl | exact ⟨rfl, rfl⟩ | exact decide_eq_true_iff | (constructor <;> first | rfl | simp [ei, eb, es, ec]) | simp [ei, eb, es, ec])) ?_)
        first | exact trivial | exact rfl
    · intro v256 H
      refine if_st H (fun h259 H => ?_) (fun h259 H => ?_)
      · have hfin := fin_st H
        repeat (refine And.intro (Ob.mk (by first | (rw [← hfin] <;> first | exact rfl | exact Iff.rfl | exact ⟨rfl, rfl⟩ | exact decide_eq_true_iff | (constructor <;> first | rfl | simp [ei, eb, es, ec]) | simp [ei, eb, es, ec]) | first | exact rfl | exact Iff.rfl | exact ⟨rfl, rfl⟩ | exact decide_eq_true_iff | (constructor <;> first | rfl | simp [ei, eb, es, ec]) | simp [ei, eb, es, ec])) ?_)
        first | exact trivial | exact rfl
      · refine if_st H (fun h260 H => ?_) (fun h260 H => ?_)
        · refine if_st H (fun h261 H => ?_) (fun h261 H => ?_)
          · have hfin := fin_st H
            repeat (refine And.intro (Ob.mk (by first | (rw [← hfin] <;> first | exact rfl | exact Iff.rfl | exact ⟨rfl, rfl⟩ | exact decide_eq_true_iff | (constructor <;> first | rfl | simp [ei, eb, es, ec]) | simp [ei, eb, es, ec]) | first | exact rfl | exact Iff.rfl | exact ⟨rfl, rfl⟩ | exact decide_eq_true_iff | (constructor <;> first | rfl | simp [ei, eb, es, ec]) | simp [ei, eb, es, ec])) ?_)
            first | exact trivial | exact rfl
          · refine if_st H (fun h262 H => ?_) (fun h262 H => ?_)
            · refine if_st H (fun h263 H => ?_) (fun h263 H => ?_)
              · have hfin := fin_st H
                repeat (refine And.intro (Ob.mk (by first | (rw [← hfin] <;> first | exact rfl | exact Iff.rfl | exact ⟨rfl, rfl⟩ | exact decide_eq_true_iff | (constructor <;> first | rfl | simp [ei, eb, es, ec]) | simp [ei, eb, es, ec]) | first | exact rfl | exact Iff.rfl | exact ⟨rfl, rfl⟩ | exact decide_eq_true_iff | (constructor <;> first | rfl | simp [ei, eb, es, ec]) | simp [ei, eb, es, ec])) ?_)
                first | exact trivial | exact rfl
              · have hfin := fin_st H
                repeat (refine And.intro (Ob.mk (by first | (rw [← hfin] <;> first | exact rfl | exact Iff.rfl | exact ⟨rfl, rfl⟩ | exact decide_eq_true_iff | (constructor <;> first | rfl | simp [ei, eb, es, ec]) | simp [ei, eb, es, ec]) | first | exact rfl | exact Iff.rfl | exact ⟨rfl, rfl⟩ | exact decide_eq_true_iff | (constructor <;> first | rfl | simp [ei, eb, es, ec]) | simp [ei, eb, es, ec])) ?_)
                first | exact trivial | exact rfl
            · have hfin := fin_st H
              repeat (refine And.intro (Ob.mk (by first | (rw [← hfin] <;> first | exact rfl | exact Iff.rfl | exact ⟨rfl, rfl⟩ | exact decide_eq_true_iff | (constructor <;> first | rfl | simp [ei, eb, es, ec]) | simp [ei, eb, es, ec]) | first | exact rfl | exact Iff.rfl | exact ⟨rfl, rfl⟩ | exact decide_eq_true_iff | (constructor <;> first | rfl | simp [ei, eb, es, ec]) | simp [ei, eb, es, ec])) ?_)
              first | exact trivial | exact rfl
        · refine if_st H (fun h264 H => ?_) (fun h264 H => ?_)
          · refine if_st H (fun h265 H => ?_) (fun h265 H => ?_)
            · have hfin := fin_st H
              repeat (refine And.intro (Ob.mk (by first | (rw [← hfin] <;> first | exact rfl | exact Iff.rfl | exact ⟨rfl, rfl⟩ | exact decide_eq_true_iff | (constructor <;> first | rfl | simp [ei, eb, es, ec]) | simp [ei, eb, es, ec]) | first | exact rfl | exact Iff.rfl | exact ⟨rfl, rfl⟩ | exact decide_eq_true_iff | (constructor <;> first | rfl | simp [ei, eb, es, ec]) | simp [ei, eb, es, ec])) ?_)
              first | exact trivial | exact rfl
            · have hfin := fin_st H
              repeat (refine And.intro (Ob.mk (by first | (rw [← hfin] <;> first | exact rfl | exact Iff.rfl | exact ⟨rfl, rfl⟩ | exact decide_eq_true_iff | (constructor <;> first | rfl | simp [ei, eb, es, ec]) | simp [ei, eb, es, ec]) | first | exact rfl | exact Iff.rfl | exact ⟨rfl, rfl⟩ | exact decide_eq_true_iff | (constructor <;> first | rfl | simp [ei, eb, es, ec]) | simp [ei, eb, es, ec])) ?_)
              first | exact trivial | exact rfl
          · have hfin := fin_st H
            repeat (refine And.intro (Ob.mk (by first | (rw [← hfin] <;> first | exact rfl | exact Iff.rfl | exact ⟨rfl, rfl⟩ | exact decide_eq_true_iff | (constructor <;> first | rfl | simp [ei, eb, es, ec]) | simp [ei, eb, es, ec]) | first | exact rfl | exact Iff.rfl | exact ⟨rfl, rfl⟩ | exact decide_eq_true_iff | (constructor <;> first | rfl | simp [ei, eb, es, ec]) | simp [ei, eb, es, ec])) ?_)
            first | exact trivial | exact rfl
noncomputable def e58 (n : Nat) (a0 : Int) : Option (Int) :=
  if a0 < 128 then
    some 1
  else
    (
      jn (α := _) (β := Bool) (fun k257 =>
          if 194 ≤ a0 then
            k257 (decide (a0 < 224))
          else
            k257 false
      ) (fun v256 =>
        if v256 = true then
          some 2
        else
          (
            if 224 ≤ a0 then
              (
                if a0 < 240 then
                  some 3
                else
                  (
                    if 240 ≤ a0 then
                      (
                        if a0 < 245 then
                          some 4
                        else
                          some 0
                      )
                    else
                      some 0
                  )
              )
            else
              (
                if 240 ≤ a0 then
                  (
                    if a0 < 245 then
                      some 4
                    else
                      some 0
                  )
                else
                  some 0
              )
          )
      )
    )
theorem e58_le (n : Nat) (a0 : Int) : Le (e58 n a0) (g58 a0) := by
  unfold e58 g58
  repeat' first | refine le_bind ?_ (fun _ => ?_) | refine le_ck ?_ | refine le_if ?_ ?_ | refine le_sm (fun _ => ?_) (fun _ => ?_) | refine le_jn (fun _ _ _ => ?_) (fun _ => ?_) | refine le_loop (fun _ => ?_) | with_reducible exact le_refl | apply_assumption

/-- placard/placardref01.number -/
noncomputable def g60 (a0 : List Int) : Option (Int) :=
  if ((a0.length : Nat) : Int) < 2 then
    (
      ck (0 ≤ (0 : Int) ∧ 0 < ((a0.length : Nat) : Int)) <|
      ck (inR .i32 (a0.getD (0 : Int).toNat 0)) <|
      some (a0.getD (0 : Int).toNat 0)
    )
  else
    (
      if 4 < ((a0.length : Nat) : Int) then
        (
          ck (0 ≤ (0 : Int) ∧ 0 < ((a0.length : Nat) : Int)) <|
          ck (inR .i32 (a0.getD (0 : Int).toNat 0)) <|
          some (a0.getD (0 : Int).toNat 0)
        )
      else
        (
          ck (0 ≤ (0 : Int) ∧ 0 < ((a0.length : Nat) : Int)) <|
          ck (inR .i64 (a0.getD (0 : Int).toNat 0)) <|
          ck (0 ≤ ((a0.length : Nat) : Int) ∧ ((a0.length : Nat) : Int) < ((5 : Nat) : Int)) <|
          ck (inR .i64 ((a0.getD (0 : Int).toNat 0) - (([0, 0, 192, 224, 240]).getD ((a0.length : Nat) : Int).toNat 0))) <|
          jn (α := _) (β := Int) (fun k311 =>
              (loopO (σ := Int × Int) (ρ := Int) (fun s312 =>
                  if s312.2 < ((a0.length : Nat) : Int) then
                    (
                      ck (inR .i32 (s312.1 * 64)) <|
                      ck (0 ≤ s312.2 ∧ s312.2 < ((a0.length : Nat) : Int)) <|
                      ck (inR .i32 (Int.tmod (a0.getD s312.2.toNat 0) 64)) <|
                      ck (inR .i32 ((s312.1 * 64) + (Int.tmod (a0.getD s312.2.toNat 0) 64))) <|
                      ck (inR .i64 (s312.2 + 1)) <|
                      some (.go ((s312.1 * 64) + (Int.tmod (a0.getD s312.2.toNat 0) 64), s312.2 + 1))
                    )
                  else
                    some (.out s312.1)
                ) (IntKind.wrap .i32 ((a0.getD (0 : Int).toNat 0) - (([0, 0, 192, 224, 240]).getD ((a0.length : Nat) : Int).toNat 0)), 1)).bind fun o326 =>
                k311 o326
          ) (fun v310 =>
            some v310
          )
        )
    )
noncomputable def k60 : Eng.CS := { f := 60, calm := true, more := 0, ι := (List Int) × Int, ok := fun i => g60 i.1 = some i.2, rds := fun _ => [], args := fun i => [.sl 1 i.1.length (ei .u8 i.1)], res := fun i => .v (.int .i32 (i.2)) }
set_option maxRecDepth 8000 in
set_option maxHeartbeats 4000000 in
theorem k60_ok : CalmOk Try.prog k60 := by
  refine R.calmspec Try.func60 nm60 rfl ?_
  rintro ⟨a0, r⟩ hok q _ args hargs
  match args, hargs with
  | [_], hargs =>
  obtain ⟨⟨A0, cp0, rfl, hc0, _, hR0⟩, _⟩ := hargs
  refine ⟨envC [] false [(60, 9)], 6, envC_ok (css_nil), rfl, (by intro x hx; simp only [List.mem_cons, List.not_mem_nil, or_false] at hx; rcases hx with rfl <;> rfl), ?_⟩
  have H : Gives (g60 a0) (fun a => a = r) := ⟨r, hok, rfl⟩
  unfold g60 at H
  clear hok
  refine if_st H (fun h273 H => ?_) (fun h273 H => ?_)
  · refine ob_ix hR0 (fun h => ei0 h) H fun h274 H => ?_
    refine ld_int (e := a0.getD (0 : Int).toNat 0) (rd_get hR0 (ei_get (l := a0) (tn h274))) ?_
    refine ob_ck H fun h275 H => ?_
    have hfin := fin_st H
    repeat (refine And.intro (Ob.mk (by first | (rw [← hfin] <;> first | exact rfl | exact Iff.rfl | exact ⟨rfl, rfl⟩ | exact decide_eq_true_iff | (constructor <;> first | rfl | simp [ei, eb, es, ec]) | simp [ei, eb, es, ec]) | first | exact rfl | exact Iff.rfl | exact ⟨rfl, rfl⟩ | exact decide_eq_true_iff | (constructor <;> first | rfl | simp [ei, eb, es, ec]) | simp [ei, eb, es, ec])) ?_)
    first | exact trivial | exact rfl
  · refine if_st H (fun h276 H => ?_) (fun h276 H => ?_)
    · refine ob_ix hR0 (fun h => ei0 h) H fun h277 H => ?_
      refine ld_int (e := a0.getD (0 : Int).toNat 0) (rd_get hR0 (ei_get (l := a0) (tn h277))) ?_
      refine ob_ck H fun h278 H => ?_
      have hfin := fin_st H
      repeat (refine And.intro (Ob.mk (by first | (rw [← hfin] <;> first | exact rfl | exact Iff.rfl | exact ⟨rfl, rfl⟩ | exact decide_eq_true_iff | (constructor <;> first | rfl | simp [ei, eb, es, ec]) | simp [ei, eb, es, ec]) | first | exact rfl | exact Iff.rfl | exact ⟨rfl, rfl⟩ | exact decide_eq_true_iff | (constructor <;> first | rfl | simp [ei, eb, es, ec]) | simp [ei, eb, es, ec])) ?_)
      first | exact trivial | exact rfl
    · refine And.intro ⟨by kernel_rfl⟩ ?_
      refine ob_ix hR0 (fun h => ei0 h) H fun h279 H => ?_
      refine ld_int (e := a0.getD (0 : Int).toNat 0) (rd_get hR0 (ei_get (l := a0) (tn h279))) ?_
      refine ob_ck H fun h280 H => ?_
      refine ob_ck H fun h281 H => ?_
      refine ld_int (e := ([0, 0, 192, 224, 240]).getD ((a0.length : Nat) : Int).toNat 0) (own_get (ys := ei .i64 ([0, 0, 192, 224, 240])) (by first | rfl | simp [ei, eb, es, ec]) (ei_get (l := [0, 0, 192, 224, 240]) (by first | exact tn h281 | (have := tn h281; simp at this ⊢; omega) | (have := tn h281; simp; omega)))) ?_
      refine ob_ck H fun h282 H => ?_
      refine R.cut_fam H 30 [] [] (fun v310 => [(4, .v (.int .i32 (v310)))]) (fun v310 => []) [(1, .arr 3 1 (5) (ei .i64 ([0, 0, 192, 224, 240])))] 0 (fun H => ?_)
      refine And.intro ?_ ?_
      · refine R.loop_fam (bind_st H) [0] [] (fun _ s312 => [(4, .v (.int .i32 (s312.1))), (5, .v (.int .i64 (s312.2)))]) (fun _ s312 => []) 0 (fun n333 H => ?_)
        refine ⟨(n333, _), ⟨H⟩, ⟨trivial⟩, ?_⟩
        repeat (refine And.intro (Ob.mk (by first | exact rfl | exact Iff.rfl | exact ⟨rfl, rfl⟩ | exact decide_eq_true_iff | (constructor <;> first | rfl | simp [ei, eb, es, ec]) | simp [ei, eb, es, ec])) ?_)
        rintro ⟨m0, s312⟩ H _
        obtain ⟨m313, hm0, H⟩ := IG_succ H
        dsimp only at hm0
        subst hm0
        try dsimp only at H
        refine if_st H (fun h327 H => ?_) (fun h327 H => ?_)
        · refine ob_ck H fun h328 H => ?_
          refine ob_ix hR0 (fun h => ei0 h) H fun h329 H => ?_
          refine ld_int (e := a0.getD s312.2.toNat 0) (rd_get hR0 (ei_get (l := a0) (tn h329))) ?_
          refine And.intro ⟨by decide⟩ ?_
          refine ob_ck H fun h330 H => ?_
          refine ob_ck H fun h331 H => ?_
          refine ob_ck H fun h332 H => ?_
          replace H := some_st H
          refine ⟨(m313, ((s312.1 * 64) + (Int.tmod (a0.getD s312.2.toNat 0) 64), s312.2 + 1)), ⟨H, Nat.lt_succ_self _⟩, ⟨trivial⟩, ⟨rfl⟩, ?_⟩
          repeat (refine And.intro (Ob.mk (by first | exact rfl | exact Iff.rfl | exact ⟨rfl, rfl⟩ | exact decide_eq_true_iff | (constructor <;> first | rfl | simp [ei, eb, es, ec]) | simp [ei, eb, es, ec])) ?_)
          first | exact trivial | exact rfl
        · replace H := some_st H
          dsimp only [stp, sm] at H
          refine ⟨s312.1, ⟨H⟩, ⟨rfl⟩, ?_⟩
          repeat (refine And.intro (Ob.mk (by first | exact rfl | exact Iff.rfl | exact ⟨rfl, rfl⟩ | exact decide_eq_true_iff | (constructor <;> first | rfl | simp [ei, eb, es, ec]) | simp [ei, eb, es, ec])) ?_)
          first | exact trivial | exact rfl
      · intro v310 H
        have hfin := fin_st H
        repeat (refine And.intro (Ob.mk (by first | (rw [← hfin] <;> first | exact rfl | exact Iff.rfl | exact ⟨rfl, rfl⟩ | exact decide_eq_true_iff | (constructor <;> first | rfl | simp [ei, eb, es, ec]) | simp [ei, eb, es, ec]) | first | exact rfl | exact Iff.rfl | exact ⟨rfl, rfl⟩ | exact decide_eq_true_iff | (constructor <;> first | rfl | simp [ei, eb, es, ec]) | simp [ei, eb, es, ec])) ?_)
        first | exact trivial | exact rfl
noncomputable def e60 (n : Nat) (a0 : List Int) : Option (Int) :=
  if ((a0.length : Nat) : Int) < 2 then
    (
      ck (0 ≤ (0 : Int) ∧ 0 < ((a0.length : Nat) : Int)) <|
      ck (inR .i32 (a0.getD (0 : Int).toNat 0)) <|
      some (a0.getD (0 : Int).toNat 0)
    )
  else
    (
      if 4 < ((a0.length : Nat) : Int) then
        (
          ck (0 ≤ (0 : Int) ∧ 0 < ((a0.length : Nat) : Int)) <|
          ck (inR .i32 (a0.getD (0 : Int).toNat 0)) <|
          some (a0.getD (0 : Int).toNat 0)
        )
      else
        (
          ck (0 ≤ (0 : Int) ∧ 0 < ((a0.length : Nat) : Int)) <|
          ck (inR .i64 (a0.getD (0 : Int).toNat 0)) <|
          ck (0 ≤ ((a0.length : Nat) : Int) ∧ ((a0.length : Nat) : Int) < ((5 : Nat) : Int)) <|
          ck (inR .i64 ((a0.getD (0 : Int).toNat 0) - (([0, 0, 192, 224, 240]).getD ((a0.length : Nat) : Int).toNat 0))) <|
          jn (α := _) (β := Int) (fun k311 =>
              (itN n (σ := Int × Int) (ρ := Int) (fun s312 =>
                  if s312.2 < ((a0.length : Nat) : Int) then
                    (
                      ck (inR .i32 (s312.1 * 64)) <|
                      ck (0 ≤ s312.2 ∧ s312.2 < ((a0.length : Nat) : Int)) <|
                      ck (inR .i32 (Int.tmod (a0.getD s312.2.toNat 0) 64)) <|
                      ck (inR .i32 ((s312.1 * 64) + (Int.tmod (a0.getD s312.2.toNat 0) 64))) <|
                      ck (inR .i64 (s312.2 + 1)) <|
                      some (.go ((s312.1 * 64) + (Int.tmod (a0.getD s312.2.toNat 0) 64), s312.2 + 1))
                    )
                  else
                    some (.out s312.1)
                ) (IntKind.wrap .i32 ((a0.getD (0 : Int).toNat 0) - (([0, 0, 192, 224, 240]).getD ((a0.length : Nat) : Int).toNat 0)), 1)).bind fun o326 =>
                k311 o326
          ) (fun v310 =>
            some v310
          )
        )
    )
theorem e60_le (n : Nat) (a0 : List Int) : Le (e60 n a0) (g60 a0) := by
  unfold e60 g60
  repeat' first | refine le_bind ?_ (fun _ => ?_) | refine le_ck ?_ | refine le_if ?_ ?_ | refine le_sm (fun _ => ?_) (fun _ => ?_) | refine le_jn (fun _ _ _ => ?_) (fun _ => ?_) | refine le_loop (fun _ => ?_) | with_reducible exact le_refl | apply_assumption

/-- placard/placardref01.tails -/
noncomputable def g86 (a0 : List Int) : Option (Bool) :=
  jn (α := _) (β := Unit) (fun k367 =>
      (loopO (σ := Int) (ρ := (Unit) ⊕ (Unit)) (fun s368 =>
          if s368 < ((a0.length : Nat) : Int) then
            (
              ck (0 ≤ s368 ∧ s368 < ((a0.length : Nat) : Int)) <|
              if (a0.getD s368.toNat 0) < 128 then
                some (.out (.inl (())))
              else
                (
                  ck (0 ≤ s368 ∧ s368 < ((a0.length : Nat) : Int)) <|
                  if 191 < (a0.getD s368.toNat 0) then
                    some (.out (.inl (())))
                  else
                    (
                      ck (inR .i64 (s368 + 1)) <|
                      some (.go (s368 + 1))
                    )
                )
            )
          else
            some (.out (.inr (())))
        ) 1).bind fun o382 =>
      sm o382 (fun o389 =>
          some false
        ) (fun o390 =>
          k367 ()
        )
  ) (fun v366 =>
    some true
  )
noncomputable def k86 : Eng.CS := { f := 86, calm := true, more := 0, ι := (List Int) × Bool, ok := fun i => g86 i.1 = some i.2, rds := fun _ => [], args := fun i => [.sl 1 i.1.length (ei .u8 i.1)], res := fun i => bS i.2 }
set_option maxRecDepth 8000 in
set_option maxHeartbeats 4000000 in
theorem k86_ok : CalmOk Try.prog k86 := by
  refine R.calmspec Try.func86 nm86 rfl ?_
  rintro ⟨a0, r⟩ hok q _ args hargs
  match args, hargs with
  | [_], hargs =>
  obtain ⟨⟨A0, cp0, rfl, hc0, _, hR0⟩, _⟩ := hargs
  refine ⟨envC [] false [(86, 6)], 6, envC_ok (css_nil), rfl, (by intro x hx; simp only [List.mem_cons, List.not_mem_nil, or_false] at hx; rcases hx with rfl <;> rfl), ?_⟩
  have H : Gives (g86 a0) (fun a => a = r) := ⟨r, hok, rfl⟩
  unfold g86 at H
  clear hok
  refine R.cut_fam H 8 [] [] (fun v366 => []) (fun v366 => []) [] 0 (fun H => ?_)
  refine And.intro ?_ ?_
  · refine R.loop_fam (bind_st H) [0] [] (fun _ s368 => [(3, .v (.int .i64 (s368)))]) (fun _ s368 => []) 0 (fun n391 H => ?_)
    refine ⟨(n391, _), ⟨H⟩, ⟨trivial⟩, ?_⟩
    repeat (refine And.intro (Ob.mk (by first | exact rfl | exact Iff.rfl | exact ⟨rfl, rfl⟩ | exact decide_eq_true_iff | (constructor <;> first | rfl | simp [ei, eb, es, ec]) | simp [ei, eb, es, ec])) ?_)
    rintro ⟨m0, s368⟩ H _
    obtain ⟨m369, hm0, H⟩ := IG_succ H
    dsimp only at hm0
    subst hm0
    try dsimp only at H
    refine if_st H (fun h383 H => ?_) (fun h383 H => ?_)
    · refine ob_ix hR0 (fun h => ei0 h) H fun h384 H => ?_
      refine ld_int (e := a0.getD s368.toNat 0) (rd_get hR0 (ei_get (l := a0) (tn h384))) ?_
      refine if_st H (fun h385 H => ?_) (fun h385 H => ?_)
      · replace H := some_st H
        dsimp only [stp, sm] at H
        have hfin := fin_st H
        repeat (refine And.intro (Ob.mk (by first | (rw [← hfin] <;> first | exact rfl | exact Iff.rfl | exact ⟨rfl, rfl⟩ | exact decide_eq_true_iff | (constructor <;> first | rfl | simp [ei, eb, es, ec]) | simp [ei, eb, es, ec]) | first | exact rfl | exact Iff.rfl | exact ⟨rfl, rfl⟩ | exact decide_eq_true_iff | (constructor <;> first | rfl | simp [ei, eb, es, ec]) | simp [ei, eb, es, ec])) ?_)
        first | exact trivial | exact rfl
      · refine ob_ix hR0 (fun h => ei0 h) H fun h386 H => ?_
        refine ld_int (e := a0.getD s368.toNat 0) (rd_get hR0 (ei_get (l := a0) (tn h386))) ?_
        refine if_st H (fun h387 H => ?_) (fun h387 H => ?_)
        · replace H := some_st H
          dsimp only [stp, sm] at H
          have hfin := fin_st H
          repeat (refine And.intro (Ob.mk (by first | (rw [← hfin] <;> first | exact rfl | exact Iff.rfl | exact ⟨rfl, rfl⟩ | exact decide_eq_true_iff | (constructor <;> first | rfl | simp [ei, eb, es, ec]) | simp [ei, eb, es, ec]) | first | exact rfl | exact Iff.rfl | exact ⟨rfl, rfl⟩ | exact decide_eq_true_iff | (constructor <;> first | rfl | simp [ei, eb, es, ec]) | simp [ei, eb, es, ec])) ?_)
          first | exact trivial | exact rfl
        · refine ob_ck H fun h388 H => ?_
          replace H := some_st H
          refine ⟨(m369, s368 + 1), ⟨H, Nat.lt_succ_self _⟩, ⟨trivial⟩, ⟨rfl⟩, ?_⟩
          repeat (refine And.intro (Ob.mk (by first | exact rfl | exact Iff.rfl | exact ⟨rfl, rfl⟩ | exact decide_eq_true_iff | (constructor <;> first | rfl | simp [ei, eb, es, ec]) | simp [ei, eb, es, ec])) ?_)
          first | exact trivial | exact rfl
    · replace H := some_st H
      dsimp only [stp, sm] at H
      refine ⟨(), ⟨H⟩, ⟨rfl⟩, ?_⟩
      repeat (refine And.intro (Ob.mk (by first | exact rfl | exact Iff.rfl | exact ⟨rfl, rfl⟩ | exact decide_eq_true_iff | (constructor <;> first | rfl | simp [ei, eb, es, ec]) | simp [ei, eb, es, ec])) ?_)
      first | exact trivial | exact rfl
  · intro v366 H
    have hfin := fin_st H
    repeat (refine And.intro (Ob.mk (by first | (rw [← hfin] <;> first | exact rfl | exact Iff.rfl | exact ⟨rfl, rfl⟩ | exact decide_eq_true_iff | (constructor <;> first | rfl | simp [ei, eb, es, ec]) | simp [ei, eb, es, ec]) | first | exact rfl | exact Iff.rfl | exact ⟨rfl, rfl⟩ | exact decide_eq_true_iff | (constructor <;> first | rfl | simp [ei, eb, es, ec]) | simp [ei, eb, es, ec])) ?_)
    first | exact trivial | exact rfl
noncomputable def e86 (n : Nat) (a0 : List Int) : Option (Bool) :=
  jn (α := _) (β := Unit) (fun k367 =>
      (itN n (σ := Int) (ρ := (Unit) ⊕ (Unit)) (fun s368 =>
          if s368 < ((a0.length : Nat) : Int) then
            (
              ck (0 ≤ s368 ∧ s368 < ((a0.length : Nat) : Int)) <|
              if (a0.getD s368.toNat 0) < 128 then
                some (.out (.inl (())))
              else
                (
                  ck (0 ≤ s368 ∧ s368 < ((a0.length : Nat) : Int)) <|
                  if 191 < (a0.getD s368.toNat 0) then
                    some (.out (.inl (())))
                  else
                    (
                      ck (inR .i64 (s368 + 1)) <|
                      some (.go (s368 + 1))
                    )
                )
            )
          else
            some (.out (.inr (())))
        ) 1).bind fun o382 =>
      sm o382 (fun o389 =>
          some false
        ) (fun o390 =>
          k367 ()
        )
  ) (fun v366 =>
    some true
  )
theorem e86_le (n : Nat) (a0 : List Int) : Le (e86 n a0) (g86 a0) := by
  unfold e86 g86
  repeat' first | refine le_bind ?_ (fun _ => ?_) | refine le_ck ?_ | refine le_if ?_ ?_ | refine le_sm (fun _ => ?_) (fun _ => ?_) | refine le_jn (fun _ _ _ => ?_) (fun _ => ?_) | refine le_loop (fun _ => ?_) | with_reducible exact le_refl | apply_assumption

/-- placard/placardref01.begins -/
noncomputable def g59 (a0 : List Int) : Option (Bool) :=
  ck (0 ≤ (0 : Int) ∧ 0 < ((a0.length : Nat) : Int)) <|
  (g58 (a0.getD (0 : Int).toNat 0)).bind fun v393 =>
  if v393 < ((a0.length : Nat) : Int) then
    some false
  else
    (
      (g86 a0).bind fun v403 =>
      if ¬ (v403 = true) then
        some false
      else
        (
          ck ((0 + a0.length) * 1 ≤ 140737488355328) <|
          ck ((0 + a0.length) * 1 ≤ 140737488355328) <|
          jn (α := _) (β := List Int × List Int) (fun k423 =>
              (loopO (σ := List Int × List Int) (ρ := List Int × List Int) (fun s424 =>
                  if ((s424.1.length : Nat) : Int) < v393 then
                    (
                      ck ((s424.1.length + 1) * 1 ≤ 140737488355328) <|
                      ck ((s424.2.length + 1) * 1 ≤ 140737488355328) <|
                      some (.go ((s424.1 ++ [128]), (s424.2 ++ [191])))
                    )
                  else
                    some (.out (s424.1, s424.2))
                ) (([] ++ a0), ([] ++ a0))).bind fun o432 =>
                k423 (o432.1, o432.2)
          ) (fun v422 =>
            (g60 v422.1).bind fun v437 =>
            (g60 v422.2).bind fun v439 =>
            ck (0 ≤ v393 ∧ v393 < ((5 : Nat) : Int)) <|
            if (([0, 0, 128, 2048, 65536]).getD v393.toNat 0) ≤ v439 then
              (
                if v437 ≤ 1114111 then
                  (
                    if v437 < 55296 then
                      some true
                    else
                      some (decide (57343 < v439))
                  )
                else
                  some false
              )
            else
              some false
          )
        )
    )
noncomputable def k59 : Eng.CS := { f := 59, calm := true, more := 0, ι := (List Int) × Bool, ok := fun i => g59 i.1 = some i.2, rds := fun _ => [], args := fun i => [.sl 1 i.1.length (ei .u8 i.1)], res := fun i => bS i.2 }
set_option maxRecDepth 8000 in
set_option maxHeartbeats 4000000 in
theorem k59_ok : CalmOk Try.prog k59 := by
  refine R.calmspec Try.func59 nm59 rfl ?_
  rintro ⟨a0, r⟩ hok q _ args hargs
  match args, hargs with
  | [_], hargs =>
  obtain ⟨⟨A0, cp0, rfl, hc0, _, hR0⟩, _⟩ := hargs
  refine ⟨envC [k58, k60, k86] false [(59, 7)], 6, envC_ok (css_cons ⟨fun _ => k58_ok, fun h => (by cases h)⟩ (css_cons ⟨fun _ => k60_ok, fun h => (by cases h)⟩ (css_cons ⟨fun _ => k86_ok, fun h => (by cases h)⟩ (css_nil)))), rfl, (by intro x hx; simp only [List.mem_cons, List.not_mem_nil, or_false] at hx; rcases hx with rfl <;> rfl), ?_⟩
  have H : Gives (g59 a0) (fun a => a = r) := ⟨r, hok, rfl⟩
  unfold g59 at H
  clear hok
  refine ob_ix hR0 (fun h => ei0 h) H fun h392 H => ?_
  refine ld_int (e := a0.getD (0 : Int).toNat 0) (rd_get hR0 (ei_get (l := a0) (tn h392))) ?_
  obtain ⟨v393, hv394, H⟩ := call_st H
  refine ⟨(a0.getD (0 : Int).toNat 0, v393), ⟨hv394⟩, ⟨trivial⟩, ?_⟩
  refine And.intro ⟨rfl⟩ ?_
  refine if_st H (fun h402 H => ?_) (fun h402 H => ?_)
  · have hfin := fin_st H
    repeat (refine And.intro (Ob.mk (by first | (rw [← hfin] <;> first | exact rfl | exact Iff.rfl | exact ⟨rfl, rfl⟩ | exact decide_eq_true_iff | (constructor <;> first | rfl | simp [ei, eb, es, ec]) | simp [ei, eb, es, ec]) | first | exact rfl | exact Iff.rfl | exact ⟨rfl, rfl⟩ | exact decide_eq_true_iff | (constructor <;> first | rfl | simp [ei, eb, es, ec]) | simp [ei, eb, es, ec])) ?_)
    first | exact trivial | exact rfl
  · obtain ⟨v403, hv404, H⟩ := call_st H
    refine ⟨(a0, v403), ⟨hv404⟩, ⟨trivial⟩, ?_⟩
    refine And.intro ⟨rfl, hc0, ei_len.trans ((show _ = _ from rfl).trans (Nat.mul_one _).symm), hR0⟩ ?_
    refine if_st H (fun h405 H => ?_) (fun h405 H => ?_)
    · have hfin := fin_st H
      repeat (refine And.intro (Ob.mk (by first | (rw [← hfin] <;> first | exact rfl | exact Iff.rfl | exact ⟨rfl, rfl⟩ | exact decide_eq_true_iff | (constructor <;> first | rfl | simp [ei, eb, es, ec]) | simp [ei, eb, es, ec]) | first | exact rfl | exact Iff.rfl | exact ⟨rfl, rfl⟩ | exact decide_eq_true_iff | (constructor <;> first | rfl | simp [ei, eb, es, ec]) | simp [ei, eb, es, ec])) ?_)
      first | exact trivial | exact rfl
    · refine rs_st hR0 (by rw [ei_len]; simp) ?_
      refine ob_app (by decide) (by first | exact ei_one | (intro y hy; simp [ei, eb, es, ec] at hy; (first | (rcases hy with rfl | hy) | subst hy | skip); all_goals first | rfl | simp_all [Value.oneCell'])) H fun h406 H => ?_
      refine rs_st hR0 (by rw [ei_len]; simp) ?_
      refine ob_app (by decide) (by first | exact ei_one | (intro y hy; simp [ei, eb, es, ec] at hy; (first | (rcases hy with rfl | hy) | subst hy | skip); all_goals first | rfl | simp_all [Value.oneCell'])) H fun h407 H => ?_
      refine R.cut_fam H 33 [3] [] (fun v422 => [(4, .own 33), (5, .own 34)]) (fun v422 => [(33, .arr 5 1 (v422.1.length) (ei .u8 (v422.1))), (34, .arr 5 1 (v422.2.length) (ei .u8 (v422.2)))]) [] 2 (fun H => ?_)
      refine And.intro ?_ ?_
      · refine R.loop_fam (bind_st H) [3] [] (fun _ s424 => [(4, .own 23), (5, .own 24)]) (fun _ s424 => [(23, .arr 5 1 (s424.1.length) (ei .u8 (s424.1))), (24, .arr 5 1 (s424.2.length) (ei .u8 (s424.2)))]) 2 (fun n436 H => ?_)
        refine ⟨(n436, _), ⟨H⟩, ⟨trivial⟩, ?_⟩
        repeat (refine And.intro (Ob.mk (by first | exact rfl | exact Iff.rfl | exact ⟨rfl, rfl⟩ | exact decide_eq_true_iff | (constructor <;> first | rfl | simp [ei, eb, es, ec]) | simp [ei, eb, es, ec])) ?_)
        rintro ⟨m0, s424⟩ H _
        obtain ⟨m425, hm0, H⟩ := IG_succ H
        dsimp only at hm0
        subst hm0
        try dsimp only at H
        refine if_st H (fun h433 H => ?_) (fun h433 H => ?_)
        · refine ob_app (by decide) (by first | exact ei_one | (intro y hy; simp [ei, eb, es, ec] at hy; (first | (rcases hy with rfl | hy) | subst hy | skip); all_goals first | rfl | simp_all [Value.oneCell'])) H fun h434 H => ?_
          refine ob_app (by decide) (by first | exact ei_one | (intro y hy; simp [ei, eb, es, ec] at hy; (first | (rcases hy with rfl | hy) | subst hy | skip); all_goals first | rfl | simp_all [Value.oneCell'])) H fun h435 H => ?_
          replace H := some_st H
          refine ⟨(m425, ((s424.1 ++ [128]), (s424.2 ++ [191]))), ⟨H, Nat.lt_succ_self _⟩, ⟨trivial⟩, ⟨rfl⟩, ?_⟩
          repeat (refine And.intro (Ob.mk (by first | exact rfl | exact Iff.rfl | exact ⟨rfl, rfl⟩ | exact decide_eq_true_iff | (constructor <;> first | rfl | simp [ei, eb, es, ec]) | simp [ei, eb, es, ec])) ?_)
          first | exact trivial | exact rfl
        · replace H := some_st H
          dsimp only [stp, sm] at H
          refine ⟨(s424.1, s424.2), ⟨H⟩, ⟨rfl⟩, ?_⟩
          repeat (refine And.intro (Ob.mk (by first | exact rfl | exact Iff.rfl | exact ⟨rfl, rfl⟩ | exact decide_eq_true_iff | (constructor <;> first | rfl | simp [ei, eb, es, ec]) | simp [ei, eb, es, ec])) ?_)
          first | exact trivial | exact rfl
      · intro v422 H
        obtain ⟨v437, hv438, H⟩ := call_st H
        refine ⟨(v422.1, v437), ⟨hv438⟩, ⟨trivial⟩, ?_⟩
        refine And.intro ⟨by first | rfl | (simp; done), by first | rfl | (simp [ei, eb, es, ec]; done) | (simp only [ei, eb, es, ec, List.map_append, List.nil_append, List.append_assoc]; rfl)⟩ ?_
        obtain ⟨v439, hv440, H⟩ := call_st H
        refine ⟨(v422.2, v439), ⟨hv440⟩, ⟨trivial⟩, ?_⟩
        refine And.intro ⟨by first | rfl | (simp; done), by first | rfl | (simp [ei, eb, es, ec]; done) | (simp only [ei, eb, es, ec, List.map_append, List.nil_append, List.append_assoc]; rfl)⟩ ?_
        refine ob_ck H fun h441 H => ?_
        refine ld_int (e := ([0, 0, 128, 2048, 65536]).getD v393.toNat 0) (own_get (ys := ei .i32 ([0, 0, 128, 2048, 65536])) (by first | rfl | simp [ei, eb, es, ec]) (ei_get (l := [0, 0, 128, 2048, 65536]) (by first | exact tn h441 | (have := tn h441; simp at this ⊢; omega) | (have := tn h441; simp; omega)))) ?_
        refine if_st H (fun h442 H => ?_) (fun h442 H => ?_)
        · refine if_st H (fun h443 H => ?_) (fun h443 H => ?_)
          · refine if_st H (fun h444 H => ?_) (fun h444 H => ?_)
            · have hfin := fin_st H
              repeat (refine And.intro (Ob.mk (by first | (rw [← hfin] <;> first | exact rfl | exact Iff.rfl | exact ⟨rfl, rfl⟩ | exact decide_eq_true_iff | (constructor <;> first | rfl | simp [ei, eb, es, ec]) | simp [ei, eb, es, ec]) | first | exact rfl | exact Iff.rfl | exact ⟨rfl, rfl⟩ | exact decide_eq_true_iff | (constructor <;> first | rfl | simp [ei, eb, es, ec]) | simp [ei, eb, es, ec])) ?_)
              first | exact trivial | exact rfl
            · have hfin := fin_st H
              repeat (refine And.intro (Ob.mk (by first | (rw [← hfin] <;> first | exact rfl | exact Iff.rfl | exact ⟨rfl, rfl⟩ | exact decide_eq_true_iff | (constructor <;> first | rfl | simp [ei, eb, es, ec]) | simp [ei, eb, es, ec]) | first | exact rfl | exact Iff.rfl | exact ⟨rfl, rfl⟩ | exact decide_eq_true_iff | (constructor <;> first | rfl | simp [ei, eb, es, ec]) | simp [ei, eb, es, ec])) ?_)
              first | exact trivial | exact rfl
          · have hfin := fin_st H
            repeat (refine And.intro (Ob.mk (by first | (rw [← hfin] <;> first | exact rfl | exact Iff.rfl | exact ⟨rfl, rfl⟩ | exact decide_eq_true_iff | (constructor <;> first | rfl | simp [ei, eb, es, ec]) | simp [ei, eb, es, ec]) | first | exact rfl | exact Iff.rfl | exact ⟨rfl, rfl⟩ | exact decide_eq_true_iff | (constructor <;> first | rfl | simp [ei, eb, es, ec]) | simp [ei, eb, es, ec])) ?_)
            first | exact trivial | exact rfl
        · have hfin := fin_st H
          repeat (refine And.intro (Ob.mk (by first | (rw [← hfin] <;> first | exact rfl | exact Iff.rfl | exact ⟨rfl, rfl⟩ | exact decide_eq_true_iff | (constructor <;> first | rfl | simp [ei, eb, es, ec]) | simp [ei, eb, es, ec]) | first | exact rfl | exact Iff.rfl | exact ⟨rfl, rfl⟩ | exact decide_eq_true_iff | (constructor <;> first | rfl | simp [ei, eb, es, ec]) | simp [ei, eb, es, ec])) ?_)
          first | exact trivial | exact rfl
noncomputable def e59 (n : Nat) (a0 : List Int) : Option (Bool) :=
  ck (0 ≤ (0 : Int) ∧ 0 < ((a0.length : Nat) : Int)) <|
  (e58 n (a0.getD (0 : Int).toNat 0)).bind fun v393 =>
  if v393 < ((a0.length : Nat) : Int) then
    some false
  else
    (
      (e86 n a0).bind fun v403 =>
      if ¬ (v403 = true) then
        some false
      else
        (
          ck ((0 + a0.length) * 1 ≤ 140737488355328) <|
          ck ((0 + a0.length) * 1 ≤ 140737488355328) <|
          jn (α := _) (β := List Int × List Int) (fun k423 =>
              (itN n (σ := List Int × List Int) (ρ := List Int × List Int) (fun s424 =>
                  if ((s424.1.length : Nat) : Int) < v393 then
                    (
                      ck ((s424.1.length + 1) * 1 ≤ 140737488355328) <|
                      ck ((s424.2.length + 1) * 1 ≤ 140737488355328) <|
                      some (.go ((s424.1 ++ [128]), (s424.2 ++ [191])))
                    )
                  else
                    some (.out (s424.1, s424.2))
                ) (([] ++ a0), ([] ++ a0))).bind fun o432 =>
                k423 (o432.1, o432.2)
          ) (fun v422 =>
            (e60 n v422.1).bind fun v437 =>
            (e60 n v422.2).bind fun v439 =>
            ck (0 ≤ v393 ∧ v393 < ((5 : Nat) : Int)) <|
            if (([0, 0, 128, 2048, 65536]).getD v393.toNat 0) ≤ v439 then
              (
                if v437 ≤ 1114111 then
                  (
                    if v437 < 55296 then
                      some true
                    else
                      some (decide (57343 < v439))
                  )
                else
                  some false
              )
            else
              some false
          )
        )
    )
theorem e59_le (n : Nat) (a0 : List Int) : Le (e59 n a0) (g59 a0) := by
  unfold e59 g59
  repeat' first | exact e58_le _ _ | exact e60_le _ _ | exact e86_le _ _ | refine le_bind ?_ (fun _ => ?_) | refine le_ck ?_ | refine le_if ?_ ?_ | refine le_sm (fun _ => ?_) (fun _ => ?_) | refine le_jn (fun _ _ _ => ?_) (fun _ => ?_) | refine le_loop (fun _ => ?_) | with_reducible exact le_refl | apply_assumption

/-- placard/placardref01.Next -/
noncomputable def g16 (a0 : List Int) : Option (Int × Int × Bool) :=
  if ((a0.length : Nat) : Int) = 0 then
    some (0, 0, true)
  else
    (
      ck (0 ≤ (0 : Int) ∧ 0 < ((a0.length : Nat) : Int)) <|
      (g58 (a0.getD (0 : Int).toNat 0)).bind fun v448 =>
      jn (α := _) (β := Bool) (fun k482 =>
          if 0 < v448 then
            (
              if v448 ≤ ((a0.length : Nat) : Int) then
                (
                  ck (0 ≤ (0 : Int) ∧ (0 : Int) ≤ v448 ∧ v448 ≤ ((a0.length : Nat) : Int)) <|
                  (g59 ((a0.drop (0 : Int).toNat).take (v448.toNat - (0 : Int).toNat))).bind fun v487 =>
                  k482 v487
                )
              else
                k482 false
            )
          else
            k482 false
      ) (fun v481 =>
        if v481 = true then
          (
            ck (0 ≤ (0 : Int) ∧ (0 : Int) ≤ v448 ∧ v448 ≤ ((a0.length : Nat) : Int)) <|
            (g60 ((a0.drop (0 : Int).toNat).take (v448.toNat - (0 : Int).toNat))).bind fun v492 =>
            some (v492, v448, false)
          )
        else
          (
            if 0 < v448 then
              (
                if ((a0.length : Nat) : Int) < v448 then
                  (
                    (g59 a0).bind fun v505 =>
                    if v505 = true then
                      some (0, 0, true)
                    else
                      some (65533, 1, false)
                  )
                else
                  some (65533, 1, false)
              )
            else
              some (65533, 1, false)
          )
      )
    )
noncomputable def k16 : Eng.CS := { f := 16, calm := true, more := 0, ι := (List Int) × (Int × Int × Bool), ok := fun i => g16 i.1 = some i.2, rds := fun _ => [], args := fun i => [.sl 1 i.1.length (ei .u8 i.1)], res := fun i => .tup [.v (.int .i32 (i.2.1)), .v (.int .i64 (i.2.2.1)), bS i.2.2.2] }
set_option maxRecDepth 8000 in
set_option maxHeartbeats 4000000 in
theorem k16_ok : CalmOk Try.prog k16 := by
  refine R.calmspec Try.func16 nm16 rfl ?_
  rintro ⟨a0, r⟩ hok q _ args hargs
  match args, hargs with
  | [_], hargs =>
  obtain ⟨⟨A0, cp0, rfl, hc0, _, hR0⟩, _⟩ := hargs
  refine ⟨envC [k58, k59, k60] false [(16, 5)], 6, envC_ok (css_cons ⟨fun _ => k58_ok, fun h => (by cases h)⟩ (css_cons ⟨fun _ => k59_ok, fun h => (by cases h)⟩ (css_cons ⟨fun _ => k60_ok, fun h => (by cases h)⟩ (css_nil)))), rfl, (by intro x hx; simp only [List.mem_cons, List.not_mem_nil, or_false] at hx; rcases hx with rfl <;> rfl), ?_⟩
  have H : Gives (g16 a0) (fun a => a = r) := ⟨r, hok, rfl⟩
  unfold g16 at H
  clear hok
  refine if_st H (fun h446 H => ?_) (fun h446 H => ?_)
  · have hfin := fin_st H
    repeat (refine And.intro (Ob.mk (by first | (rw [← hfin] <;> first | exact rfl | exact Iff.rfl | exact ⟨rfl, rfl⟩ | exact decide_eq_true_iff | (constructor <;> first | rfl | simp [ei, eb, es, ec]) | simp [ei, eb, es, ec]) | first | exact rfl | exact Iff.rfl | exact ⟨rfl, rfl⟩ | exact decide_eq_true_iff | (constructor <;> first | rfl | simp [ei, eb, es, ec]) | simp [ei, eb, es, ec])) ?_)
    first | exact trivial | exact rfl
  · refine ob_ix hR0 (fun h => ei0 h) H fun h447 H => ?_
    refine ld_int (e := a0.getD (0 : Int).toNat 0) (rd_get hR0 (ei_get (l := a0) (tn h447))) ?_
    obtain ⟨v448, hv449, H⟩ := call_st H
    refine ⟨(a0.getD (0 : Int).toNat 0, v448), ⟨hv449⟩, ⟨trivial⟩, ?_⟩
    refine And.intro ⟨rfl⟩ ?_
    refine R.cut_fam H 26 [0, 5] [] (fun v481 => [(26, bS v481)]) (fun v481 => []) [] 0 (fun H => ?_)
    refine And.intro ?_ ?_
    · refine if_st H (fun h483 H => ?_) (fun h483 H => ?_)
      · refine if_st H (fun h484 H => ?_) (fun h484 H => ?_)
        · refine ob_sl hc0 H fun h485 H => ?_
          have hs486 := sl_ei hR0 rfl hc0 h485
          obtain ⟨v487, hv488, H⟩ := call_st H
          refine ⟨(((a0.drop (0 : Int).toNat).take (v448.toNat - (0 : Int).toNat)), v487), ⟨hv488⟩, ⟨trivial⟩, ?_⟩
          refine And.intro ⟨(hs486.2.1).symm, hs486.2.2, ei_len.trans ((show _ = _ from hs486.2.1).trans (Nat.mul_one _).symm), hs486.1⟩ ?_
          refine ⟨v487, ⟨H⟩, ⟨rfl⟩, ?_⟩
          repeat (refine And.intro (Ob.mk (by first | exact rfl | exact Iff.rfl | exact ⟨rfl, rfl⟩ | exact decide_eq_true_iff | (constructor <;> first | rfl | simp [ei, eb, es, ec]) | simp [ei, eb, es, ec])) ?_)
          first | exact trivial | exact rfl
        · refine ⟨false, ⟨H⟩, ⟨rfl⟩, ?_⟩
          repeat (refine And.intro (Ob.mk (by first | exact rfl | exact Iff.rfl | exact ⟨rfl, rfl⟩ | exact decide_eq_true_iff | (constructor <;> first | rfl | simp [ei, eb, es, ec]) | simp [ei, eb, es, ec])) ?_)
          first | exact trivial | exact rfl
      · refine ⟨false, ⟨H⟩, ⟨rfl⟩, ?_⟩
        repeat (refine And.intro (Ob.mk (by first | exact rfl | exact Iff.rfl | exact ⟨rfl, rfl⟩ | exact decide_eq_true_iff | (constructor <;> first | rfl | simp [ei, eb, es, ec]) | simp [ei, eb, es, ec])) ?_)
        first | exact trivial | exact rfl
    · intro v481 H
      refine if_st H (fun h489 H => ?_) (fun h489 H => ?_)
      · refine ob_sl hc0 H fun h490 H => ?_
        have hs491 := sl_ei hR0 rfl hc0 h490
        obtain ⟨v492, hv493, H⟩ := call_st H
        refine ⟨(((a0.drop (0 : Int).toNat).take (v448.toNat - (0 : Int).toNat)), v492), ⟨hv493⟩, ⟨trivial⟩, ?_⟩
        refine And.intro ⟨(hs491.2.1).symm, hs491.2.2, ei_len.trans ((show _ = _ from hs491.2.1).trans (Nat.mul_one _).symm), hs491.1⟩ ?_
        have hfin := fin_st H
        repeat (refine And.intro (Ob.mk (by first | (rw [← hfin] <;> first | exact rfl | exact Iff.rfl | exact ⟨rfl, rfl⟩ | exact decide_eq_true_iff | (constructor <;> first | rfl | simp [ei, eb, es, ec]) | simp [ei, eb, es, ec]) | first | exact rfl | exact Iff.rfl | exact ⟨rfl, rfl⟩ | exact decide_eq_true_iff | (constructor <;> first | rfl | simp [ei, eb, es, ec]) | simp [ei, eb, es, ec])) ?_)
        first | exact trivial | exact rfl
      · refine if_st H (fun h503 H => ?_) (fun h503 H => ?_)
        · refine if_st H (fun h504 H => ?_) (fun h504 H => ?_)
          · obtain ⟨v505, hv506, H⟩ := call_st H
            refine ⟨(a0, v505), ⟨hv506⟩, ⟨trivial⟩, ?_⟩
            refine And.intro ⟨rfl, hc0, ei_len.trans ((show _ = _ from rfl).trans (Nat.mul_one _).symm), hR0⟩ ?_
            refine if_st H (fun h507 H => ?_) (fun h507 H => ?_)
            · have hfin := fin_st H
              repeat (refine And.intro (Ob.mk (by first | (rw [← hfin] <;> first | exact rfl | exact Iff.rfl | exact ⟨rfl, rfl⟩ | exact decide_eq_true_iff | (constructor <;> first | rfl | simp [ei, eb, es, ec]) | simp [ei, eb, es, ec]) | first | exact rfl | exact Iff.rfl | exact ⟨rfl, rfl⟩ | exact decide_eq_true_iff | (constructor <;> first | rfl | simp [ei, eb, es, ec]) | simp [ei, eb, es, ec])) ?_)
              first | exact trivial | exact rfl
            · have hfin := fin_st H
              repeat (refine And.intro (Ob.mk (by first | (rw [← hfin] <;> first | exact rfl | exact Iff.rfl | exact ⟨rfl, rfl⟩ | exact decide_eq_true_iff | (constructor <;> first | rfl | simp [ei, eb, es, ec]) | simp [ei, eb, es, ec]) | first | exact rfl | exact Iff.rfl | exact ⟨rfl, rfl⟩ | exact decide_eq_true_iff | (constructor <;> first | rfl | simp [ei, eb, es, ec]) | simp [ei, eb, es, ec])) ?_)
              first | exact trivial | exact rfl
          · have hfin := fin_st H
            repeat (refine And.intro (Ob.mk (by first | (rw [← hfin] <;> first | exact rfl | exact Iff.rfl | exact ⟨rfl, rfl⟩ | exact decide_eq_true_iff | (constructor <;> first | rfl | simp [ei, eb, es, ec]) | simp [ei, eb, es, ec]) | first | exact rfl | exact Iff.rfl | exact ⟨rfl, rfl⟩ | exact decide_eq_true_iff | (constructor <;> first | rfl | simp [ei, eb, es, ec]) | simp [ei, eb, es, ec])) ?_)
            first | exact trivial | exact rfl
        · have hfin := fin_st H
          repeat (refine And.intro (Ob.mk (by first | (rw [← hfin] <;> first | exact rfl | exact Iff.rfl | exact ⟨rfl, rfl⟩ | exact decide_eq_true_iff | (constructor <;> first | rfl | simp [ei, eb, es, ec]) | simp [ei, eb, es, ec]) | first | exact rfl | exact Iff.rfl | exact ⟨rfl, rfl⟩ | exact decide_eq_true_iff | (constructor <;> first | rfl | simp [ei, eb, es, ec]) | simp [ei, eb, es, ec])) ?_)
          first | exact trivial | exact rfl
noncomputable def e16 (n : Nat) (a0 : List Int) : Option (Int × Int × Bool) :=
  if ((a0.length : Nat) : Int) = 0 then
    some (0, 0, true)
  else
    (
      ck (0 ≤ (0 : Int) ∧ 0 < ((a0.length : Nat) : Int)) <|
      (e58 n (a0.getD (0 : Int).toNat 0)).bind fun v448 =>
      jn (α := _) (β := Bool) (fun k482 =>
          if 0 < v448 then
            (
              if v448 ≤ ((a0.length : Nat) : Int) then
                (
                  ck (0 ≤ (0 : Int) ∧ (0 : Int) ≤ v448 ∧ v448 ≤ ((a0.length : Nat) : Int)) <|
                  (e59 n ((a0.drop (0 : Int).toNat).take (v448.toNat - (0 : Int).toNat))).bind fun v487 =>
                  k482 v487
                )
              else
                k482 false
            )
          else
            k482 false
      ) (fun v481 =>
        if v481 = true then
          (
            ck (0 ≤ (0 : Int) ∧ (0 : Int) ≤ v448 ∧ v448 ≤ ((a0.length : Nat) : Int)) <|
            (e60 n ((a0.drop (0 : Int).toNat).take (v448.toNat - (0 : Int).toNat))).bind fun v492 =>
            some (v492, v448, false)
          )
        else
          (
            if 0 < v448 then
              (
                if ((a0.length : Nat) : Int) < v448 then
                  (
                    (e59 n a0).bind fun v505 =>
                    if v505 = true then
                      some (0, 0, true)
                    else
                      some (65533, 1, false)
                  )
                else
                  some (65533, 1, false)
              )
            else
              some (65533, 1, false)
          )
      )
    )
theorem e16_le (n : Nat) (a0 : List Int) : Le (e16 n a0) (g16 a0) := by
  unfold e16 g16
  repeat' first | exact e58_le _ _ | exact e59_le _ _ | exact e60_le _ _ | refine le_bind ?_ (fun _ => ?_) | refine le_ck ?_ | refine le_if ?_ ?_ | refine le_sm (fun _ => ?_) (fun _ => ?_) | refine le_jn (fun _ _ _ => ?_) (fun _ => ?_) | refine le_loop (fun _ => ?_) | with_reducible exact le_refl | apply_assumption

/-- placard/placardlaw01.awake -/
noncomputable def g20  : Option (Bool) :=
  (g15 ([226, 130])).bind fun v508 =>
  (g15 ([226, 130, 172])).bind fun v510 =>
  (g15 ([226, 65])).bind fun v512 =>
  if v508.2.2 = true then
    (
      if v510.1 = 8364 then
        (
          if v510.2.1 = 3 then
            (
              if v512.1 = 65533 then
                (
                  if v512.2.1 = 1 then
                    (
                      (g17 8364).bind fun v519 =>
                      ck (isBytes v519) <|
                      some (decide ((strOf v519).data.toList = (lit [226, 130, 172]).data.toList))
                    )
                  else
                    some false
                )
              else
                some false
            )
          else
            some false
        )
      else
        some false
    )
  else
    some false
noncomputable def k20 : Eng.CS := { f := 20, calm := true, more := 0, ι := Bool, ok := fun i => g20  = some i, rds := fun _ => [], args := fun i => [], res := fun i => bS i }
set_option maxRecDepth 8000 in
set_option maxHeartbeats 4000000 in
theorem k20_ok : CalmOk Try.prog k20 := by
  refine R.calmspec Try.func20 nm20 rfl ?_
  rintro r hok q _ args hargs
  match args, hargs with
  | [], hargs =>
  refine ⟨envC [k15, k17] false [], 6, envC_ok (css_cons ⟨fun _ => k15_ok, fun h => (by cases h)⟩ (css_cons ⟨fun h => (by cases h), fun _ => k17_ok⟩ (css_nil))), rfl, (by intro x hx; cases hx), ?_⟩
  have H : Gives (g20 ) (fun a => a = r) := ⟨r, hok, rfl⟩
  unfold g20 at H
  clear hok
  obtain ⟨v508, hv509, H⟩ := call_st H
  refine ⟨([226, 130], v508), ⟨hv509⟩, ⟨trivial⟩, ?_⟩
  refine And.intro ⟨by first | rfl | (simp; done), by first | rfl | (simp [ei, eb, es, ec]; done) | (simp only [ei, eb, es, ec, List.map_append, List.nil_append, List.append_assoc]; rfl)⟩ ?_
  obtain ⟨v510, hv511, H⟩ := call_st H
  refine ⟨([226, 130, 172], v510), ⟨hv511⟩, ⟨trivial⟩, ?_⟩
  refine And.intro ⟨by first | rfl | (simp; done), by first | rfl | (simp [ei, eb, es, ec]; done) | (simp only [ei, eb, es, ec, List.map_append, List.nil_append, List.append_assoc]; rfl)⟩ ?_
  obtain ⟨v512, hv513, H⟩ := call_st H
  refine ⟨([226, 65], v512), ⟨hv513⟩, ⟨trivial⟩, ?_⟩
  refine And.intro ⟨by first | rfl | (simp; done), by first | rfl | (simp [ei, eb, es, ec]; done) | (simp only [ei, eb, es, ec, List.map_append, List.nil_append, List.append_assoc]; rfl)⟩ ?_
  refine if_st H (fun h514 H => ?_) (fun h514 H => ?_)
  · refine if_st H (fun h515 H => ?_) (fun h515 H => ?_)
    · refine if_st H (fun h516 H => ?_) (fun h516 H => ?_)
      · refine if_st H (fun h517 H => ?_) (fun h517 H => ?_)
        · refine if_st H (fun h518 H => ?_) (fun h518 H => ?_)
          · obtain ⟨v519, hv520, H⟩ := call_st H
            refine ⟨(8364, v519), ⟨hv520⟩, ⟨trivial⟩, ?_⟩
            refine And.intro ⟨rfl⟩ ?_
            refine ob_str (l := v519) H fun h521 H => ?_
            have hfin := fin_st H
            repeat (refine And.intro (Ob.mk (by first | (rw [← hfin] <;> first | exact rfl | exact Iff.rfl | exact ⟨rfl, rfl⟩ | exact decide_eq_true_iff | (constructor <;> first | rfl | simp [ei, eb, es, ec]) | simp [ei, eb, es, ec]) | first | exact rfl | exact Iff.rfl | exact ⟨rfl, rfl⟩ | exact decide_eq_true_iff | (constructor <;> first | rfl | simp [ei, eb, es, ec]) | simp [ei, eb, es, ec])) ?_)
            first | exact trivial | exact rfl
          · have hfin := fin_st H
            repeat (refine And.intro (Ob.mk (by first | (rw [← hfin] <;> first | exact rfl | exact Iff.rfl | exact ⟨rfl, rfl⟩ | exact decide_eq_true_iff | (constructor <;> first | rfl | simp [ei, eb, es, ec]) | simp [ei, eb, es, ec]) | first | exact rfl | exact Iff.rfl | exact ⟨rfl, rfl⟩ | exact decide_eq_true_iff | (constructor <;> first | rfl | simp [ei, eb, es, ec]) | simp [ei, eb, es, ec])) ?_)
            first | exact trivial | exact rfl
        · have hfin := fin_st H
          repeat (refine And.intro (Ob.mk (by first | (rw [← hfin] <;> first | exact rfl | exact Iff.rfl | exact ⟨rfl, rfl⟩ | exact decide_eq_true_iff | (constructor <;> first | rfl | simp [ei, eb, es, ec]) | simp [ei, eb, es, ec]) | first | exact rfl | exact Iff.rfl | exact ⟨rfl, rfl⟩ | exact decide_eq_true_iff | (constructor <;> first | rfl | simp [ei, eb, es, ec]) | simp [ei, eb, es, ec])) ?_)
          first | exact trivial | exact rfl
      · have hfin := fin_st H
        repeat (refine And.intro (Ob.mk (by first | (rw [← hfin] <;> first | exact rfl | exact Iff.rfl | exact ⟨rfl, rfl⟩ | exact decide_eq_true_iff | (constructor <;> first | rfl | simp [ei, eb, es, ec]) | simp [ei, eb, es, ec]) | first | exact rfl | exact Iff.rfl | exact ⟨rfl, rfl⟩ | exact decide_eq_true_iff | (constructor <;> first | rfl | simp [ei, eb, es, ec]) | simp [ei, eb, es, ec])) ?_)
        first | exact trivial | exact rfl
    · have hfin := fin_st H
      repeat (refine And.intro (Ob.mk (by first | (rw [← hfin] <;> first | exact rfl | exact Iff.rfl | exact ⟨rfl, rfl⟩ | exact decide_eq_true_iff | (constructor <;> first | rfl | simp [ei, eb, es, ec]) | simp [ei, eb, es, ec]) | first | exact rfl | exact Iff.rfl | exact ⟨rfl, rfl⟩ | exact decide_eq_true_iff | (constructor <;> first | rfl | simp [ei, eb, es, ec]) | simp [ei, eb, es, ec])) ?_)
      first | exact trivial | exact rfl
  · have hfin := fin_st H
    repeat (refine And.intro (Ob.mk (by first | (rw [← hfin] <;> first | exact rfl | exact Iff.rfl | exact ⟨rfl, rfl⟩ | exact decide_eq_true_iff | (constructor <;> first | rfl | simp [ei, eb, es, ec]) | simp [ei, eb, es, ec]) | first | exact rfl | exact Iff.rfl | exact ⟨rfl, rfl⟩ | exact decide_eq_true_iff | (constructor <;> first | rfl | simp [ei, eb, es, ec]) | simp [ei, eb, es, ec])) ?_)
    first | exact trivial | exact rfl
noncomputable def e20 (n : Nat)  : Option (Bool) :=
  (e15 n ([226, 130])).bind fun v508 =>
  (e15 n ([226, 130, 172])).bind fun v510 =>
  (e15 n ([226, 65])).bind fun v512 =>
  if v508.2.2 = true then
    (
      if v510.1 = 8364 then
        (
          if v510.2.1 = 3 then
            (
              if v512.1 = 65533 then
                (
                  if v512.2.1 = 1 then
                    (
                      (e17 n 8364).bind fun v519 =>
                      ck (isBytes v519) <|
                      some (decide ((strOf v519).data.toList = (lit [226, 130, 172]).data.toList))
                    )
                  else
                    some false
                )
              else
                some false
            )
          else
            some false
        )
      else
        some false
    )
  else
    some false
theorem e20_le (n : Nat)  : Le (e20 n ) (g20 ) := by
  unfold e20 g20
  repeat' first | exact e15_le _ _ | exact e17_le _ _ | refine le_bind ?_ (fun _ => ?_) | refine le_ck ?_ | refine le_if ?_ ?_ | refine le_sm (fun _ => ?_) (fun _ => ?_) | refine le_jn (fun _ _ _ => ?_) (fun _ => ?_) | refine le_loop (fun _ => ?_) | with_reducible exact le_refl | apply_assumption

/-- placard/placardlaw01.RunesNext -/
noncomputable def g3 (a0 : List Int) (a1 : Int) : Option (Bool) :=
  ck (0 ≤ (0 : Int) ∧ (0 : Int) ≤ gmin ((a0.length : Nat) : Int) 400 ∧ gmin ((a0.length : Nat) : Int) 400 ≤ ((a0.length : Nat) : Int)) <|
  (g15 ((a0.drop (0 : Int).toNat).take ((gmin ((a0.length : Nat) : Int) 400).toNat - (0 : Int).toNat))).bind fun v526 =>
  (g16 ((a0.drop (0 : Int).toNat).take ((gmin ((a0.length : Nat) : Int) 400).toNat - (0 : Int).toNat))).bind fun v528 =>
  (g17 a1).bind fun v530 =>
  ck ((0 + v530.length) * 1 ≤ 140737488355328) <|
  ck ((0 + v530.length + ((gmin ((a0.length : Nat) : Int) 400).toNat - (0 : Int).toNat)) * 1 ≤ 140737488355328) <|
  (g15 (([] ++ v530) ++ ((a0.drop (0 : Int).toNat).take ((gmin ((a0.length : Nat) : Int) 400).toNat - (0 : Int).toNat)))).bind fun v534 =>
  if ¬ v526.1 = v528.1 then
    some false
  else
    (
      if ¬ v526.2.1 = v528.2.1 then
        some false
      else
        (
          if ¬ ((v526.2.2 = true) ↔ (v528.2.2 = true)) then
            some false
          else
            (
              ck (isBytes v530) <|
              (g18 a1).bind fun v559 =>
              ck (isBytes v559) <|
              if ¬ ((strOf v530).data.toList = (strOf v559).data.toList) then
                some false
              else
                (
                  if v534.2.2 = true then
                    some false
                  else
                    (
                      if ¬ v534.2.1 = ((v530.length : Nat) : Int) then
                        some false
                      else
                        (
                          if v534.1 = a1 then
                            (
                              (g20).bind fun v566 =>
                              some v566
                            )
                          else
                            (
                              (g19 a1).bind fun v568 =>
                              if ¬ (v568 = true) then
                                (
                                  if v534.1 = 65533 then
                                    (
                                      (g20).bind fun v572 =>
                                      some v572
                                    )
                                  else
                                    some false
                                )
                              else
                                some false
                            )
                        )
                    )
                )
            )
        )
    )
noncomputable def k3 : Eng.CS := { f := 3, calm := true, more := 0, ι := (List Int) × Int × Bool, ok := fun i => g3 i.1 i.2.1 = some i.2.2, rds := fun _ => [], args := fun i => [.sl 1 i.1.length (ei .u8 i.1), .w (.v (.int .i32 (i.2.1)))], res := fun i => bS i.2.2 }
set_option maxRecDepth 8000 in
set_option maxHeartbeats 4000000 in
theorem k3_ok : CalmOk Try.prog k3 := by
  refine R.calmspec Try.func3 nm3 rfl ?_
  rintro ⟨a0, a1, r⟩ hok q _ args hargs
  match args, hargs with
  | [_, _], hargs =>
  obtain ⟨⟨A0, cp0, rfl, hc0, _, hR0⟩, rfl, _⟩ := hargs
  refine ⟨envC [k15, k16, k17, k18, k19, k20] false [], 6, envC_ok (css_cons ⟨fun _ => k15_ok, fun h => (by cases h)⟩ (css_cons ⟨fun _ => k16_ok, fun h => (by cases h)⟩ (css_cons ⟨fun h => (by cases h), fun _ => k17_ok⟩ (css_cons ⟨fun h => (by cases h), fun _ => k18_ok⟩ (css_cons ⟨fun _ => k19_ok, fun h => (by cases h)⟩ (css_cons ⟨fun _ => k20_ok, fun h => (by cases h)⟩ (css_nil))))))), rfl, (by intro x hx; simp only [List.mem_cons, List.not_mem_nil, or_false] at hx; rcases hx with rfl | rfl <;> rfl), ?_⟩
  have H : Gives (g3 a0 a1) (fun a => a = r) := ⟨r, hok, rfl⟩
  unfold g3 at H
  clear hok
  refine ob_sl hc0 H fun h524 H => ?_
  have hs525 := sl_ei hR0 rfl hc0 h524
  obtain ⟨v526, hv527, H⟩ := call_st H
  refine ⟨(((a0.drop (0 : Int).toNat).take ((gmin ((a0.length : Nat) : Int) 400).toNat - (0 : Int).toNat)), v526), ⟨hv527⟩, ⟨trivial⟩, ?_⟩
  refine And.intro ⟨(hs525.2.1).symm, hs525.2.2, ei_len.trans ((show _ = _ from hs525.2.1).trans (Nat.mul_one _).symm), hs525.1⟩ ?_
  obtain ⟨v528, hv529, H⟩ := call_st H
  refine ⟨(((a0.drop (0 : Int).toNat).take ((gmin ((a0.length : Nat) : Int) 400).toNat - (0 : Int).toNat)), v528), ⟨hv529⟩, ⟨trivial⟩, ?_⟩
  refine And.intro ⟨(hs525.2.1).symm, hs525.2.2, ei_len.trans ((show _ = _ from hs525.2.1).trans (Nat.mul_one _).symm), hs525.1⟩ ?_
  obtain ⟨v530, hv531, H⟩ := call_st H
  refine ⟨(a1, v530), ⟨hv531⟩, ⟨trivial⟩, ?_⟩
  refine And.intro ⟨rfl⟩ ?_
  refine ob_app (by decide) (by first | exact ei_one | (intro y hy; simp [ei, eb, es, ec] at hy; (first | (rcases hy with rfl | hy) | subst hy | skip); all_goals first | rfl | simp_all [Value.oneCell'])) H fun h532 H => ?_
  refine rs_st hs525.1 (by rw [ei_len, hs525.2.1]; simp) ?_
  refine ob_app (by decide) (by first | exact ei_one | (intro y hy; simp [ei, eb, es, ec] at hy; (first | (rcases hy with rfl | hy) | subst hy | skip); all_goals first | rfl | simp_all [Value.oneCell'])) H fun h533 H => ?_
  obtain ⟨v534, hv535, H⟩ := call_st H
  refine ⟨((([] ++ v530) ++ ((a0.drop (0 : Int).toNat).take ((gmin ((a0.length : Nat) : Int) 400).toNat - (0 : Int).toNat))), v534), ⟨hv535⟩, ⟨trivial⟩, ?_⟩
  refine And.intro ⟨by first | rfl | (simp; done) | (simp only [List.nil_append, List.length_append, List.length_cons, List.length_nil, Nat.zero_add]; first | done | (have hh : (gmin ((a0.length : Nat) : Int) 400).toNat - (0 : Int).toNat = ((a0.drop (0 : Int).toNat).take ((gmin ((a0.length : Nat) : Int) 400).toNat - (0 : Int).toNat)).length := (hs525.2.1).symm; first | exact hh | exact Nat.add_left_cancel_iff.mpr hh | omega)), by first | rfl | (simp [ei, eb, es, ec]; done) | (simp only [ei, eb, es, ec, List.map_append, List.nil_append, List.append_assoc]; rfl)⟩ ?_
  refine And.intro ⟨by kernel_rfl⟩ ?_
  refine ⟨(Pn.calm 0 (Pn.calm 1 (Pn.calm 2 (Pn.calm 3 (Pn.calm 4 (Pn.calm 5 (Pn.calm 6 (Pn.calm 7 (Pn.calm 8 (Pn.calm 9 (Pn.calm 10 (Pn.calm 11 (Pn.calm 12 (Pn.calm 13 (Pn.calm 14 (Pn.calm 15 (Pn.calm 16 (Pn.eff 17 [16, 13, 12, 8, 11, 7, 3, 9, 10, 6, 2, 4, 5, 0, 1] (Pn.calm 18 (Pn.calm 19 (Pn.calm 20 (Pn.calm 21 (Pn.calm 22 (Pn.calm 23 (Pn.calm 24 (Pn.calm 25 (Pn.calm 26 (Pn.calm 27 (Pn.calm 28 (Pn.calm 29 Pn.done)))))))))))) Pn.no)))))))))))))))))), ⟨by kernel_rfl⟩, ?_⟩
  refine if_st H (fun h555 H => ?_) (fun h555 H => ?_)
  · refine And.intro ?_ trivial
    have hfin := fin_st H
    repeat (refine And.intro (Ob.mk (by first | (rw [← hfin] <;> first | exact rfl | exact Iff.rfl | exact ⟨rfl, rfl⟩ | exact decide_eq_true_iff | (constructor <;> first | rfl | simp [ei, eb, es, ec]) | simp [ei, eb, es, ec]) | first | exact rfl | exact Iff.rfl | exact ⟨rfl, rfl⟩ | exact decide_eq_true_iff | (constructor <;> first | rfl | simp [ei, eb, es, ec]) | simp [ei, eb, es, ec])) ?_)
    first | exact trivial | exact rfl
  · refine if_st H (fun h556 H => ?_) (fun h556 H => ?_)
    · refine And.intro ?_ trivial
      have hfin := fin_st H
      repeat (refine And.intro (Ob.mk (by first | (rw [← hfin] <;> first | exact rfl | exact Iff.rfl | exact ⟨rfl, rfl⟩ | exact decide_eq_true_iff | (constructor <;> first | rfl | simp [ei, eb, es, ec]) | simp [ei, eb, es, ec]) | first | exact rfl | exact Iff.rfl | exact ⟨rfl, rfl⟩ | exact decide_eq_true_iff | (constructor <;> first | rfl | simp [ei, eb, es, ec]) | simp [ei, eb, es, ec])) ?_)
      first | exact trivial | exact rfl
    · refine if_st H (fun h557 H => ?_) (fun h557 H => ?_)
      · refine And.intro ?_ trivial
        have hfin := fin_st H
        repeat (refine And.intro (Ob.mk (by first | (rw [← hfin] <;> first | exact rfl | exact Iff.rfl | exact ⟨rfl, rfl⟩ | exact decide_eq_true_iff | (constructor <;> first | rfl | simp [ei, eb, es, ec]) | simp [ei, eb, es, ec]) | first | exact rfl | exact Iff.rfl | exact ⟨rfl, rfl⟩ | exact decide_eq_true_iff | (constructor <;> first | rfl | simp [ei, eb, es, ec]) | simp [ei, eb, es, ec])) ?_)
        first | exact trivial | exact rfl
      · refine ob_str (l := v530) H fun h558 H => ?_
        refine And.intro ?_ trivial
        obtain ⟨v559, hv560, H⟩ := call_st H
        refine ⟨(a1, v559), ⟨hv560⟩, ⟨trivial⟩, ?_⟩
        refine And.intro ⟨rfl⟩ ?_
        refine And.intro ⟨rfl⟩ ?_
        refine ob_str (l := v559) H fun h561 H => ?_
        refine if_st H (fun h562 H => ?_) (fun h562 H => ?_)
        · have hfin := fin_st H
          repeat (refine And.intro (Ob.mk (by first | (rw [← hfin] <;> first | exact rfl | exact Iff.rfl | exact ⟨rfl, rfl⟩ | exact decide_eq_true_iff | (constructor <;> first | rfl | simp [ei, eb, es, ec]) | simp [ei, eb, es, ec]) | first | exact rfl | exact Iff.rfl | exact ⟨rfl, rfl⟩ | exact decide_eq_true_iff | (constructor <;> first | rfl | simp [ei, eb, es, ec]) | simp [ei, eb, es, ec])) ?_)
          first | exact trivial | exact rfl
        · refine if_st H (fun h563 H => ?_) (fun h563 H => ?_)
          · have hfin := fin_st H
            repeat (refine And.intro (Ob.mk (by first | (rw [← hfin] <;> first | exact rfl | exact Iff.rfl | exact ⟨rfl, rfl⟩ | exact decide_eq_true_iff | (constructor <;> first | rfl | simp [ei, eb, es, ec]) | simp [ei, eb, es, ec]) | first | exact rfl | exact Iff.rfl | exact ⟨rfl, rfl⟩ | exact decide_eq_true_iff | (constructor <;> first | rfl | simp [ei, eb, es, ec]) | simp [ei, eb, es, ec])) ?_)
            first | exact trivial | exact rfl
          · refine if_st H (fun h564 H => ?_) (fun h564 H => ?_)
            · have hfin := fin_st H
              repeat (refine And.intro (Ob.mk (by first | (rw [← hfin] <;> first | exact rfl | exact Iff.rfl | exact ⟨rfl, rfl⟩ | exact decide_eq_true_iff | (constructor <;> first | rfl | simp [ei, eb, es, ec]) | simp [ei, eb, es, ec]) | first | exact rfl | exact Iff.rfl | exact ⟨rfl, rfl⟩ | exact decide_eq_true_iff | (constructor <;> first | rfl | simp [ei, eb, es, ec]) | simp [ei, eb, es, ec])) ?_)
              first | exact trivial | exact rfl
            · refine if_st H (fun h565 H => ?_) (fun h565 H => ?_)
              · obtain ⟨v566, hv567, H⟩ := call_st H
                refine ⟨v566, ⟨hv567⟩, ⟨trivial⟩, ?_⟩
                have hfin := fin_st H
                repeat (refine And.intro (Ob.mk (by first | (rw [← hfin] <;> first | exact rfl | exact Iff.rfl | exact ⟨rfl, rfl⟩ | exact decide_eq_true_iff | (constructor <;> first | rfl | simp [ei, eb, es, ec]) | simp [ei, eb, es, ec]) | first | exact rfl | exact Iff.rfl | exact ⟨rfl, rfl⟩ | exact decide_eq_true_iff | (constructor <;> first | rfl | simp [ei, eb, es, ec]) | simp [ei, eb, es, ec])) ?_)
                first | exact trivial | exact rfl
              · obtain ⟨v568, hv569, H⟩ := call_st H
                refine ⟨(a1, v568), ⟨hv569⟩, ⟨trivial⟩, ?_⟩
                refine And.intro ⟨rfl⟩ ?_
                refine if_st H (fun h570 H => ?_) (fun h570 H => ?_)
                · refine if_st H (fun h571 H => ?_) (fun h571 H => ?_)
                  · obtain ⟨v572, hv573, H⟩ := call_st H
                    refine ⟨v572, ⟨hv573⟩, ⟨trivial⟩, ?_⟩
                    have hfin := fin_st H
                    repeat (refine And.intro (Ob.mk (by first | (rw [← hfin] <;> first | exact rfl | exact Iff.rfl | exact ⟨rfl, rfl⟩ | exact decide_eq_true_iff | (constructor <;> first | rfl | simp [ei, eb, es, ec]) | simp [ei, eb, es, ec]) | first | exact rfl | exact Iff.rfl | exact ⟨rfl, rfl⟩ | exact decide_eq_true_iff | (constructor <;> first | rfl | simp [ei, eb, es, ec]) | simp [ei, eb, es, ec])) ?_)
                    first | exact trivial | exact rfl
                  · have hfin := fin_st H
                    repeat (refine And.intro (Ob.mk (by first | (rw [← hfin] <;> first | exact rfl | exact Iff.rfl | exact ⟨rfl, rfl⟩ | exact decide_eq_true_iff | (constructor <;> first | rfl | simp [ei, eb, es, ec]) | simp [ei, eb, es, ec]) | first | exact rfl | exact Iff.rfl | exact ⟨rfl, rfl⟩ | exact decide_eq_true_iff | (constructor <;> first | rfl | simp [ei, eb, es, ec]) | simp [ei, eb, es, ec])) ?_)
                    first | exact trivial | exact rfl
                · have hfin := fin_st H
                  repeat (refine And.intro (Ob.mk (by first | (rw [← hfin] <;> first | exact rfl | exact Iff.rfl | exact ⟨rfl, rfl⟩ | exact decide_eq_true_iff | (constructor <;> first | rfl | simp [ei, eb, es, ec]) | simp [ei, eb, es, ec]) | first | exact rfl | exact Iff.rfl | exact ⟨rfl, rfl⟩ | exact decide_eq_true_iff | (constructor <;> first | rfl | simp [ei, eb, es, ec]) | simp [ei, eb, es, ec])) ?_)
                  first | exact trivial | exact rfl
noncomputable def e3 (n : Nat) (a0 : List Int) (a1 : Int) : Option (Bool) :=
  ck (0 ≤ (0 : Int) ∧ (0 : Int) ≤ gmin ((a0.length : Nat) : Int) 400 ∧ gmin ((a0.length : Nat) : Int) 400 ≤ ((a0.length : Nat) : Int)) <|
  (e15 n ((a0.drop (0 : Int).toNat).take ((gmin ((a0.length : Nat) : Int) 400).toNat - (0 : Int).toNat))).bind fun v526 =>
  (e16 n ((a0.drop (0 : Int).toNat).take ((gmin ((a0.length : Nat) : Int) 400).toNat - (0 : Int).toNat))).bind fun v528 =>
  (e17 n a1).bind fun v530 =>
  ck ((0 + v530.length) * 1 ≤ 140737488355328) <|
  ck ((0 + v530.length + ((gmin ((a0.length : Nat) : Int) 400).toNat - (0 : Int).toNat)) * 1 ≤ 140737488355328) <|
  (e15 n (([] ++ v530) ++ ((a0.drop (0 : Int).toNat).take ((gmin ((a0.length : Nat) : Int) 400).toNat - (0 : Int).toNat)))).bind fun v534 =>
  if ¬ v526.1 = v528.1 then
    some false
  else
    (
      if ¬ v526.2.1 = v528.2.1 then
        some false
      else
        (
          if ¬ ((v526.2.2 = true) ↔ (v528.2.2 = true)) then
            some false
          else
            (
              ck (isBytes v530) <|
              (e18 n a1).bind fun v559 =>
              ck (isBytes v559) <|
              if ¬ ((strOf v530).data.toList = (strOf v559).data.toList) then
                some false
              else
                (
                  if v534.2.2 = true then
                    some false
                  else
                    (
                      if ¬ v534.2.1 = ((v530.length : Nat) : Int) then
                        some false
                      else
                        (
                          if v534.1 = a1 then
                            (
                              (e20 n).bind fun v566 =>
                              some v566
                            )
                          else
                            (
                              (e19 n a1).bind fun v568 =>
                              if ¬ (v568 = true) then
                                (
                                  if v534.1 = 65533 then
                                    (
                                      (e20 n).bind fun v572 =>
                                      some v572
                                    )
                                  else
                                    some false
                                )
                              else
                                some false
                            )
                        )
                    )
                )
            )
        )
    )
theorem e3_le (n : Nat) (a0 : List Int) (a1 : Int) : Le (e3 n a0 a1) (g3 a0 a1) := by
  unfold e3 g3
  repeat' first | exact e15_le _ _ | exact e16_le _ _ | exact e17_le _ _ | exact e18_le _ _ | exact e19_le _ _ | exact e20_le _ | refine le_bind ?_ (fun _ => ?_) | refine le_ck ?_ | refine le_if ?_ ?_ | refine le_sm (fun _ => ?_) (fun _ => ?_) | refine le_jn (fun _ _ _ => ?_) (fun _ => ?_) | refine le_loop (fun _ => ?_) | with_reducible exact le_refl | apply_assumption

end Go.Proofs.Ytcnofjjiepcpjaa
