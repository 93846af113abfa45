/-
  Functions of the program, lifted: each with its walk. Printed by lift.py.
  Nothing here is trusted.
-/
import Derived.Test.YtenjkphlbdhaiaaDoorEngTD
import Derived.Test.YtenjkphlbdhaiaaDoorEngLc
set_option linter.unusedVariables false
set_option linter.unusedSimpArgs false
namespace Go.Proofs.YtenjkphlbdhaiaaDoor
open Go Go.Eng

theorem mo1_LiftD1 {p q : Prop} (k : q) (h : p := by first | exact rfl | exact Iff.rfl | exact ⟨rfl, rfl⟩ | exact decide_eq_true_iff | (constructor <;> first | exact rfl | (simp only [ei, eb, es, ec, List.map_append, List.flatMap_append, List.nil_append, List.append_nil, List.append_assoc]; done) | omega | (simp only [List.nil_append, List.length_append, List.length_cons, List.length_nil]; omega) | (simp [ei, eb, es, ec]; done)) | exact rfl | (simp only [ei, eb, es, ec, List.map_append, List.flatMap_append, List.nil_append, List.append_nil, List.append_assoc]; done) | omega | (simp only [List.nil_append, List.length_append, List.length_cons, List.length_nil]; omega) | (simp [ei, eb, es, ec]; done) | simp [ei, eb, es, ec]) : Ob p ∧ q := ⟨⟨h⟩, k⟩
theorem mf1_LiftD1 {p q : Prop} (k : q) (h : p := by first | (rw [← hfin] <;> first | exact rfl | exact Iff.rfl | exact ⟨rfl, rfl⟩ | exact decide_eq_true_iff | (constructor <;> first | exact rfl | (simp only [ei, eb, es, ec, List.map_append, List.flatMap_append, List.nil_append, List.append_nil, List.append_assoc]; done) | omega | (simp only [List.nil_append, List.length_append, List.length_cons, List.length_nil]; omega) | (simp [ei, eb, es, ec]; done)) | exact rfl | (simp only [ei, eb, es, ec, List.map_append, List.flatMap_append, List.nil_append, List.append_nil, List.append_assoc]; done) | omega | (simp only [List.nil_append, List.length_append, List.length_cons, List.length_nil]; omega) | (simp [ei, eb, es, ec]; done) | simp [ei, eb, es, ec]) | first | exact rfl | exact Iff.rfl | exact ⟨rfl, rfl⟩ | exact decide_eq_true_iff | (constructor <;> first | exact rfl | (simp only [ei, eb, es, ec, List.map_append, List.flatMap_append, List.nil_append, List.append_nil, List.append_assoc]; done) | omega | (simp only [List.nil_append, List.length_append, List.length_cons, List.length_nil]; omega) | (simp [ei, eb, es, ec]; done)) | exact rfl | (simp only [ei, eb, es, ec, List.map_append, List.flatMap_append, List.nil_append, List.append_nil, List.append_assoc]; done) | omega | (simp only [List.nil_append, List.length_append, List.length_cons, List.length_nil]; omega) | (simp [ei, eb, es, ec]; done) | simp [ei, eb, es, ec]) : Ob p ∧ q := ⟨⟨h⟩, k⟩
/-- placard/runes.shapeOf -/
noncomputable def g66 (a0 : Int) : Option ((Int × Int × Int × Int)) :=
  if a0 < 128 then
    (
      ck (inR .i32 a0) <|
      some (1, 0, 0, a0)
    )
  else
    (
      if a0 < 194 then
        some (0, 0, 0, 0)
      else
        (
          if a0 < 224 then
            (
              ck (inR .i32 (bits .and .u8 a0 31)) <|
              some (2, 128, 191, bits .and .u8 a0 31)
            )
          else
            (
              if a0 = 224 then
                some (3, 160, 191, 0)
              else
                (
                  if a0 = 237 then
                    some (3, 128, 159, 13)
                  else
                    (
                      if a0 < 240 then
                        (
                          ck (inR .i32 (bits .and .u8 a0 15)) <|
                          some (3, 128, 191, bits .and .u8 a0 15)
                        )
                      else
                        (
                          if a0 = 240 then
                            some (4, 144, 191, 0)
                          else
                            (
                              if a0 < 244 then
                                (
                                  ck (inR .i32 (bits .and .u8 a0 7)) <|
                                  some (4, 128, 191, bits .and .u8 a0 7)
                                )
                              else
                                (
                                  if a0 = 244 then
                                    some (4, 128, 143, 4)
                                  else
                                    some (0, 0, 0, 0)
                                )
                            )
                        )
                    )
                )
            )
        )
    )
noncomputable def k66 : Eng.CS := { f := 66, calm := true, more := 0, ι := Int × (Int × Int × Int × Int), ok := fun i => g66 i.1 = some i.2, rds := fun _ => [], args := fun i => [.w (.v (.int .u8 (i.1)))], res := fun i => .agg [.v (.int .i64 (i.2.1)), .v (.int .u8 (i.2.2.1)), .v (.int .u8 (i.2.2.2.1)), .v (.int .i32 (i.2.2.2.2))] }
set_option maxRecDepth 8000 in
set_option maxHeartbeats 4000000 in
theorem k66_ok : CalmOk Tryd.prog k66 := by
  refine R.calmspec Tryd.func66 nm66 rfl ?_
  rintro ⟨a0, r⟩ hok q _ args hargs
  match args, hargs with
  | [_], hargs =>
  obtain ⟨rfl, _⟩ := hargs
  refine ⟨envC [] false [], 6, envC_ok (css_nil), rfl, (by intro x hx; simp only [List.mem_cons, List.not_mem_nil, or_false] at hx; rcases hx with rfl <;> rfl), ?_⟩
  have H : Gives (g66 a0) (fun a => a = r) := ⟨r, hok, rfl⟩
  unfold g66 at H
  clear hok
  refine if_st H (fun h14 H => ?_) (fun h14 H => ?_)
  · refine ob_ck H fun h15 H => ?_
    have hfin := fin_st H
    repeat refine mf1_LiftD1 ?_
    first | exact trivial | exact rfl
  · refine if_st H (fun h16 H => ?_) (fun h16 H => ?_)
    · have hfin := fin_st H
      repeat refine mf1_LiftD1 ?_
      first | exact trivial | exact rfl
    · refine if_st H (fun h17 H => ?_) (fun h17 H => ?_)
      · refine ob_ck H fun h18 H => ?_
        have hfin := fin_st H
        repeat refine mf1_LiftD1 ?_
        first | exact trivial | exact rfl
      · refine if_st H (fun h19 H => ?_) (fun h19 H => ?_)
        · have hfin := fin_st H
          repeat refine mf1_LiftD1 ?_
          first | exact trivial | exact rfl
        · refine if_st H (fun h20 H => ?_) (fun h20 H => ?_)
          · have hfin := fin_st H
            repeat refine mf1_LiftD1 ?_
            first | exact trivial | exact rfl
          · refine if_st H (fun h21 H => ?_) (fun h21 H => ?_)
            · refine ob_ck H fun h22 H => ?_
              have hfin := fin_st H
              repeat refine mf1_LiftD1 ?_
              first | exact trivial | exact rfl
            · refine if_st H (fun h23 H => ?_) (fun h23 H => ?_)
              · have hfin := fin_st H
                repeat refine mf1_LiftD1 ?_
                first | exact trivial | exact rfl
              · refine if_st H (fun h24 H => ?_) (fun h24 H => ?_)
                · refine ob_ck H fun h25 H => ?_
                  have hfin := fin_st H
                  repeat refine mf1_LiftD1 ?_
                  first | exact trivial | exact rfl
                · refine if_st H (fun h26 H => ?_) (fun h26 H => ?_)
                  · have hfin := fin_st H
                    repeat refine mf1_LiftD1 ?_
                    first | exact trivial | exact rfl
                  · have hfin := fin_st H
                    repeat refine mf1_LiftD1 ?_
                    first | exact trivial | exact rfl

/-- placard/runes.isRune -/
noncomputable def g64 (a0 : Int) : Option (Bool) :=
  if 0 ≤ a0 then
    (
      if a0 ≤ 1114111 then
        (
          if a0 < 55296 then
            some true
          else
            some (decide (57343 < a0))
        )
      else
        some false
    )
  else
    some false
noncomputable def k64 : Eng.CS := { f := 64, calm := true, more := 0, ι := Int × Bool, ok := fun i => g64 i.1 = some i.2, rds := fun _ => [], args := fun i => [.w (.v (.int .i32 (i.1)))], res := fun i => bS i.2 }
set_option maxRecDepth 8000 in
set_option maxHeartbeats 4000000 in
theorem k64_ok : CalmOk Tryd.prog k64 := by
  refine R.calmspec Tryd.func64 nm64 rfl ?_
  rintro ⟨a0, r⟩ hok q _ args hargs
  match args, hargs with
  | [_], hargs =>
  obtain ⟨rfl, _⟩ := hargs
  refine ⟨envC [] false [], 6, envC_ok (css_nil), rfl, (by intro x hx; simp only [List.mem_cons, List.not_mem_nil, or_false] at hx; rcases hx with rfl <;> rfl), ?_⟩
  have H : Gives (g64 a0) (fun a => a = r) := ⟨r, hok, rfl⟩
  unfold g64 at H
  clear hok
  refine if_st H (fun h27 H => ?_) (fun h27 H => ?_)
  · refine if_st H (fun h28 H => ?_) (fun h28 H => ?_)
    · refine if_st H (fun h29 H => ?_) (fun h29 H => ?_)
      · have hfin := fin_st H
        repeat refine mf1_LiftD1 ?_
        first | exact trivial | exact rfl
      · have hfin := fin_st H
        repeat refine mf1_LiftD1 ?_
        first | exact trivial | exact rfl
    · have hfin := fin_st H
      repeat refine mf1_LiftD1 ?_
      first | exact trivial | exact rfl
  · have hfin := fin_st H
    repeat refine mf1_LiftD1 ?_
    first | exact trivial | exact rfl

/-- placard/runes.six -/
noncomputable def g65 (a0 : Int) (a1 : Int) : Option (Int) :=
  ck (0 ≤ a1 ∧ a1 ≤ ((IntKind.bits .i32 : Nat) : Int)) <|
  some (bits .or .u8 128 (bits .and .u8 (IntKind.wrap .u8 (a0 / 2 ^ a1.toNat)) 63))
noncomputable def k65 : Eng.CS := { f := 65, calm := true, more := 0, ι := Int × Int × Int, ok := fun i => g65 i.1 i.2.1 = some i.2.2, rds := fun _ => [], args := fun i => [.w (.v (.int .i32 (i.1))), .w (.v (.int .u64 (i.2.1)))], res := fun i => .v (.int .u8 (i.2.2)) }
set_option maxRecDepth 8000 in
set_option maxHeartbeats 4000000 in
theorem k65_ok : CalmOk Tryd.prog k65 := by
  refine R.calmspec Tryd.func65 nm65 rfl ?_
  rintro ⟨a0, a1, r⟩ hok q _ args hargs
  match args, hargs with
  | [_, _], hargs =>
  obtain ⟨rfl, rfl, _⟩ := hargs
  refine ⟨envC [] false [], 6, envC_ok (css_nil), rfl, (by intro x hx; simp only [List.mem_cons, List.not_mem_nil, or_false] at hx; rcases hx with rfl | rfl <;> rfl), ?_⟩
  have H : Gives (g65 a0 a1) (fun a => a = r) := ⟨r, hok, rfl⟩
  unfold g65 at H
  clear hok
  refine ob_ck H fun h30 H => ?_
  have hfin := fin_st H
  repeat refine mf1_LiftD1 ?_
  first | exact trivial | exact rfl

/-- placard/runes.Next -/
noncomputable def g53 (a0 : List Int) : Option (Int × Int × Bool) :=
  if ((a0.length : Nat) : Int) = 0 then
    some (0, 0, true)
  else
    (
      ck (0 ≤ (0 : Int) ∧ 0 < ((a0.length : Nat) : Int)) <|
      (g66 (a0.getD (0 : Int).toNat 0)).bind fun v34 =>
      if v34.1 = 0 then
        some (65533, 1, false)
      else
        (
          jn (α := _) (β := Int) (fun k107 =>
              (loopO (σ := Int × Int) (ρ := (Int × Int × Bool) ⊕ (Int)) (fun s110 =>
                  if s110.2 < v34.1 then
                    (
                      if ((a0.length : Nat) : Int) ≤ s110.2 then
                        some (.out (.inl ((0, 0, true))))
                      else
                        (
                          jn (α := _) (β := Int × Int) (fun k143 =>
                              if s110.2 = 1 then
                                k143 (v34.2.1, v34.2.2.1)
                              else
                                k143 (128, 191)
                          ) (fun v142 =>
                            ck (0 ≤ s110.2 ∧ s110.2 < ((a0.length : Nat) : Int)) <|
                            if (a0.getD s110.2.toNat 0) < v142.1 then
                              some (.out (.inl ((65533, 1, false))))
                            else
                              (
                                ck (0 ≤ s110.2 ∧ s110.2 < ((a0.length : Nat) : Int)) <|
                                if v142.2 < (a0.getD s110.2.toNat 0) then
                                  some (.out (.inl ((65533, 1, false))))
                                else
                                  (
                                    ck (0 ≤ s110.2 ∧ s110.2 < ((a0.length : Nat) : Int)) <|
                                    ck (inR .i32 (bits .and .u8 (a0.getD s110.2.toNat 0) 63)) <|
                                    ck (inR .i64 (s110.2 + 1)) <|
                                    some (.go (bits .or .i32 (IntKind.wrap .i32 (s110.1 * 2 ^ (6 : Int).toNat)) (bits .and .u8 (a0.getD s110.2.toNat 0) 63), s110.2 + 1))
                                  )
                              )
                          )
                        )
                    )
                  else
                    some (.out (.inr (s110.1)))
                ) (v34.2.2.2, 1)).bind fun o138 =>
              sm o138 (fun o152 =>
                  some (o152.1, o152.2.1, o152.2.2)
                ) (fun o153 =>
                  k107 o153
                )
          ) (fun v106 =>
            some (v106, v34.1, false)
          )
        )
    )
noncomputable def k53 : Eng.CS := { f := 53, calm := true, more := 0, ι := (List Int) × (Int × Int × Bool), ok := fun i => g53 i.1 = some i.2, rds := fun _ => [], args := fun i => [.sl 1 i.1.length (ei .u8 i.1)], res := fun i => .tup [.v (.int .i32 (i.2.1)), .v (.int .i64 (i.2.2.1)), bS i.2.2.2] }
set_option maxRecDepth 8000 in
set_option maxHeartbeats 4000000 in
theorem k53_ok : CalmOk Tryd.prog k53 := by
  refine R.calmspec Tryd.func53 nm53 rfl ?_
  rintro ⟨a0, r⟩ hok q _ args hargs
  match args, hargs with
  | [_], hargs =>
  obtain ⟨⟨A0, cp0, rfl, hc0, _, hR0⟩, _⟩ := hargs
  refine ⟨envC [k66] false [(53, 15), (53, 18)], 6, envC_ok (css_cons ⟨fun _ => k66_ok, fun h => (by cases h)⟩ (css_nil)), rfl, (by intro x hx; simp only [List.mem_cons, List.not_mem_nil, or_false] at hx; rcases hx with rfl <;> rfl), ?_⟩
  have H : Gives (g53 a0) (fun a => a = r) := ⟨r, hok, rfl⟩
  unfold g53 at H
  clear hok
  refine if_st H (fun h32 H => ?_) (fun h32 H => ?_)
  · have hfin := fin_st H
    repeat refine mf1_LiftD1 ?_
    first | exact trivial | exact rfl
  · refine ob_ix hR0 (fun h => ei0 h) H fun h33 H => ?_
    refine ld_int (e := a0.getD (0 : Int).toNat 0) (rd_get hR0 (ei_get (l := a0) (tn h33))) ?_
    obtain ⟨v34, hv35, H⟩ := call_st H
    refine ⟨(a0.getD (0 : Int).toNat 0, v34), ⟨hv35⟩, ⟨trivial⟩, ?_⟩
    refine And.intro ⟨rfl⟩ ?_
    refine if_st H (fun h37 H => ?_) (fun h37 H => ?_)
    · have hfin := fin_st H
      repeat refine mf1_LiftD1 ?_
      first | exact trivial | exact rfl
    · refine R.cut_fam H 25 [5] [] (fun v106 => [(2, .v (.int .i32 (v106)))]) (fun v106 => []) [(10, .cells 105 [.v (.int .i64 (v34.1)), .v (.int .u8 (v34.2.1)), .v (.int .u8 (v34.2.2.1)), .v (.int .i32 (v34.2.2.2))])] 0 (fun H => ?_)
      refine And.intro ?_ ?_
      · refine R.loop_fam (bind_st H) [0, 5] [] (fun _ s110 => [(2, .v (.int .i32 (s110.1))), (6, .v (.int .i64 (s110.2)))]) (fun _ s110 => []) 0 (fun n154 H => ?_)
        refine ⟨(n154, _), ⟨H⟩, ⟨trivial⟩, ?_⟩
        repeat refine mo1_LiftD1 ?_
        rintro ⟨m0, s110⟩ H _
        obtain ⟨m111, hm0, H⟩ := IG_succ H
        dsimp only at hm0
        subst hm0
        try dsimp only at H
        refine if_st H (fun h139 H => ?_) (fun h139 H => ?_)
        · refine if_st H (fun h140 H => ?_) (fun h140 H => ?_)
          · replace H := some_st H
            dsimp only [stp, sm] at H
            have hfin := fin_st H
            repeat refine mf1_LiftD1 ?_
            first | exact trivial | exact rfl
          · refine R.cut_fam H 38 [0, 2, 5, 6] [] (fun v142 => [(7, .v (.int .u8 (v142.1))), (8, .v (.int .u8 (v142.2)))]) (fun v142 => []) [(10, .cells 105 [.v (.int .i64 (v34.1)), .v (.int .u8 (v34.2.1)), .v (.int .u8 (v34.2.2.1)), .v (.int .i32 (v34.2.2.2))])] 0 (fun H => ?_)
            refine And.intro ?_ ?_
            · refine if_st H (fun h144 H => ?_) (fun h144 H => ?_)
              · refine And.intro ⟨by kernel_rfl⟩ ?_
                refine ⟨(v34.2.1, v34.2.2.1), ⟨H⟩, ⟨rfl⟩, ?_⟩
                repeat refine mo1_LiftD1 ?_
                first | exact trivial | exact rfl
              · refine ⟨(128, 191), ⟨H⟩, ⟨rfl⟩, ?_⟩
                repeat refine mo1_LiftD1 ?_
                first | exact trivial | exact rfl
            · intro v142 H
              refine ob_ix hR0 (fun h => ei0 h) H fun h145 H => ?_
              refine ld_int (e := a0.getD s110.2.toNat 0) (rd_get hR0 (ei_get (l := a0) (tn h145))) ?_
              refine if_st H (fun h146 H => ?_) (fun h146 H => ?_)
              · replace H := some_st H
                dsimp only [stp, sm] at H
                have hfin := fin_st H
                repeat refine mf1_LiftD1 ?_
                first | exact trivial | exact rfl
              · refine ob_ix hR0 (fun h => ei0 h) H fun h147 H => ?_
                refine ld_int (e := a0.getD s110.2.toNat 0) (rd_get hR0 (ei_get (l := a0) (tn h147))) ?_
                refine if_st H (fun h148 H => ?_) (fun h148 H => ?_)
                · replace H := some_st H
                  dsimp only [stp, sm] at H
                  have hfin := fin_st H
                  repeat refine mf1_LiftD1 ?_
                  first | exact trivial | exact rfl
                · refine And.intro ⟨by decide⟩ ?_
                  refine ob_ix hR0 (fun h => ei0 h) H fun h149 H => ?_
                  refine ld_int (e := a0.getD s110.2.toNat 0) (rd_get hR0 (ei_get (l := a0) (tn h149))) ?_
                  refine ob_ck H fun h150 H => ?_
                  refine ob_ck H fun h151 H => ?_
                  replace H := some_st H
                  refine ⟨(m111, (bits .or .i32 (IntKind.wrap .i32 (s110.1 * 2 ^ (6 : Int).toNat)) (bits .and .u8 (a0.getD s110.2.toNat 0) 63), s110.2 + 1)), ⟨H, Nat.lt_succ_self _⟩, ⟨trivial⟩, ⟨rfl⟩, ?_⟩
                  repeat refine mo1_LiftD1 ?_
                  first | exact trivial | exact rfl
        · replace H := some_st H
          dsimp only [stp, sm] at H
          refine ⟨s110.1, ⟨H⟩, ⟨rfl⟩, ?_⟩
          repeat refine mo1_LiftD1 ?_
          first | exact trivial | exact rfl
      · intro v106 H
        refine And.intro ⟨by kernel_rfl⟩ ?_
        have hfin := fin_st H
        repeat refine mf1_LiftD1 ?_
        first | exact trivial | exact rfl

/-- placard/placardref01.low -/
noncomputable def g46 (a0 : Int) : Option (Int) :=
  ck (inR .i32 (128 + (Int.tmod a0 64))) <|
  some (IntKind.wrap .u8 (128 + (Int.tmod a0 64)))
noncomputable def k46 : Eng.CS := { f := 46, calm := true, more := 0, ι := Int × Int, ok := fun i => g46 i.1 = some i.2, rds := fun _ => [], args := fun i => [.w (.v (.int .i32 (i.1)))], res := fun i => .v (.int .u8 (i.2)) }
set_option maxRecDepth 8000 in
set_option maxHeartbeats 4000000 in
theorem k46_ok : CalmOk Tryd.prog k46 := by
  refine R.calmspec Tryd.func46 nm46 rfl ?_
  rintro ⟨a0, r⟩ hok q _ args hargs
  match args, hargs with
  | [_], hargs =>
  obtain ⟨rfl, _⟩ := hargs
  refine ⟨envC [] false [], 6, envC_ok (css_nil), rfl, (by intro x hx; simp only [List.mem_cons, List.not_mem_nil, or_false] at hx; rcases hx with rfl <;> rfl), ?_⟩
  have H : Gives (g46 a0) (fun a => a = r) := ⟨r, hok, rfl⟩
  unfold g46 at H
  clear hok
  refine And.intro ⟨by decide⟩ ?_
  refine ob_ck H fun h155 H => ?_
  have hfin := fin_st H
  repeat refine mf1_LiftD1 ?_
  first | exact trivial | exact rfl

/-- placard/placardref01.Is -/
noncomputable def g45 (a0 : Int) : Option (Bool) :=
  if 0 ≤ a0 then
    (
      if a0 ≤ 1114111 then
        (
          if a0 < 55296 then
            some true
          else
            some (decide (57343 < a0))
        )
      else
        some false
    )
  else
    some false
noncomputable def k45 : Eng.CS := { f := 45, calm := true, more := 0, ι := Int × Bool, ok := fun i => g45 i.1 = some i.2, rds := fun _ => [], args := fun i => [.w (.v (.int .i32 (i.1)))], res := fun i => bS i.2 }
set_option maxRecDepth 8000 in
set_option maxHeartbeats 4000000 in
theorem k45_ok : CalmOk Tryd.prog k45 := by
  refine R.calmspec Tryd.func45 nm45 rfl ?_
  rintro ⟨a0, r⟩ hok q _ args hargs
  match args, hargs with
  | [_], hargs =>
  obtain ⟨rfl, _⟩ := hargs
  refine ⟨envC [] false [], 6, envC_ok (css_nil), rfl, (by intro x hx; simp only [List.mem_cons, List.not_mem_nil, or_false] at hx; rcases hx with rfl <;> rfl), ?_⟩
  have H : Gives (g45 a0) (fun a => a = r) := ⟨r, hok, rfl⟩
  unfold g45 at H
  clear hok
  refine if_st H (fun h156 H => ?_) (fun h156 H => ?_)
  · refine if_st H (fun h157 H => ?_) (fun h157 H => ?_)
    · refine if_st H (fun h158 H => ?_) (fun h158 H => ?_)
      · have hfin := fin_st H
        repeat refine mf1_LiftD1 ?_
        first | exact trivial | exact rfl
      · have hfin := fin_st H
        repeat refine mf1_LiftD1 ?_
        first | exact trivial | exact rfl
    · have hfin := fin_st H
      repeat refine mf1_LiftD1 ?_
      first | exact trivial | exact rfl
  · have hfin := fin_st H
    repeat refine mf1_LiftD1 ?_
    first | exact trivial | exact rfl

/-- placard/runes.Bytes -/
noncomputable def g51 (a0 : Int) : Option (List Int) :=
  jn (α := _) (β := Int) (fun k166 =>
      (g64 a0).bind fun v167 =>
      if ¬ (v167 = true) then
        k166 65533
      else
        k166 a0
  ) (fun v165 =>
    if v165 < 128 then
      some ([IntKind.wrap .u8 v165])
    else
      (
        if v165 < 2048 then
          (
            (g65 v165 0).bind fun v181 =>
            some ([bits .or .u8 192 (IntKind.wrap .u8 (v165 / 2 ^ (6 : Int).toNat)), v181])
          )
        else
          (
            if v165 < 65536 then
              (
                (g65 v165 6).bind fun v184 =>
                (g65 v165 0).bind fun v186 =>
                some ([bits .or .u8 224 (IntKind.wrap .u8 (v165 / 2 ^ (12 : Int).toNat)), v184, v186])
              )
            else
              (
                (g65 v165 12).bind fun v188 =>
                (g65 v165 6).bind fun v190 =>
                (g65 v165 0).bind fun v192 =>
                some ([bits .or .u8 240 (IntKind.wrap .u8 (v165 / 2 ^ (18 : Int).toNat)), v188, v190, v192])
              )
          )
      )
  )
noncomputable def k51 : Eng.CS := { f := 51, calm := false, more := 1, ι := Int × List Int, ok := fun i => g51 i.1 = some i.2, rds := fun _ => [], args := fun i => [.w (.v (.int .i32 (i.1)))], res := fun i => .own 0, L' := fun i => [(0, .arr 5 1 i.2.length (ei .u8 i.2))], rn := [(0, 0, 5, 1)] }
set_option maxRecDepth 8000 in
set_option maxHeartbeats 4000000 in
theorem k51_ok : CSOk Tryd.prog k51 := by
  refine R.cspec Tryd.func51 nm51 rfl ?_
  rintro ⟨a0, r⟩ hok q _ args hargs
  match args, hargs with
  | [_], hargs =>
  obtain ⟨rfl, _⟩ := hargs
  refine ⟨envC [k64, k65] false [(51, 3)], 6, envC_ok (css_cons ⟨fun _ => k64_ok, fun h => (by cases h)⟩ (css_cons ⟨fun _ => k65_ok, fun h => (by cases h)⟩ (css_nil))), ?_⟩
  have H : Gives (g51 a0) (fun a => a = r) := ⟨r, hok, rfl⟩
  unfold g51 at H
  clear hok
  refine R.cut_fam H 6 [] [] (fun v165 => [(0, .v (.int .i32 (v165)))]) (fun v165 => []) [] 0 (fun H => ?_)
  refine And.intro ?_ ?_
  · obtain ⟨v167, hv168, H⟩ := call_st H
    refine ⟨(a0, v167), ⟨hv168⟩, ⟨trivial⟩, ?_⟩
    refine And.intro ⟨rfl⟩ ?_
    refine if_st H (fun h169 H => ?_) (fun h169 H => ?_)
    · refine ⟨65533, ⟨H⟩, ⟨rfl⟩, ?_⟩
      repeat refine mo1_LiftD1 ?_
      first | exact trivial | exact rfl
    · refine ⟨a0, ⟨H⟩, ⟨rfl⟩, ?_⟩
      repeat refine mo1_LiftD1 ?_
      first | exact trivial | exact rfl
  · intro v165 H
    refine if_st H (fun h179 H => ?_) (fun h179 H => ?_)
    · have hfin := fin_st H
      repeat refine mf1_LiftD1 ?_
      first | exact trivial | exact rfl
    · refine if_st H (fun h180 H => ?_) (fun h180 H => ?_)
      · refine And.intro ⟨by decide⟩ ?_
        obtain ⟨v181, hv182, H⟩ := call_st H
        refine ⟨(v165, 0, v181), ⟨hv182⟩, ⟨trivial⟩, ?_⟩
        refine And.intro ⟨rfl⟩ ?_
        refine And.intro ⟨rfl⟩ ?_
        have hfin := fin_st H
        repeat refine mf1_LiftD1 ?_
        first | exact trivial | exact rfl
      · refine if_st H (fun h183 H => ?_) (fun h183 H => ?_)
        · refine And.intro ⟨by decide⟩ ?_
          obtain ⟨v184, hv185, H⟩ := call_st H
          refine ⟨(v165, 6, v184), ⟨hv185⟩, ⟨trivial⟩, ?_⟩
          refine And.intro ⟨rfl⟩ ?_
          refine And.intro ⟨rfl⟩ ?_
          obtain ⟨v186, hv187, H⟩ := call_st H
          refine ⟨(v165, 0, v186), ⟨hv187⟩, ⟨trivial⟩, ?_⟩
          refine And.intro ⟨rfl⟩ ?_
          refine And.intro ⟨rfl⟩ ?_
          have hfin := fin_st H
          repeat refine mf1_LiftD1 ?_
          first | exact trivial | exact rfl
        · refine And.intro ⟨by decide⟩ ?_
          obtain ⟨v188, hv189, H⟩ := call_st H
          refine ⟨(v165, 12, v188), ⟨hv189⟩, ⟨trivial⟩, ?_⟩
          refine And.intro ⟨rfl⟩ ?_
          refine And.intro ⟨rfl⟩ ?_
          obtain ⟨v190, hv191, H⟩ := call_st H
          refine ⟨(v165, 6, v190), ⟨hv191⟩, ⟨trivial⟩, ?_⟩
          refine And.intro ⟨rfl⟩ ?_
          refine And.intro ⟨rfl⟩ ?_
          obtain ⟨v192, hv193, H⟩ := call_st H
          refine ⟨(v165, 0, v192), ⟨hv193⟩, ⟨trivial⟩, ?_⟩
          refine And.intro ⟨rfl⟩ ?_
          refine And.intro ⟨rfl⟩ ?_
          have hfin := fin_st H
          repeat refine mf1_LiftD1 ?_
          first | exact trivial | exact rfl

/-- placard/placardref01.Bytes -/
noncomputable def g34 (a0 : Int) : Option (List Int) :=
  jn (α := _) (β := Int) (fun k201 =>
      (g45 a0).bind fun v202 =>
      if ¬ (v202 = true) then
        k201 65533
      else
        k201 a0
  ) (fun v200 =>
    if v200 < 128 then
      some ([IntKind.wrap .u8 v200])
    else
      (
        if v200 < 2048 then
          (
            ck (inR .i32 (Int.tdiv v200 64)) <|
            ck (inR .i32 (192 + (Int.tdiv v200 64))) <|
            (g46 v200).bind fun v223 =>
            some ([IntKind.wrap .u8 (192 + (Int.tdiv v200 64)), v223])
          )
        else
          (
            if v200 < 65536 then
              (
                ck (inR .i32 (Int.tdiv v200 4096)) <|
                ck (inR .i32 (224 + (Int.tdiv v200 4096))) <|
                ck (inR .i32 (Int.tdiv v200 64)) <|
                (g46 (Int.tdiv v200 64)).bind fun v229 =>
                (g46 v200).bind fun v231 =>
                some ([IntKind.wrap .u8 (224 + (Int.tdiv v200 4096)), v229, v231])
              )
            else
              (
                ck (inR .i32 (Int.tdiv v200 262144)) <|
                ck (inR .i32 (240 + (Int.tdiv v200 262144))) <|
                ck (inR .i32 (Int.tdiv v200 4096)) <|
                (g46 (Int.tdiv v200 4096)).bind fun v236 =>
                ck (inR .i32 (Int.tdiv v200 64)) <|
                (g46 (Int.tdiv v200 64)).bind fun v239 =>
                (g46 v200).bind fun v241 =>
                some ([IntKind.wrap .u8 (240 + (Int.tdiv v200 262144)), v236, v239, v241])
              )
          )
      )
  )
noncomputable def k34 : Eng.CS := { f := 34, calm := false, more := 1, ι := Int × List Int, ok := fun i => g34 i.1 = some i.2, rds := fun _ => [], args := fun i => [.w (.v (.int .i32 (i.1)))], res := fun i => .own 0, L' := fun i => [(0, .arr 5 1 i.2.length (ei .u8 i.2))], rn := [(0, 0, 5, 1)] }
set_option maxRecDepth 8000 in
set_option maxHeartbeats 4000000 in
theorem k34_ok : CSOk Tryd.prog k34 := by
  refine R.cspec Tryd.func34 nm34 rfl ?_
  rintro ⟨a0, r⟩ hok q _ args hargs
  match args, hargs with
  | [_], hargs =>
  obtain ⟨rfl, _⟩ := hargs
  refine ⟨envC [k45, k46] false [(34, 3)], 6, envC_ok (css_cons ⟨fun _ => k45_ok, fun h => (by cases h)⟩ (css_cons ⟨fun _ => k46_ok, fun h => (by cases h)⟩ (css_nil))), ?_⟩
  have H : Gives (g34 a0) (fun a => a = r) := ⟨r, hok, rfl⟩
  unfold g34 at H
  clear hok
  refine R.cut_fam H 6 [] [] (fun v200 => [(0, .v (.int .i32 (v200)))]) (fun v200 => []) [] 0 (fun H => ?_)
  refine And.intro ?_ ?_
  · obtain ⟨v202, hv203, H⟩ := call_st H
    refine ⟨(a0, v202), ⟨hv203⟩, ⟨trivial⟩, ?_⟩
    refine And.intro ⟨rfl⟩ ?_
    refine if_st H (fun h204 H => ?_) (fun h204 H => ?_)
    · refine ⟨65533, ⟨H⟩, ⟨rfl⟩, ?_⟩
      repeat refine mo1_LiftD1 ?_
      first | exact trivial | exact rfl
    · refine ⟨a0, ⟨H⟩, ⟨rfl⟩, ?_⟩
      repeat refine mo1_LiftD1 ?_
      first | exact trivial | exact rfl
  · intro v200 H
    refine if_st H (fun h219 H => ?_) (fun h219 H => ?_)
    · have hfin := fin_st H
      repeat refine mf1_LiftD1 ?_
      first | exact trivial | exact rfl
    · refine if_st H (fun h220 H => ?_) (fun h220 H => ?_)
      · refine And.intro ⟨by decide⟩ ?_
        refine ob_ck H fun h221 H => ?_
        refine ob_ck H fun h222 H => ?_
        obtain ⟨v223, hv224, H⟩ := call_st H
        refine ⟨(v200, v223), ⟨hv224⟩, ⟨trivial⟩, ?_⟩
        refine And.intro ⟨rfl⟩ ?_
        have hfin := fin_st H
        repeat refine mf1_LiftD1 ?_
        first | exact trivial | exact rfl
      · refine if_st H (fun h225 H => ?_) (fun h225 H => ?_)
        · refine And.intro ⟨by decide⟩ ?_
          refine ob_ck H fun h226 H => ?_
          refine ob_ck H fun h227 H => ?_
          refine And.intro ⟨by decide⟩ ?_
          refine ob_ck H fun h228 H => ?_
          obtain ⟨v229, hv230, H⟩ := call_st H
          refine ⟨(Int.tdiv v200 64, v229), ⟨hv230⟩, ⟨trivial⟩, ?_⟩
          refine And.intro ⟨rfl⟩ ?_
          obtain ⟨v231, hv232, H⟩ := call_st H
          refine ⟨(v200, v231), ⟨hv232⟩, ⟨trivial⟩, ?_⟩
          refine And.intro ⟨rfl⟩ ?_
          have hfin := fin_st H
          repeat refine mf1_LiftD1 ?_
          first | exact trivial | exact rfl
        · refine And.intro ⟨by decide⟩ ?_
          refine ob_ck H fun h233 H => ?_
          refine ob_ck H fun h234 H => ?_
          refine And.intro ⟨by decide⟩ ?_
          refine ob_ck H fun h235 H => ?_
          obtain ⟨v236, hv237, H⟩ := call_st H
          refine ⟨(Int.tdiv v200 4096, v236), ⟨hv237⟩, ⟨trivial⟩, ?_⟩
          refine And.intro ⟨rfl⟩ ?_
          refine And.intro ⟨by decide⟩ ?_
          refine ob_ck H fun h238 H => ?_
          obtain ⟨v239, hv240, H⟩ := call_st H
          refine ⟨(Int.tdiv v200 64, v239), ⟨hv240⟩, ⟨trivial⟩, ?_⟩
          refine And.intro ⟨rfl⟩ ?_
          obtain ⟨v241, hv242, H⟩ := call_st H
          refine ⟨(v200, v241), ⟨hv242⟩, ⟨trivial⟩, ?_⟩
          refine And.intro ⟨rfl⟩ ?_
          have hfin := fin_st H
          repeat refine mf1_LiftD1 ?_
          first | exact trivial | exact rfl

/-- placard/placardref01.length -/
noncomputable def g56 (a0 : Int) : Option (Int) :=
  if a0 < 128 then
    some 1
  else
    (
      jn (α := _) (β := Bool) (fun k261 =>
          if 194 ≤ a0 then
            k261 (decide (a0 < 224))
          else
            k261 false
      ) (fun v260 =>
        if v260 = true then
          some 2
        else
          (
            if 224 ≤ a0 then
              (
                if a0 < 240 then
                  some 3
                else
                  (
                    if 240 ≤ a0 then
                      (
                        if a0 < 245 then
                          some 4
                        else
                          some 0
                      )
                    else
                      some 0
                  )
              )
            else
              (
                if 240 ≤ a0 then
                  (
                    if a0 < 245 then
                      some 4
                    else
                      some 0
                  )
                else
                  some 0
              )
          )
      )
    )
noncomputable def k56 : Eng.CS := { f := 56, calm := true, more := 0, ι := Int × Int, ok := fun i => g56 i.1 = some i.2, rds := fun _ => [], args := fun i => [.w (.v (.int .u8 (i.1)))], res := fun i => .v (.int .i64 (i.2)) }
set_option maxRecDepth 8000 in
set_option maxHeartbeats 4000000 in
theorem k56_ok : CalmOk Tryd.prog k56 := by
  refine R.calmspec Tryd.func56 nm56 rfl ?_
  rintro ⟨a0, r⟩ hok q _ args hargs
  match args, hargs with
  | [_], hargs =>
  obtain ⟨rfl, _⟩ := hargs
  refine ⟨envC [] false [(56, 4)], 6, envC_ok (css_nil), rfl, (by intro x hx; simp only [List.mem_cons, List.not_mem_nil, or_false] at hx; rcases hx with rfl <;> rfl), ?_⟩
  have H : Gives (g56 a0) (fun a => a = r) := ⟨r, hok, rfl⟩
  unfold g56 at H
  clear hok
  refine if_st H (fun h258 H => ?_) (fun h258 H => ?_)
  · have hfin := fin_st H
    repeat refine mf1_LiftD1 ?_
    first | exact trivial | exact rfl
  · refine R.cut_fam H 12 [0] [] (fun v260 => [(6, bS v260)]) (fun v260 => []) [] 0 (fun H => ?_)
    refine And.intro ?_ ?_
    · refine if_st H (fun h262 H => ?_) (fun h262 H => ?_)
      · refine ⟨(decide (a0 < 224)), ⟨H⟩, ⟨rfl⟩, ?_⟩
        repeat refine mo1_LiftD1 ?_
        first | exact trivial | exact rfl
      · refine ⟨false, ⟨H⟩, ⟨rfl⟩, ?_⟩
        repeat refine mo1_LiftD1 ?_
        first | exact trivial | exact rfl
    · intro v260 H
      refine if_st H (fun h263 H => ?_) (fun h263 H => ?_)
      · have hfin := fin_st H
        repeat refine mf1_LiftD1 ?_
        first | exact trivial | exact rfl
      · refine if_st H (fun h264 H => ?_) (fun h264 H => ?_)
        · refine if_st H (fun h265 H => ?_) (fun h265 H => ?_)
          · have hfin := fin_st H
            repeat refine mf1_LiftD1 ?_
            first | exact trivial | exact rfl
          · refine if_st H (fun h266 H => ?_) (fun h266 H => ?_)
            · refine if_st H (fun h267 H => ?_) (fun h267 H => ?_)
              · have hfin := fin_st H
                repeat refine mf1_LiftD1 ?_
                first | exact trivial | exact rfl
              · have hfin := fin_st H
                repeat refine mf1_LiftD1 ?_
                first | exact trivial | exact rfl
            · have hfin := fin_st H
              repeat refine mf1_LiftD1 ?_
              first | exact trivial | exact rfl
        · refine if_st H (fun h268 H => ?_) (fun h268 H => ?_)
          · refine if_st H (fun h269 H => ?_) (fun h269 H => ?_)
            · have hfin := fin_st H
              repeat refine mf1_LiftD1 ?_
              first | exact trivial | exact rfl
            · have hfin := fin_st H
              repeat refine mf1_LiftD1 ?_
              first | exact trivial | exact rfl
          · have hfin := fin_st H
            repeat refine mf1_LiftD1 ?_
            first | exact trivial | exact rfl

/-- placard/placardref01.number -/
noncomputable def g58 (a0 : List Int) : Option (Int) :=
  if ((a0.length : Nat) : Int) < 2 then
    (
      ck (0 ≤ (0 : Int) ∧ 0 < ((a0.length : Nat) : Int)) <|
      ck (inR .i32 (a0.getD (0 : Int).toNat 0)) <|
      some (a0.getD (0 : Int).toNat 0)
    )
  else
    (
      if 4 < ((a0.length : Nat) : Int) then
        (
          ck (0 ≤ (0 : Int) ∧ 0 < ((a0.length : Nat) : Int)) <|
          ck (inR .i32 (a0.getD (0 : Int).toNat 0)) <|
          some (a0.getD (0 : Int).toNat 0)
        )
      else
        (
          ck (0 ≤ (0 : Int) ∧ 0 < ((a0.length : Nat) : Int)) <|
          ck (inR .i64 (a0.getD (0 : Int).toNat 0)) <|
          ck (0 ≤ ((a0.length : Nat) : Int) ∧ ((a0.length : Nat) : Int) < ((5 : Nat) : Int)) <|
          ck (inR .i64 ((a0.getD (0 : Int).toNat 0) - (([0, 0, 192, 224, 240]).getD ((a0.length : Nat) : Int).toNat 0))) <|
          jn (α := _) (β := Int) (fun k317 =>
              (loopO (σ := Int × Int) (ρ := Int) (fun s320 =>
                  if s320.2 < ((a0.length : Nat) : Int) then
                    (
                      ck (inR .i32 (s320.1 * 64)) <|
                      ck (0 ≤ s320.2 ∧ s320.2 < ((a0.length : Nat) : Int)) <|
                      ck (inR .i32 (Int.tmod (a0.getD s320.2.toNat 0) 64)) <|
                      ck (inR .i32 ((s320.1 * 64) + (Int.tmod (a0.getD s320.2.toNat 0) 64))) <|
                      ck (inR .i64 (s320.2 + 1)) <|
                      some (.go ((s320.1 * 64) + (Int.tmod (a0.getD s320.2.toNat 0) 64), s320.2 + 1))
                    )
                  else
                    some (.out s320.1)
                ) (IntKind.wrap .i32 ((a0.getD (0 : Int).toNat 0) - (([0, 0, 192, 224, 240]).getD ((a0.length : Nat) : Int).toNat 0)), 1)).bind fun o334 =>
                k317 o334
          ) (fun v316 =>
            some v316
          )
        )
    )
noncomputable def k58 : Eng.CS := { f := 58, calm := true, more := 0, ι := (List Int) × Int, ok := fun i => g58 i.1 = some i.2, rds := fun _ => [], args := fun i => [.sl 1 i.1.length (ei .u8 i.1)], res := fun i => .v (.int .i32 (i.2)) }
set_option maxRecDepth 8000 in
set_option maxHeartbeats 4000000 in
theorem k58_ok : CalmOk Tryd.prog k58 := by
  refine R.calmspec Tryd.func58 nm58 rfl ?_
  rintro ⟨a0, r⟩ hok q _ args hargs
  match args, hargs with
  | [_], hargs =>
  obtain ⟨⟨A0, cp0, rfl, hc0, _, hR0⟩, _⟩ := hargs
  refine ⟨envC [] false [(58, 9)], 6, envC_ok (css_nil), rfl, (by intro x hx; simp only [List.mem_cons, List.not_mem_nil, or_false] at hx; rcases hx with rfl <;> rfl), ?_⟩
  have H : Gives (g58 a0) (fun a => a = r) := ⟨r, hok, rfl⟩
  unfold g58 at H
  clear hok
  refine if_st H (fun h277 H => ?_) (fun h277 H => ?_)
  · refine ob_ix hR0 (fun h => ei0 h) H fun h278 H => ?_
    refine ld_int (e := a0.getD (0 : Int).toNat 0) (rd_get hR0 (ei_get (l := a0) (tn h278))) ?_
    refine ob_ck H fun h279 H => ?_
    have hfin := fin_st H
    repeat refine mf1_LiftD1 ?_
    first | exact trivial | exact rfl
  · refine if_st H (fun h280 H => ?_) (fun h280 H => ?_)
    · refine ob_ix hR0 (fun h => ei0 h) H fun h281 H => ?_
      refine ld_int (e := a0.getD (0 : Int).toNat 0) (rd_get hR0 (ei_get (l := a0) (tn h281))) ?_
      refine ob_ck H fun h282 H => ?_
      have hfin := fin_st H
      repeat refine mf1_LiftD1 ?_
      first | exact trivial | exact rfl
    · refine And.intro ⟨by kernel_rfl⟩ ?_
      refine ob_ix hR0 (fun h => ei0 h) H fun h283 H => ?_
      refine ld_int (e := a0.getD (0 : Int).toNat 0) (rd_get hR0 (ei_get (l := a0) (tn h283))) ?_
      refine ob_ck H fun h284 H => ?_
      refine ob_ck H fun h285 H => ?_
      refine ld_int (e := ([0, 0, 192, 224, 240]).getD ((a0.length : Nat) : Int).toNat 0) (own_get (ys := ei .i64 ([0, 0, 192, 224, 240])) (by first | rfl | simp [ei, eb, es, ec]) (ei_get (l := [0, 0, 192, 224, 240]) (by first | exact tn h285 | (have := tn h285; simp at this ⊢; omega) | (have := tn h285; simp; omega)))) ?_
      refine ob_ck H fun h286 H => ?_
      refine R.cut_fam H 30 [] [] (fun v316 => [(4, .v (.int .i32 (v316)))]) (fun v316 => []) [(1, .arr 3 1 (5) (ei .i64 ([0, 0, 192, 224, 240])))] 0 (fun H => ?_)
      refine And.intro ?_ ?_
      · refine R.loop_fam (bind_st H) [0] [] (fun _ s320 => [(4, .v (.int .i32 (s320.1))), (5, .v (.int .i64 (s320.2)))]) (fun _ s320 => []) 0 (fun n341 H => ?_)
        refine ⟨(n341, _), ⟨H⟩, ⟨trivial⟩, ?_⟩
        repeat refine mo1_LiftD1 ?_
        rintro ⟨m0, s320⟩ H _
        obtain ⟨m321, hm0, H⟩ := IG_succ H
        dsimp only at hm0
        subst hm0
        try dsimp only at H
        refine if_st H (fun h335 H => ?_) (fun h335 H => ?_)
        · refine ob_ck H fun h336 H => ?_
          refine ob_ix hR0 (fun h => ei0 h) H fun h337 H => ?_
          refine ld_int (e := a0.getD s320.2.toNat 0) (rd_get hR0 (ei_get (l := a0) (tn h337))) ?_
          refine And.intro ⟨by decide⟩ ?_
          refine ob_ck H fun h338 H => ?_
          refine ob_ck H fun h339 H => ?_
          refine ob_ck H fun h340 H => ?_
          replace H := some_st H
          refine ⟨(m321, ((s320.1 * 64) + (Int.tmod (a0.getD s320.2.toNat 0) 64), s320.2 + 1)), ⟨H, Nat.lt_succ_self _⟩, ⟨trivial⟩, ⟨rfl⟩, ?_⟩
          repeat refine mo1_LiftD1 ?_
          first | exact trivial | exact rfl
        · replace H := some_st H
          dsimp only [stp, sm] at H
          refine ⟨s320.1, ⟨H⟩, ⟨rfl⟩, ?_⟩
          repeat refine mo1_LiftD1 ?_
          first | exact trivial | exact rfl
      · intro v316 H
        have hfin := fin_st H
        repeat refine mf1_LiftD1 ?_
        first | exact trivial | exact rfl

/-- placard/placardref01.tails -/
noncomputable def g71 (a0 : List Int) : Option (Bool) :=
  jn (α := _) (β := Unit) (fun k377 =>
      (loopO (σ := Int) (ρ := (Unit) ⊕ (Unit)) (fun s380 =>
          if s380 < ((a0.length : Nat) : Int) then
            (
              ck (0 ≤ s380 ∧ s380 < ((a0.length : Nat) : Int)) <|
              if (a0.getD s380.toNat 0) < 128 then
                some (.out (.inl (())))
              else
                (
                  ck (0 ≤ s380 ∧ s380 < ((a0.length : Nat) : Int)) <|
                  if 191 < (a0.getD s380.toNat 0) then
                    some (.out (.inl (())))
                  else
                    (
                      ck (inR .i64 (s380 + 1)) <|
                      some (.go (s380 + 1))
                    )
                )
            )
          else
            some (.out (.inr (())))
        ) 1).bind fun o394 =>
      sm o394 (fun o401 =>
          some false
        ) (fun o402 =>
          k377 ()
        )
  ) (fun v376 =>
    some true
  )
noncomputable def k71 : Eng.CS := { f := 71, calm := true, more := 0, ι := (List Int) × Bool, ok := fun i => g71 i.1 = some i.2, rds := fun _ => [], args := fun i => [.sl 1 i.1.length (ei .u8 i.1)], res := fun i => bS i.2 }
set_option maxRecDepth 8000 in
set_option maxHeartbeats 4000000 in
theorem k71_ok : CalmOk Tryd.prog k71 := by
  refine R.calmspec Tryd.func71 nm71 rfl ?_
  rintro ⟨a0, r⟩ hok q _ args hargs
  match args, hargs with
  | [_], hargs =>
  obtain ⟨⟨A0, cp0, rfl, hc0, _, hR0⟩, _⟩ := hargs
  refine ⟨envC [] false [(71, 6)], 6, envC_ok (css_nil), rfl, (by intro x hx; simp only [List.mem_cons, List.not_mem_nil, or_false] at hx; rcases hx with rfl <;> rfl), ?_⟩
  have H : Gives (g71 a0) (fun a => a = r) := ⟨r, hok, rfl⟩
  unfold g71 at H
  clear hok
  refine R.cut_fam H 8 [] [] (fun v376 => []) (fun v376 => []) [] 0 (fun H => ?_)
  refine And.intro ?_ ?_
  · refine R.loop_fam (bind_st H) [0] [] (fun _ s380 => [(3, .v (.int .i64 (s380)))]) (fun _ s380 => []) 0 (fun n403 H => ?_)
    refine ⟨(n403, _), ⟨H⟩, ⟨trivial⟩, ?_⟩
    repeat refine mo1_LiftD1 ?_
    rintro ⟨m0, s380⟩ H _
    obtain ⟨m381, hm0, H⟩ := IG_succ H
    dsimp only at hm0
    subst hm0
    try dsimp only at H
    refine if_st H (fun h395 H => ?_) (fun h395 H => ?_)
    · refine ob_ix hR0 (fun h => ei0 h) H fun h396 H => ?_
      refine ld_int (e := a0.getD s380.toNat 0) (rd_get hR0 (ei_get (l := a0) (tn h396))) ?_
      refine if_st H (fun h397 H => ?_) (fun h397 H => ?_)
      · replace H := some_st H
        dsimp only [stp, sm] at H
        have hfin := fin_st H
        repeat refine mf1_LiftD1 ?_
        first | exact trivial | exact rfl
      · refine ob_ix hR0 (fun h => ei0 h) H fun h398 H => ?_
        refine ld_int (e := a0.getD s380.toNat 0) (rd_get hR0 (ei_get (l := a0) (tn h398))) ?_
        refine if_st H (fun h399 H => ?_) (fun h399 H => ?_)
        · replace H := some_st H
          dsimp only [stp, sm] at H
          have hfin := fin_st H
          repeat refine mf1_LiftD1 ?_
          first | exact trivial | exact rfl
        · refine ob_ck H fun h400 H => ?_
          replace H := some_st H
          refine ⟨(m381, s380 + 1), ⟨H, Nat.lt_succ_self _⟩, ⟨trivial⟩, ⟨rfl⟩, ?_⟩
          repeat refine mo1_LiftD1 ?_
          first | exact trivial | exact rfl
    · replace H := some_st H
      dsimp only [stp, sm] at H
      refine ⟨(), ⟨H⟩, ⟨rfl⟩, ?_⟩
      repeat refine mo1_LiftD1 ?_
      first | exact trivial | exact rfl
  · intro v376 H
    have hfin := fin_st H
    repeat refine mf1_LiftD1 ?_
    first | exact trivial | exact rfl

/-- placard/placardref01.begins -/
noncomputable def g57 (a0 : List Int) : Option (Bool) :=
  ck (0 ≤ (0 : Int) ∧ 0 < ((a0.length : Nat) : Int)) <|
  (g56 (a0.getD (0 : Int).toNat 0)).bind fun v405 =>
  if v405 < ((a0.length : Nat) : Int) then
    some false
  else
    (
      (g71 a0).bind fun v415 =>
      if ¬ (v415 = true) then
        some false
      else
        (
          ck ((0 + a0.length) * 1 ≤ 140737488355328) <|
          ck ((0 + a0.length) * 1 ≤ 140737488355328) <|
          jn (α := _) (β := List Int × List Int) (fun k469 =>
              (loopO (σ := List Int × List Int) (ρ := List Int × List Int) (fun s472 =>
                  if ((s472.1.length : Nat) : Int) < v405 then
                    (
                      ck ((s472.1.length + 1) * 1 ≤ 140737488355328) <|
                      ck ((s472.2.length + 1) * 1 ≤ 140737488355328) <|
                      some (.go ((s472.1 ++ [128]), (s472.2 ++ [191])))
                    )
                  else
                    some (.out (s472.1, s472.2))
                ) (([] ++ a0), ([] ++ a0))).bind fun o496 =>
                k469 (o496.1, o496.2)
          ) (fun v468 =>
            (g58 v468.1).bind fun v509 =>
            (g58 v468.2).bind fun v511 =>
            ck (0 ≤ v405 ∧ v405 < ((5 : Nat) : Int)) <|
            if (([0, 0, 128, 2048, 65536]).getD v405.toNat 0) ≤ v511 then
              (
                if v509 ≤ 1114111 then
                  (
                    if v509 < 55296 then
                      some true
                    else
                      some (decide (57343 < v511))
                  )
                else
                  some false
              )
            else
              some false
          )
        )
    )
noncomputable def k57 : Eng.CS := { f := 57, calm := true, more := 0, ι := (List Int) × Bool, ok := fun i => g57 i.1 = some i.2, rds := fun _ => [], args := fun i => [.sl 1 i.1.length (ei .u8 i.1)], res := fun i => bS i.2 }
set_option maxRecDepth 8000 in
set_option maxHeartbeats 4000000 in
theorem k57_ok : CalmOk Tryd.prog k57 := by
  refine R.calmspec Tryd.func57 nm57 rfl ?_
  rintro ⟨a0, r⟩ hok q _ args hargs
  match args, hargs with
  | [_], hargs =>
  obtain ⟨⟨A0, cp0, rfl, hc0, _, hR0⟩, _⟩ := hargs
  refine ⟨envC [k56, k58, k71] false [(57, 7)], 6, envC_ok (css_cons ⟨fun _ => k56_ok, fun h => (by cases h)⟩ (css_cons ⟨fun _ => k58_ok, fun h => (by cases h)⟩ (css_cons ⟨fun _ => k71_ok, fun h => (by cases h)⟩ (css_nil)))), rfl, (by intro x hx; simp only [List.mem_cons, List.not_mem_nil, or_false] at hx; rcases hx with rfl <;> rfl), ?_⟩
  have H : Gives (g57 a0) (fun a => a = r) := ⟨r, hok, rfl⟩
  unfold g57 at H
  clear hok
  refine ob_ix hR0 (fun h => ei0 h) H fun h404 H => ?_
  refine ld_int (e := a0.getD (0 : Int).toNat 0) (rd_get hR0 (ei_get (l := a0) (tn h404))) ?_
  obtain ⟨v405, hv406, H⟩ := call_st H
  refine ⟨(a0.getD (0 : Int).toNat 0, v405), ⟨hv406⟩, ⟨trivial⟩, ?_⟩
  refine And.intro ⟨rfl⟩ ?_
  refine if_st H (fun h414 H => ?_) (fun h414 H => ?_)
  · have hfin := fin_st H
    repeat refine mf1_LiftD1 ?_
    first | exact trivial | exact rfl
  · obtain ⟨v415, hv416, H⟩ := call_st H
    refine ⟨(a0, v415), ⟨hv416⟩, ⟨trivial⟩, ?_⟩
    refine And.intro ⟨rfl, hc0, ei_len.trans ((show _ = _ from rfl).trans (Nat.mul_one _).symm), hR0⟩ ?_
    refine if_st H (fun h417 H => ?_) (fun h417 H => ?_)
    · have hfin := fin_st H
      repeat refine mf1_LiftD1 ?_
      first | exact trivial | exact rfl
    · refine rs_st hR0 (by rw [ei_len]; simp) ?_
      refine ob_app (by decide) (by first | exact ei_one | ((repeat (refine List.forall_mem_cons.2 ⟨rfl, ?_⟩)); intro y hy; cases hy; done) | (intro y hy; simp [ei, eb, es, ec] at hy; (first | (rcases hy with rfl | hy) | subst hy | skip); all_goals first | rfl | simp_all [Value.oneCell'])) H fun h418 H => ?_
      intro n419 zs421 hn420 hz422
      subst hn420 hz422
      refine rs_st hR0 (by rw [ei_len]; simp) ?_
      refine ob_app (by decide) (by first | exact ei_one | ((repeat (refine List.forall_mem_cons.2 ⟨rfl, ?_⟩)); intro y hy; cases hy; done) | (intro y hy; simp [ei, eb, es, ec] at hy; (first | (rcases hy with rfl | hy) | subst hy | skip); all_goals first | rfl | simp_all [Value.oneCell'])) H fun h423 H => ?_
      intro n424 zs426 hn425 hz427
      subst hn425 hz427
      refine R.cut_fam H 33 [3] [] (fun v468 => [(4, .own 33), (5, .own 34)]) (fun v468 => [(33, .arr 5 1 (v468.1.length) (ei .u8 (v468.1))), (34, .arr 5 1 (v468.2.length) (ei .u8 (v468.2)))]) [] 2 (fun H => ?_)
      refine And.intro ?_ ?_
      · refine R.loop_fam (bind_st H) [3] [] (fun _ s472 => [(4, .own 23), (5, .own 24)]) (fun _ s472 => [(23, .arr 5 1 (s472.1.length) (ei .u8 (s472.1))), (24, .arr 5 1 (s472.2.length) (ei .u8 (s472.2)))]) 2 (fun n508 H => ?_)
        refine ⟨(n508, _), ⟨H⟩, ⟨trivial⟩, ?_⟩
        repeat refine mo1_LiftD1 ?_
        rintro ⟨m0, s472⟩ H _
        obtain ⟨m473, hm0, H⟩ := IG_succ H
        dsimp only at hm0
        subst hm0
        try dsimp only at H
        refine if_st H (fun h497 H => ?_) (fun h497 H => ?_)
        · refine ob_app (by decide) (by first | exact ei_one | ((repeat (refine List.forall_mem_cons.2 ⟨rfl, ?_⟩)); intro y hy; cases hy; done) | (intro y hy; simp [ei, eb, es, ec] at hy; (first | (rcases hy with rfl | hy) | subst hy | skip); all_goals first | rfl | simp_all [Value.oneCell'])) H fun h498 H => ?_
          intro n499 zs501 hn500 hz502
          subst hn500 hz502
          refine ob_app (by decide) (by first | exact ei_one | ((repeat (refine List.forall_mem_cons.2 ⟨rfl, ?_⟩)); intro y hy; cases hy; done) | (intro y hy; simp [ei, eb, es, ec] at hy; (first | (rcases hy with rfl | hy) | subst hy | skip); all_goals first | rfl | simp_all [Value.oneCell'])) H fun h503 H => ?_
          intro n504 zs506 hn505 hz507
          subst hn505 hz507
          replace H := some_st H
          refine ⟨(m473, ((s472.1 ++ [128]), (s472.2 ++ [191]))), ⟨H, Nat.lt_succ_self _⟩, ⟨trivial⟩, ⟨rfl⟩, ?_⟩
          repeat refine mo1_LiftD1 ?_
          first | exact trivial | exact rfl
        · replace H := some_st H
          dsimp only [stp, sm] at H
          refine ⟨(s472.1, s472.2), ⟨H⟩, ⟨rfl⟩, ?_⟩
          repeat refine mo1_LiftD1 ?_
          first | exact trivial | exact rfl
      · intro v468 H
        obtain ⟨v509, hv510, H⟩ := call_st H
        refine ⟨(v468.1, v509), ⟨hv510⟩, ⟨trivial⟩, ?_⟩
        refine And.intro ⟨by first | rfl | (simp; done), by first | rfl | (simp [ei, eb, es, ec]; done) | (simp only [ei, eb, es, ec, List.map_append, List.nil_append, List.append_assoc]; rfl)⟩ ?_
        obtain ⟨v511, hv512, H⟩ := call_st H
        refine ⟨(v468.2, v511), ⟨hv512⟩, ⟨trivial⟩, ?_⟩
        refine And.intro ⟨by first | rfl | (simp; done), by first | rfl | (simp [ei, eb, es, ec]; done) | (simp only [ei, eb, es, ec, List.map_append, List.nil_append, List.append_assoc]; rfl)⟩ ?_
        refine ob_ck H fun h513 H => ?_
        refine ld_int (e := ([0, 0, 128, 2048, 65536]).getD v405.toNat 0) (own_get (ys := ei .i32 ([0, 0, 128, 2048, 65536])) (by first | rfl | simp [ei, eb, es, ec]) (ei_get (l := [0, 0, 128, 2048, 65536]) (by first | exact tn h513 | (have := tn h513; simp at this ⊢; omega) | (have := tn h513; simp; omega)))) ?_
        refine if_st H (fun h514 H => ?_) (fun h514 H => ?_)
        · refine if_st H (fun h515 H => ?_) (fun h515 H => ?_)
          · refine if_st H (fun h516 H => ?_) (fun h516 H => ?_)
            · have hfin := fin_st H
              repeat refine mf1_LiftD1 ?_
              first | exact trivial | exact rfl
            · have hfin := fin_st H
              repeat refine mf1_LiftD1 ?_
              first | exact trivial | exact rfl
          · have hfin := fin_st H
            repeat refine mf1_LiftD1 ?_
            first | exact trivial | exact rfl
        · have hfin := fin_st H
          repeat refine mf1_LiftD1 ?_
          first | exact trivial | exact rfl

/-- placard/placardref01.Next -/
noncomputable def g44 (a0 : List Int) : Option (Int × Int × Bool) :=
  if ((a0.length : Nat) : Int) = 0 then
    some (0, 0, true)
  else
    (
      ck (0 ≤ (0 : Int) ∧ 0 < ((a0.length : Nat) : Int)) <|
      (g56 (a0.getD (0 : Int).toNat 0)).bind fun v520 =>
      jn (α := _) (β := Bool) (fun k564 =>
          if 0 < v520 then
            (
              if v520 ≤ ((a0.length : Nat) : Int) then
                (
                  ck (0 ≤ (0 : Int) ∧ (0 : Int) ≤ v520 ∧ v520 ≤ ((a0.length : Nat) : Int)) <|
                  (g57 ((a0.drop (0 : Int).toNat).take (v520.toNat - (0 : Int).toNat))).bind fun v571 =>
                  k564 v571
                )
              else
                k564 false
            )
          else
            k564 false
      ) (fun v563 =>
        if v563 = true then
          (
            ck (0 ≤ (0 : Int) ∧ (0 : Int) ≤ v520 ∧ v520 ≤ ((a0.length : Nat) : Int)) <|
            (g58 ((a0.drop (0 : Int).toNat).take (v520.toNat - (0 : Int).toNat))).bind fun v578 =>
            some (v578, v520, false)
          )
        else
          (
            if 0 < v520 then
              (
                if ((a0.length : Nat) : Int) < v520 then
                  (
                    (g57 a0).bind fun v591 =>
                    if v591 = true then
                      some (0, 0, true)
                    else
                      some (65533, 1, false)
                  )
                else
                  some (65533, 1, false)
              )
            else
              some (65533, 1, false)
          )
      )
    )
noncomputable def k44 : Eng.CS := { f := 44, calm := true, more := 0, ι := (List Int) × (Int × Int × Bool), ok := fun i => g44 i.1 = some i.2, rds := fun _ => [], args := fun i => [.sl 1 i.1.length (ei .u8 i.1)], res := fun i => .tup [.v (.int .i32 (i.2.1)), .v (.int .i64 (i.2.2.1)), bS i.2.2.2] }
set_option maxRecDepth 8000 in
set_option maxHeartbeats 4000000 in
theorem k44_ok : CalmOk Tryd.prog k44 := by
  refine R.calmspec Tryd.func44 nm44 rfl ?_
  rintro ⟨a0, r⟩ hok q _ args hargs
  match args, hargs with
  | [_], hargs =>
  obtain ⟨⟨A0, cp0, rfl, hc0, _, hR0⟩, _⟩ := hargs
  refine ⟨envC [k56, k57, k58] false [(44, 5)], 6, envC_ok (css_cons ⟨fun _ => k56_ok, fun h => (by cases h)⟩ (css_cons ⟨fun _ => k57_ok, fun h => (by cases h)⟩ (css_cons ⟨fun _ => k58_ok, fun h => (by cases h)⟩ (css_nil)))), rfl, (by intro x hx; simp only [List.mem_cons, List.not_mem_nil, or_false] at hx; rcases hx with rfl <;> rfl), ?_⟩
  have H : Gives (g44 a0) (fun a => a = r) := ⟨r, hok, rfl⟩
  unfold g44 at H
  clear hok
  refine if_st H (fun h518 H => ?_) (fun h518 H => ?_)
  · have hfin := fin_st H
    repeat refine mf1_LiftD1 ?_
    first | exact trivial | exact rfl
  · refine ob_ix hR0 (fun h => ei0 h) H fun h519 H => ?_
    refine ld_int (e := a0.getD (0 : Int).toNat 0) (rd_get hR0 (ei_get (l := a0) (tn h519))) ?_
    obtain ⟨v520, hv521, H⟩ := call_st H
    refine ⟨(a0.getD (0 : Int).toNat 0, v520), ⟨hv521⟩, ⟨trivial⟩, ?_⟩
    refine And.intro ⟨rfl⟩ ?_
    refine R.cut_fam H 26 [0, 5] [] (fun v563 => [(26, bS v563)]) (fun v563 => []) [] 0 (fun H => ?_)
    refine And.intro ?_ ?_
    · refine if_st H (fun h565 H => ?_) (fun h565 H => ?_)
      · refine if_st H (fun h566 H => ?_) (fun h566 H => ?_)
        · refine ob_sl hc0 H fun h567 H => ?_
          have hs568 := sl_ei hR0 rfl hc0 h567
          intro n569 hn570
          subst hn570
          obtain ⟨v571, hv572, H⟩ := call_st H
          refine ⟨(((a0.drop (0 : Int).toNat).take (v520.toNat - (0 : Int).toNat)), v571), ⟨hv572⟩, ⟨trivial⟩, ?_⟩
          refine And.intro ⟨(hs568.2.1).symm, hs568.2.2, ei_len.trans ((show _ = _ from hs568.2.1).trans (Nat.mul_one _).symm), hs568.1⟩ ?_
          refine ⟨v571, ⟨H⟩, ⟨rfl⟩, ?_⟩
          repeat refine mo1_LiftD1 ?_
          first | exact trivial | exact rfl
        · refine ⟨false, ⟨H⟩, ⟨rfl⟩, ?_⟩
          repeat refine mo1_LiftD1 ?_
          first | exact trivial | exact rfl
      · refine ⟨false, ⟨H⟩, ⟨rfl⟩, ?_⟩
        repeat refine mo1_LiftD1 ?_
        first | exact trivial | exact rfl
    · intro v563 H
      refine if_st H (fun h573 H => ?_) (fun h573 H => ?_)
      · refine ob_sl hc0 H fun h574 H => ?_
        have hs575 := sl_ei hR0 rfl hc0 h574
        intro n576 hn577
        subst hn577
        obtain ⟨v578, hv579, H⟩ := call_st H
        refine ⟨(((a0.drop (0 : Int).toNat).take (v520.toNat - (0 : Int).toNat)), v578), ⟨hv579⟩, ⟨trivial⟩, ?_⟩
        refine And.intro ⟨(hs575.2.1).symm, hs575.2.2, ei_len.trans ((show _ = _ from hs575.2.1).trans (Nat.mul_one _).symm), hs575.1⟩ ?_
        have hfin := fin_st H
        repeat refine mf1_LiftD1 ?_
        first | exact trivial | exact rfl
      · refine if_st H (fun h589 H => ?_) (fun h589 H => ?_)
        · refine if_st H (fun h590 H => ?_) (fun h590 H => ?_)
          · obtain ⟨v591, hv592, H⟩ := call_st H
            refine ⟨(a0, v591), ⟨hv592⟩, ⟨trivial⟩, ?_⟩
            refine And.intro ⟨rfl, hc0, ei_len.trans ((show _ = _ from rfl).trans (Nat.mul_one _).symm), hR0⟩ ?_
            refine if_st H (fun h593 H => ?_) (fun h593 H => ?_)
            · have hfin := fin_st H
              repeat refine mf1_LiftD1 ?_
              first | exact trivial | exact rfl
            · have hfin := fin_st H
              repeat refine mf1_LiftD1 ?_
              first | exact trivial | exact rfl
          · have hfin := fin_st H
            repeat refine mf1_LiftD1 ?_
            first | exact trivial | exact rfl
        · have hfin := fin_st H
          repeat refine mf1_LiftD1 ?_
          first | exact trivial | exact rfl

end Go.Proofs.YtenjkphlbdhaiaaDoor
