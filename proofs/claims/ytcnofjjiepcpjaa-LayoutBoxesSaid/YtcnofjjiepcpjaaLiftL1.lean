/-
  Functions of the program, lifted: each with its walk. Printed by lift.py.
  Nothing here is trusted.
-/
import Derived.Test.YtcnofjjiepcpjaaEngT
import Derived.Test.YtcnofjjiepcpjaaEngLc
set_option linter.unusedVariables false
set_option linter.unusedSimpArgs false
namespace Go.Proofs.Ytcnofjjiepcpjaa
open Go Go.Eng

/-- placard/placardref16.within -/
noncomputable def g75 (a0 : Int) (a1 : Int) (a2 : Int) : Option (Bool) :=
  if a1 ≤ a0 then
    some (decide (a0 ≤ a2))
  else
    some false
noncomputable def k75 : Eng.CS := { f := 75, calm := true, more := 0, ι := Int × Int × Int × Bool, ok := fun i => g75 i.1 i.2.1 i.2.2.1 = some i.2.2.2, rds := fun _ => [], args := fun i => [.w (.v (.int .i64 (i.1))), .w (.v (.int .i64 (i.2.1))), .w (.v (.int .i64 (i.2.2.1)))], res := fun i => bS i.2.2.2 }
set_option maxRecDepth 8000 in
set_option maxHeartbeats 4000000 in
theorem k75_ok : CalmOk Try.prog k75 := by
  refine R.calmspec Try.func75 nm75 rfl ?_
  rintro ⟨a0, a1, a2, r⟩ hok q _ args hargs
  match args, hargs with
  | [_, _, _], hargs =>
  obtain ⟨rfl, rfl, rfl, _⟩ := hargs
  refine ⟨envC [] false [], 6, envC_ok (css_nil), rfl, (by intro x hx; simp only [List.mem_cons, List.not_mem_nil, or_false] at hx; rcases hx with rfl | rfl | rfl <;> rfl), ?_⟩
  have H : Gives (g75 a0 a1 a2) (fun a => a = r) := ⟨r, hok, rfl⟩
  unfold g75 at H
  clear hok
  refine if_st H (fun h1 H => ?_) (fun h1 H => ?_)
  · have hfin := fin_st H
    repeat (refine And.intro (Ob.mk (by first | (rw [← hfin] <;> first | exact rfl | exact Iff.rfl | exact ⟨rfl, rfl⟩ | exact decide_eq_true_iff | (constructor <;> first | rfl | simp [ei, eb, es, ec]) | simp [ei, eb, es, ec]) | first | exact rfl | exact Iff.rfl | exact ⟨rfl, rfl⟩ | exact decide_eq_true_iff | (constructor <;> first | rfl | simp [ei, eb, es, ec]) | simp [ei, eb, es, ec])) ?_)
    first | exact trivial | exact rfl
  · have hfin := fin_st H
    repeat (refine And.intro (Ob.mk (by first | (rw [← hfin] <;> first | exact rfl | exact Iff.rfl | exact ⟨rfl, rfl⟩ | exact decide_eq_true_iff | (constructor <;> first | rfl | simp [ei, eb, es, ec]) | simp [ei, eb, es, ec]) | first | exact rfl | exact Iff.rfl | exact ⟨rfl, rfl⟩ | exact decide_eq_true_iff | (constructor <;> first | rfl | simp [ei, eb, es, ec]) | simp [ei, eb, es, ec])) ?_)
    first | exact trivial | exact rfl
noncomputable def e75 (n : Nat) (a0 : Int) (a1 : Int) (a2 : Int) : Option (Bool) :=
  if a1 ≤ a0 then
    some (decide (a0 ≤ a2))
  else
    some false
theorem e75_le (n : Nat) (a0 : Int) (a1 : Int) (a2 : Int) : Le (e75 n a0 a1 a2) (g75 a0 a1 a2) := by
  unfold e75 g75
  repeat' first | refine le_bind ?_ (fun _ => ?_) | refine le_ck ?_ | refine le_if ?_ ?_ | refine le_sm (fun _ => ?_) (fun _ => ?_) | refine le_jn (fun _ _ _ => ?_) (fun _ => ?_) | refine le_loop (fun _ => ?_) | with_reducible exact le_refl | apply_assumption

def c58 (p : (Int × Int × Int × Int)) : List Value := [.int .i64 p.1, .int .i64 p.2.1, .int .i64 p.2.2.1, .int .i64 p.2.2.2]
theorem c58_len : ∀ a, (c58 a).length = 4 := fun _ => rfl
theorem c58_one : ∀ a, ∀ y ∈ c58 a, y.oneCell' = true := by intro a y hy; simp only [c58, List.mem_cons, List.not_mem_nil, or_false] at hy; rcases hy with rfl | rfl | rfl | rfl <;> rfl
/-- placard/placardref16.parts -/
noncomputable def g76 (a0 : List (Int × Int × Int × Int)) : Option (Int) :=
  (g75 ((a0.length : Nat) : Int) 1 64).bind fun v5 =>
  if ¬ (v5 = true) then
    some 3
  else
    (
      jn (α := _) (β := Unit) (fun k70 =>
          (loopO (σ := Int) (ρ := (Unit) ⊕ (Unit)) (fun s71 =>
              if s71 < ((a0.length : Nat) : Int) then
                (
                  ck (0 ≤ s71 ∧ s71 < ((a0.length : Nat) : Int)) <|
                  if ((a0.getD s71.toNat default).1) < 0 then
                    some (.out (.inl (())))
                  else
                    (
                      if ((a0.getD s71.toNat default).2.1) < ((a0.getD s71.toNat default).1) then
                        some (.out (.inl (())))
                      else
                        (
                          if 500 < ((a0.getD s71.toNat default).2.1) then
                            some (.out (.inl (())))
                          else
                            (
                              (g75 ((a0.getD s71.toNat default).2.2.1) 0 100).bind fun v103 =>
                              if ¬ (v103 = true) then
                                some (.out (.inl (())))
                              else
                                (
                                  (g75 ((a0.getD s71.toNat default).2.2.2) 0 9).bind fun v106 =>
                                  if ¬ (v106 = true) then
                                    some (.out (.inl (())))
                                  else
                                    (
                                      ck (inR .i64 (s71 + 1)) <|
                                      some (.go (s71 + 1))
                                    )
                                )
                            )
                        )
                    )
                )
              else
                some (.out (.inr (())))
            ) 0).bind fun o97 =>
          sm o97 (fun o110 =>
              some 1
            ) (fun o111 =>
              k70 ()
            )
      ) (fun v69 =>
        some 0
      )
    )
noncomputable def k76 : Eng.CS := { f := 76, calm := true, more := 0, ι := (List (Int × Int × Int × Int)) × Int, ok := fun i => g76 i.1 = some i.2, rds := fun _ => [], args := fun i => [.sl 4 i.1.length (ec c58 i.1)], res := fun i => .v (.int .i64 (i.2)) }
set_option maxRecDepth 8000 in
set_option maxHeartbeats 4000000 in
theorem k76_ok : CalmOk Try.prog k76 := by
  refine R.calmspec Try.func76 nm76 rfl ?_
  rintro ⟨a0, r⟩ hok q _ args hargs
  match args, hargs with
  | [_], hargs =>
  obtain ⟨⟨A0, cp0, rfl, hc0, _, hR0⟩, _⟩ := hargs
  refine ⟨envC [k75] false [(76, 9)], 6, envC_ok (css_cons ⟨fun _ => k75_ok, fun h => (by cases h)⟩ (css_nil)), rfl, (by intro x hx; simp only [List.mem_cons, List.not_mem_nil, or_false] at hx; rcases hx with rfl <;> rfl), ?_⟩
  have H : Gives (g76 a0) (fun a => a = r) := ⟨r, hok, rfl⟩
  unfold g76 at H
  clear hok
  obtain ⟨v5, hv6, H⟩ := call_st H
  refine ⟨(((a0.length : Nat) : Int), 1, 64, v5), ⟨hv6⟩, ⟨trivial⟩, ?_⟩
  refine And.intro ⟨rfl⟩ ?_
  refine And.intro ⟨rfl⟩ ?_
  refine And.intro ⟨rfl⟩ ?_
  refine if_st H (fun h7 H => ?_) (fun h7 H => ?_)
  · have hfin := fin_st H
    repeat (refine And.intro (Ob.mk (by first | (rw [← hfin] <;> first | exact rfl | exact Iff.rfl | exact ⟨rfl, rfl⟩ | exact decide_eq_true_iff | (constructor <;> first | rfl | simp [ei, eb, es, ec, c58]) | simp [ei, eb, es, ec, c58]) | first | exact rfl | exact Iff.rfl | exact ⟨rfl, rfl⟩ | exact decide_eq_true_iff | (constructor <;> first | rfl | simp [ei, eb, es, ec, c58]) | simp [ei, eb, es, ec, c58])) ?_)
    first | exact trivial | exact rfl
  · refine R.cut_fam H 12 [] [] (fun v69 => []) (fun v69 => []) [] 0 (fun H => ?_)
    refine And.intro ?_ ?_
    · refine R.loop_fam (bind_st H) [0] [] (fun _ s71 => [(3, .v (.int .i64 (s71)))]) (fun _ s71 => []) 0 (fun n112 H => ?_)
      refine ⟨(n112, _), ⟨H⟩, ⟨trivial⟩, ?_⟩
      repeat (refine And.intro (Ob.mk (by first | exact rfl | exact Iff.rfl | exact ⟨rfl, rfl⟩ | exact decide_eq_true_iff | (constructor <;> first | rfl | simp [ei, eb, es, ec, c58]) | simp [ei, eb, es, ec, c58])) ?_)
      rintro ⟨m0, s71⟩ H _
      obtain ⟨m72, hm0, H⟩ := IG_succ H
      dsimp only at hm0
      subst hm0
      try dsimp only at H
      refine if_st H (fun h98 H => ?_) (fun h98 H => ?_)
      · refine ob_ix hR0 (fun h => ec0 c58_len (by decide) h) H fun h99 H => ?_
        refine ld_int (e := (a0.getD s71.toNat default).1) (rd_get hR0 ((ec_get (i := s71.toNat) (o := 0) c58_len (tn h99) (by decide)).trans rfl)) ?_
        refine ld_int (e := (a0.getD s71.toNat default).2.1) (rd_get hR0 ((ec_get (i := s71.toNat) (o := 1) c58_len (tn h99) (by decide)).trans rfl)) ?_
        refine ld_int (e := (a0.getD s71.toNat default).2.2.1) (rd_get hR0 ((ec_get (i := s71.toNat) (o := 2) c58_len (tn h99) (by decide)).trans rfl)) ?_
        refine ld_int (e := (a0.getD s71.toNat default).2.2.2) (rd_get hR0 ((ec_get (i := s71.toNat) (o := 3) c58_len (tn h99) (by decide)).trans rfl)) ?_
        refine if_st H (fun h100 H => ?_) (fun h100 H => ?_)
        · replace H := some_st H
          dsimp only [stp, sm] at H
          have hfin := fin_st H
          repeat (refine And.intro (Ob.mk (by first | (rw [← hfin] <;> first | exact rfl | exact Iff.rfl | exact ⟨rfl, rfl⟩ | exact decide_eq_true_iff | (constructor <;> first | rfl | simp [ei, eb, es, ec, c58]) | simp [ei, eb, es, ec, c58]) | first | exact rfl | exact Iff.rfl | exact ⟨rfl, rfl⟩ | exact decide_eq_true_iff | (constructor <;> first | rfl | simp [ei, eb, es, ec, c58]) | simp [ei, eb, es, ec, c58])) ?_)
          first | exact trivial | exact rfl
        · refine if_st H (fun h101 H => ?_) (fun h101 H => ?_)
          · replace H := some_st H
            dsimp only [stp, sm] at H
            have hfin := fin_st H
            repeat (refine And.intro (Ob.mk (by first | (rw [← hfin] <;> first | exact rfl | exact Iff.rfl | exact ⟨rfl, rfl⟩ | exact decide_eq_true_iff | (constructor <;> first | rfl | simp [ei, eb, es, ec, c58]) | simp [ei, eb, es, ec, c58]) | first | exact rfl | exact Iff.rfl | exact ⟨rfl, rfl⟩ | exact decide_eq_true_iff | (constructor <;> first | rfl | simp [ei, eb, es, ec, c58]) | simp [ei, eb, es, ec, c58])) ?_)
            first | exact trivial | exact rfl
          · refine if_st H (fun h102 H => ?_) (fun h102 H => ?_)
            · replace H := some_st H
              dsimp only [stp, sm] at H
              have hfin := fin_st H
              repeat (refine And.intro (Ob.mk (by first | (rw [← hfin] <;> first | exact rfl | exact Iff.rfl | exact ⟨rfl, rfl⟩ | exact decide_eq_true_iff | (constructor <;> first | rfl | simp [ei, eb, es, ec, c58]) | simp [ei, eb, es, ec, c58]) | first | exact rfl | exact Iff.rfl | exact ⟨rfl, rfl⟩ | exact decide_eq_true_iff | (constructor <;> first | rfl | simp [ei, eb, es, ec, c58]) | simp [ei, eb, es, ec, c58])) ?_)
              first | exact trivial | exact rfl
            · obtain ⟨v103, hv104, H⟩ := call_st H
              refine ⟨((a0.getD s71.toNat default).2.2.1, 0, 100, v103), ⟨hv104⟩, ⟨trivial⟩, ?_⟩
              refine And.intro ⟨rfl⟩ ?_
              refine And.intro ⟨rfl⟩ ?_
              refine And.intro ⟨rfl⟩ ?_
              refine if_st H (fun h105 H => ?_) (fun h105 H => ?_)
              · replace H := some_st H
                dsimp only [stp, sm] at H
                have hfin := fin_st H
                repeat (refine And.intro (Ob.mk (by first | (rw [← hfin] <;> first | exact rfl | exact Iff.rfl | exact ⟨rfl, rfl⟩ | exact decide_eq_true_iff | (constructor <;> first | rfl | simp [ei, eb, es, ec, c58]) | simp [ei, eb, es, ec, c58]) | first | exact rfl | exact Iff.rfl | exact ⟨rfl, rfl⟩ | exact decide_eq_true_iff | (constructor <;> first | rfl | simp [ei, eb, es, ec, c58]) | simp [ei, eb, es, ec, c58])) ?_)
                first | exact trivial | exact rfl
              · obtain ⟨v106, hv107, H⟩ := call_st H
                refine ⟨((a0.getD s71.toNat default).2.2.2, 0, 9, v106), ⟨hv107⟩, ⟨trivial⟩, ?_⟩
                refine And.intro ⟨rfl⟩ ?_
                refine And.intro ⟨rfl⟩ ?_
                refine And.intro ⟨rfl⟩ ?_
                refine if_st H (fun h108 H => ?_) (fun h108 H => ?_)
                · replace H := some_st H
                  dsimp only [stp, sm] at H
                  have hfin := fin_st H
                  repeat (refine And.intro (Ob.mk (by first | (rw [← hfin] <;> first | exact rfl | exact Iff.rfl | exact ⟨rfl, rfl⟩ | exact decide_eq_true_iff | (constructor <;> first | rfl | simp [ei, eb, es, ec, c58]) | simp [ei, eb, es, ec, c58]) | first | exact rfl | exact Iff.rfl | exact ⟨rfl, rfl⟩ | exact decide_eq_true_iff | (constructor <;> first | rfl | simp [ei, eb, es, ec, c58]) | simp [ei, eb, es, ec, c58])) ?_)
                  first | exact trivial | exact rfl
                · refine ob_ck H fun h109 H => ?_
                  replace H := some_st H
                  refine ⟨(m72, s71 + 1), ⟨H, Nat.lt_succ_self _⟩, ⟨trivial⟩, ⟨rfl⟩, ?_⟩
                  repeat (refine And.intro (Ob.mk (by first | exact rfl | exact Iff.rfl | exact ⟨rfl, rfl⟩ | exact decide_eq_true_iff | (constructor <;> first | rfl | simp [ei, eb, es, ec, c58]) | simp [ei, eb, es, ec, c58])) ?_)
                  first | exact trivial | exact rfl
      · replace H := some_st H
        dsimp only [stp, sm] at H
        refine ⟨(), ⟨H⟩, ⟨rfl⟩, ?_⟩
        repeat (refine And.intro (Ob.mk (by first | exact rfl | exact Iff.rfl | exact ⟨rfl, rfl⟩ | exact decide_eq_true_iff | (constructor <;> first | rfl | simp [ei, eb, es, ec, c58]) | simp [ei, eb, es, ec, c58])) ?_)
        first | exact trivial | exact rfl
    · intro v69 H
      have hfin := fin_st H
      repeat (refine And.intro (Ob.mk (by first | (rw [← hfin] <;> first | exact rfl | exact Iff.rfl | exact ⟨rfl, rfl⟩ | exact decide_eq_true_iff | (constructor <;> first | rfl | simp [ei, eb, es, ec, c58]) | simp [ei, eb, es, ec, c58]) | first | exact rfl | exact Iff.rfl | exact ⟨rfl, rfl⟩ | exact decide_eq_true_iff | (constructor <;> first | rfl | simp [ei, eb, es, ec, c58]) | simp [ei, eb, es, ec, c58])) ?_)
      first | exact trivial | exact rfl
noncomputable def e76 (n : Nat) (a0 : List (Int × Int × Int × Int)) : Option (Int) :=
  (e75 n ((a0.length : Nat) : Int) 1 64).bind fun v5 =>
  if ¬ (v5 = true) then
    some 3
  else
    (
      jn (α := _) (β := Unit) (fun k70 =>
          (itN n (σ := Int) (ρ := (Unit) ⊕ (Unit)) (fun s71 =>
              if s71 < ((a0.length : Nat) : Int) then
                (
                  ck (0 ≤ s71 ∧ s71 < ((a0.length : Nat) : Int)) <|
                  if ((a0.getD s71.toNat default).1) < 0 then
                    some (.out (.inl (())))
                  else
                    (
                      if ((a0.getD s71.toNat default).2.1) < ((a0.getD s71.toNat default).1) then
                        some (.out (.inl (())))
                      else
                        (
                          if 500 < ((a0.getD s71.toNat default).2.1) then
                            some (.out (.inl (())))
                          else
                            (
                              (e75 n ((a0.getD s71.toNat default).2.2.1) 0 100).bind fun v103 =>
                              if ¬ (v103 = true) then
                                some (.out (.inl (())))
                              else
                                (
                                  (e75 n ((a0.getD s71.toNat default).2.2.2) 0 9).bind fun v106 =>
                                  if ¬ (v106 = true) then
                                    some (.out (.inl (())))
                                  else
                                    (
                                      ck (inR .i64 (s71 + 1)) <|
                                      some (.go (s71 + 1))
                                    )
                                )
                            )
                        )
                    )
                )
              else
                some (.out (.inr (())))
            ) 0).bind fun o97 =>
          sm o97 (fun o110 =>
              some 1
            ) (fun o111 =>
              k70 ()
            )
      ) (fun v69 =>
        some 0
      )
    )
theorem e76_le (n : Nat) (a0 : List (Int × Int × Int × Int)) : Le (e76 n a0) (g76 a0) := by
  unfold e76 g76
  repeat' first | exact e75_le _ _ _ _ | refine le_bind ?_ (fun _ => ?_) | refine le_ck ?_ | refine le_if ?_ ?_ | refine le_sm (fun _ => ?_) (fun _ => ?_) | refine le_jn (fun _ _ _ => ?_) (fun _ => ?_) | refine le_loop (fun _ => ?_) | with_reducible exact le_refl | apply_assumption

/-- placard/placardref16.Check -/
noncomputable def g34 (a0 : Int) (a1 : Int) (a2 : List (Int × Int × Int × Int)) : Option (Int) :=
  (g75 a0 0 500).bind fun v124 =>
  if ¬ (v124 = true) then
    some 160
  else
    (
      (g75 a1 0 9).bind fun v127 =>
      if ¬ (v127 = true) then
        some 160
      else
        (
          (g76 a2).bind fun v130 =>
          some v130
        )
    )
noncomputable def k34 : Eng.CS := { f := 34, calm := true, more := 0, ι := Int × Int × (List (Int × Int × Int × Int)) × Int, ok := fun i => g34 i.1 i.2.1 i.2.2.1 = some i.2.2.2, rds := fun _ => [], args := fun i => [.w (.v (.int .i64 (i.1))), .w (.v (.int .i64 (i.2.1))), .sl 4 i.2.2.1.length (ec c58 i.2.2.1)], res := fun i => .v (.int .i64 (i.2.2.2)) }
set_option maxRecDepth 8000 in
set_option maxHeartbeats 4000000 in
theorem k34_ok : CalmOk Try.prog k34 := by
  refine R.calmspec Try.func34 nm34 rfl ?_
  rintro ⟨a0, a1, a2, r⟩ hok q _ args hargs
  match args, hargs with
  | [_, _, _], hargs =>
  obtain ⟨rfl, rfl, ⟨A2, cp2, rfl, hc2, _, hR2⟩, _⟩ := hargs
  refine ⟨envC [k75, k76] false [], 6, envC_ok (css_cons ⟨fun _ => k75_ok, fun h => (by cases h)⟩ (css_cons ⟨fun _ => k76_ok, fun h => (by cases h)⟩ (css_nil))), rfl, (by intro x hx; simp only [List.mem_cons, List.not_mem_nil, or_false] at hx; rcases hx with rfl | rfl | rfl <;> rfl), ?_⟩
  have H : Gives (g34 a0 a1 a2) (fun a => a = r) := ⟨r, hok, rfl⟩
  unfold g34 at H
  clear hok
  obtain ⟨v124, hv125, H⟩ := call_st H
  refine ⟨(a0, 0, 500, v124), ⟨hv125⟩, ⟨trivial⟩, ?_⟩
  refine And.intro ⟨rfl⟩ ?_
  refine And.intro ⟨rfl⟩ ?_
  refine And.intro ⟨rfl⟩ ?_
  refine if_st H (fun h126 H => ?_) (fun h126 H => ?_)
  · have hfin := fin_st H
    repeat (refine And.intro (Ob.mk (by first | (rw [← hfin] <;> first | exact rfl | exact Iff.rfl | exact ⟨rfl, rfl⟩ | exact decide_eq_true_iff | (constructor <;> first | rfl | simp [ei, eb, es, ec, c58]) | simp [ei, eb, es, ec, c58]) | first | exact rfl | exact Iff.rfl | exact ⟨rfl, rfl⟩ | exact decide_eq_true_iff | (constructor <;> first | rfl | simp [ei, eb, es, ec, c58]) | simp [ei, eb, es, ec, c58])) ?_)
    first | exact trivial | exact rfl
  · obtain ⟨v127, hv128, H⟩ := call_st H
    refine ⟨(a1, 0, 9, v127), ⟨hv128⟩, ⟨trivial⟩, ?_⟩
    refine And.intro ⟨rfl⟩ ?_
    refine And.intro ⟨rfl⟩ ?_
    refine And.intro ⟨rfl⟩ ?_
    refine if_st H (fun h129 H => ?_) (fun h129 H => ?_)
    · have hfin := fin_st H
      repeat (refine And.intro (Ob.mk (by first | (rw [← hfin] <;> first | exact rfl | exact Iff.rfl | exact ⟨rfl, rfl⟩ | exact decide_eq_true_iff | (constructor <;> first | rfl | simp [ei, eb, es, ec, c58]) | simp [ei, eb, es, ec, c58]) | first | exact rfl | exact Iff.rfl | exact ⟨rfl, rfl⟩ | exact decide_eq_true_iff | (constructor <;> first | rfl | simp [ei, eb, es, ec, c58]) | simp [ei, eb, es, ec, c58])) ?_)
      first | exact trivial | exact rfl
    · obtain ⟨v130, hv131, H⟩ := call_st H
      refine ⟨(a2, v130), ⟨hv131⟩, ⟨trivial⟩, ?_⟩
      refine And.intro ⟨rfl, hc2, (ec_len c58_len).trans (congrArg (· * 4) (show _ = _ from rfl)), hR2⟩ ?_
      have hfin := fin_st H
      repeat (refine And.intro (Ob.mk (by first | (rw [← hfin] <;> first | exact rfl | exact Iff.rfl | exact ⟨rfl, rfl⟩ | exact decide_eq_true_iff | (constructor <;> first | rfl | simp [ei, eb, es, ec, c58]) | simp [ei, eb, es, ec, c58]) | first | exact rfl | exact Iff.rfl | exact ⟨rfl, rfl⟩ | exact decide_eq_true_iff | (constructor <;> first | rfl | simp [ei, eb, es, ec, c58]) | simp [ei, eb, es, ec, c58])) ?_)
      first | exact trivial | exact rfl
noncomputable def e34 (n : Nat) (a0 : Int) (a1 : Int) (a2 : List (Int × Int × Int × Int)) : Option (Int) :=
  (e75 n a0 0 500).bind fun v124 =>
  if ¬ (v124 = true) then
    some 160
  else
    (
      (e75 n a1 0 9).bind fun v127 =>
      if ¬ (v127 = true) then
        some 160
      else
        (
          (e76 n a2).bind fun v130 =>
          some v130
        )
    )
theorem e34_le (n : Nat) (a0 : Int) (a1 : Int) (a2 : List (Int × Int × Int × Int)) : Le (e34 n a0 a1 a2) (g34 a0 a1 a2) := by
  unfold e34 g34
  repeat' first | exact e75_le _ _ _ _ | exact e76_le _ _ | refine le_bind ?_ (fun _ => ?_) | refine le_ck ?_ | refine le_if ?_ ?_ | refine le_sm (fun _ => ?_) (fun _ => ?_) | refine le_jn (fun _ _ _ => ?_) (fun _ => ?_) | refine le_loop (fun _ => ?_) | with_reducible exact le_refl | apply_assumption

/-- placard/layout.may -/
noncomputable def g77 (a0 : (Int × Int × Int × Int)) : Option (Bool) :=
  if 0 ≤ a0.1 then
    (
      if a0.1 ≤ a0.2.1 then
        (
          if a0.2.1 ≤ 500 then
            (
              if 0 ≤ a0.2.2.1 then
                (
                  if a0.2.2.1 ≤ 100 then
                    (
                      if 0 ≤ a0.2.2.2 then
                        some (decide (a0.2.2.2 ≤ 9))
                      else
                        some false
                    )
                  else
                    some false
                )
              else
                some false
            )
          else
            some false
        )
      else
        some false
    )
  else
    some false
noncomputable def k77 : Eng.CS := { f := 77, calm := true, more := 0, ι := (Int × Int × Int × Int) × Bool, ok := fun i => g77 i.1 = some i.2, rds := fun _ => [], args := fun i => [.w (.agg [.v (.int .i64 (i.1.1)), .v (.int .i64 (i.1.2.1)), .v (.int .i64 (i.1.2.2.1)), .v (.int .i64 (i.1.2.2.2))])], res := fun i => bS i.2 }
set_option maxRecDepth 8000 in
set_option maxHeartbeats 4000000 in
theorem k77_ok : CalmOk Try.prog k77 := by
  refine R.calmspec Try.func77 nm77 rfl ?_
  rintro ⟨a0, r⟩ hok q _ args hargs
  match args, hargs with
  | [_], hargs =>
  obtain ⟨rfl, _⟩ := hargs
  refine ⟨envC [] false [], 6, envC_ok (css_nil), rfl, (by intro x hx; simp only [List.mem_cons, List.not_mem_nil, or_false] at hx; rcases hx with rfl <;> rfl), ?_⟩
  have H : Gives (g77 a0) (fun a => a = r) := ⟨r, hok, rfl⟩
  unfold g77 at H
  clear hok
  refine if_st H (fun h132 H => ?_) (fun h132 H => ?_)
  · refine if_st H (fun h133 H => ?_) (fun h133 H => ?_)
    · refine if_st H (fun h134 H => ?_) (fun h134 H => ?_)
      · refine if_st H (fun h135 H => ?_) (fun h135 H => ?_)
        · refine if_st H (fun h136 H => ?_) (fun h136 H => ?_)
          · refine if_st H (fun h137 H => ?_) (fun h137 H => ?_)
            · have hfin := fin_st H
              repeat (refine And.intro (Ob.mk (by first | (rw [← hfin] <;> first | exact rfl | exact Iff.rfl | exact ⟨rfl, rfl⟩ | exact decide_eq_true_iff | (constructor <;> first | rfl | simp [ei, eb, es, ec, c58]) | simp [ei, eb, es, ec, c58]) | first | exact rfl | exact Iff.rfl | exact ⟨rfl, rfl⟩ | exact decide_eq_true_iff | (constructor <;> first | rfl | simp [ei, eb, es, ec, c58]) | simp [ei, eb, es, ec, c58])) ?_)
              first | exact trivial | exact rfl
            · have hfin := fin_st H
              repeat (refine And.intro (Ob.mk (by first | (rw [← hfin] <;> first | exact rfl | exact Iff.rfl | exact ⟨rfl, rfl⟩ | exact decide_eq_true_iff | (constructor <;> first | rfl | simp [ei, eb, es, ec, c58]) | simp [ei, eb, es, ec, c58]) | first | exact rfl | exact Iff.rfl | exact ⟨rfl, rfl⟩ | exact decide_eq_true_iff | (constructor <;> first | rfl | simp [ei, eb, es, ec, c58]) | simp [ei, eb, es, ec, c58])) ?_)
              first | exact trivial | exact rfl
          · have hfin := fin_st H
            repeat (refine And.intro (Ob.mk (by first | (rw [← hfin] <;> first | exact rfl | exact Iff.rfl | exact ⟨rfl, rfl⟩ | exact decide_eq_true_iff | (constructor <;> first | rfl | simp [ei, eb, es, ec, c58]) | simp [ei, eb, es, ec, c58]) | first | exact rfl | exact Iff.rfl | exact ⟨rfl, rfl⟩ | exact decide_eq_true_iff | (constructor <;> first | rfl | simp [ei, eb, es, ec, c58]) | simp [ei, eb, es, ec, c58])) ?_)
            first | exact trivial | exact rfl
        · have hfin := fin_st H
          repeat (refine And.intro (Ob.mk (by first | (rw [← hfin] <;> first | exact rfl | exact Iff.rfl | exact ⟨rfl, rfl⟩ | exact decide_eq_true_iff | (constructor <;> first | rfl | simp [ei, eb, es, ec, c58]) | simp [ei, eb, es, ec, c58]) | first | exact rfl | exact Iff.rfl | exact ⟨rfl, rfl⟩ | exact decide_eq_true_iff | (constructor <;> first | rfl | simp [ei, eb, es, ec, c58]) | simp [ei, eb, es, ec, c58])) ?_)
          first | exact trivial | exact rfl
      · have hfin := fin_st H
        repeat (refine And.intro (Ob.mk (by first | (rw [← hfin] <;> first | exact rfl | exact Iff.rfl | exact ⟨rfl, rfl⟩ | exact decide_eq_true_iff | (constructor <;> first | rfl | simp [ei, eb, es, ec, c58]) | simp [ei, eb, es, ec, c58]) | first | exact rfl | exact Iff.rfl | exact ⟨rfl, rfl⟩ | exact decide_eq_true_iff | (constructor <;> first | rfl | simp [ei, eb, es, ec, c58]) | simp [ei, eb, es, ec, c58])) ?_)
        first | exact trivial | exact rfl
    · have hfin := fin_st H
      repeat (refine And.intro (Ob.mk (by first | (rw [← hfin] <;> first | exact rfl | exact Iff.rfl | exact ⟨rfl, rfl⟩ | exact decide_eq_true_iff | (constructor <;> first | rfl | simp [ei, eb, es, ec, c58]) | simp [ei, eb, es, ec, c58]) | first | exact rfl | exact Iff.rfl | exact ⟨rfl, rfl⟩ | exact decide_eq_true_iff | (constructor <;> first | rfl | simp [ei, eb, es, ec, c58]) | simp [ei, eb, es, ec, c58])) ?_)
      first | exact trivial | exact rfl
  · have hfin := fin_st H
    repeat (refine And.intro (Ob.mk (by first | (rw [← hfin] <;> first | exact rfl | exact Iff.rfl | exact ⟨rfl, rfl⟩ | exact decide_eq_true_iff | (constructor <;> first | rfl | simp [ei, eb, es, ec, c58]) | simp [ei, eb, es, ec, c58]) | first | exact rfl | exact Iff.rfl | exact ⟨rfl, rfl⟩ | exact decide_eq_true_iff | (constructor <;> first | rfl | simp [ei, eb, es, ec, c58]) | simp [ei, eb, es, ec, c58])) ?_)
    first | exact trivial | exact rfl
noncomputable def e77 (n : Nat) (a0 : (Int × Int × Int × Int)) : Option (Bool) :=
  if 0 ≤ a0.1 then
    (
      if a0.1 ≤ a0.2.1 then
        (
          if a0.2.1 ≤ 500 then
            (
              if 0 ≤ a0.2.2.1 then
                (
                  if a0.2.2.1 ≤ 100 then
                    (
                      if 0 ≤ a0.2.2.2 then
                        some (decide (a0.2.2.2 ≤ 9))
                      else
                        some false
                    )
                  else
                    some false
                )
              else
                some false
            )
          else
            some false
        )
      else
        some false
    )
  else
    some false
theorem e77_le (n : Nat) (a0 : (Int × Int × Int × Int)) : Le (e77 n a0) (g77 a0) := by
  unfold e77 g77
  repeat' first | refine le_bind ?_ (fun _ => ?_) | refine le_ck ?_ | refine le_if ?_ ?_ | refine le_sm (fun _ => ?_) (fun _ => ?_) | refine le_jn (fun _ _ _ => ?_) (fun _ => ?_) | refine le_loop (fun _ => ?_) | with_reducible exact le_refl | apply_assumption

/-- placard/layout.Check -/
noncomputable def g35 (a0 : Int) (a1 : Int) (a2 : List (Int × Int × Int × Int)) : Option (Int) :=
  if a0 < 0 then
    some 160
  else
    (
      if 500 < a0 then
        some 160
      else
        (
          if a1 < 0 then
            some 160
          else
            (
              if 9 < a1 then
                some 160
              else
                (
                  if ((a2.length : Nat) : Int) < 1 then
                    some 3
                  else
                    (
                      if 64 < ((a2.length : Nat) : Int) then
                        some 3
                      else
                        (
                          jn (α := _) (β := Unit) (fun k184 =>
                              (loopO (σ := Int) (ρ := (Unit) ⊕ (Unit)) (fun s185 =>
                                  if s185 < ((a2.length : Nat) : Int) then
                                    (
                                      ck (0 ≤ s185 ∧ s185 < ((a2.length : Nat) : Int)) <|
                                      (g77 ((a2.getD s185.toNat default).1, (a2.getD s185.toNat default).2.1, (a2.getD s185.toNat default).2.2.1, (a2.getD s185.toNat default).2.2.2)).bind fun v202 =>
                                      if ¬ (v202 = true) then
                                        some (.out (.inl (())))
                                      else
                                        (
                                          ck (inR .i64 (s185 + 1)) <|
                                          some (.go (s185 + 1))
                                        )
                                    )
                                  else
                                    some (.out (.inr (())))
                                ) 0).bind fun o199 =>
                              sm o199 (fun o206 =>
                                  some 1
                                ) (fun o207 =>
                                  k184 ()
                                )
                          ) (fun v183 =>
                            some 0
                          )
                        )
                    )
                )
            )
        )
    )
noncomputable def k35 : Eng.CS := { f := 35, calm := true, more := 0, ι := Int × Int × (List (Int × Int × Int × Int)) × Int, ok := fun i => g35 i.1 i.2.1 i.2.2.1 = some i.2.2.2, rds := fun _ => [], args := fun i => [.w (.v (.int .i64 (i.1))), .w (.v (.int .i64 (i.2.1))), .sl 4 i.2.2.1.length (ec c58 i.2.2.1)], res := fun i => .v (.int .i64 (i.2.2.2)) }
set_option maxRecDepth 8000 in
set_option maxHeartbeats 4000000 in
theorem k35_ok : CalmOk Try.prog k35 := by
  refine R.calmspec Try.func35 nm35 rfl ?_
  rintro ⟨a0, a1, a2, r⟩ hok q _ args hargs
  match args, hargs with
  | [_, _, _], hargs =>
  obtain ⟨rfl, rfl, ⟨A2, cp2, rfl, hc2, _, hR2⟩, _⟩ := hargs
  refine ⟨envC [k77] false [(35, 11)], 6, envC_ok (css_cons ⟨fun _ => k77_ok, fun h => (by cases h)⟩ (css_nil)), rfl, (by intro x hx; simp only [List.mem_cons, List.not_mem_nil, or_false] at hx; rcases hx with rfl | rfl | rfl <;> rfl), ?_⟩
  have H : Gives (g35 a0 a1 a2) (fun a => a = r) := ⟨r, hok, rfl⟩
  unfold g35 at H
  clear hok
  refine if_st H (fun h145 H => ?_) (fun h145 H => ?_)
  · have hfin := fin_st H
    repeat (refine And.intro (Ob.mk (by first | (rw [← hfin] <;> first | exact rfl | exact Iff.rfl | exact ⟨rfl, rfl⟩ | exact decide_eq_true_iff | (constructor <;> first | rfl | simp [ei, eb, es, ec, c58]) | simp [ei, eb, es, ec, c58]) | first | exact rfl | exact Iff.rfl | exact ⟨rfl, rfl⟩ | exact decide_eq_true_iff | (constructor <;> first | rfl | simp [ei, eb, es, ec, c58]) | simp [ei, eb, es, ec, c58])) ?_)
    first | exact trivial | exact rfl
  · refine if_st H (fun h146 H => ?_) (fun h146 H => ?_)
    · have hfin := fin_st H
      repeat (refine And.intro (Ob.mk (by first | (rw [← hfin] <;> first | exact rfl | exact Iff.rfl | exact ⟨rfl, rfl⟩ | exact decide_eq_true_iff | (constructor <;> first | rfl | simp [ei, eb, es, ec, c58]) | simp [ei, eb, es, ec, c58]) | first | exact rfl | exact Iff.rfl | exact ⟨rfl, rfl⟩ | exact decide_eq_true_iff | (constructor <;> first | rfl | simp [ei, eb, es, ec, c58]) | simp [ei, eb, es, ec, c58])) ?_)
      first | exact trivial | exact rfl
    · refine if_st H (fun h147 H => ?_) (fun h147 H => ?_)
      · have hfin := fin_st H
        repeat (refine And.intro (Ob.mk (by first | (rw [← hfin] <;> first | exact rfl | exact Iff.rfl | exact ⟨rfl, rfl⟩ | exact decide_eq_true_iff | (constructor <;> first | rfl | simp [ei, eb, es, ec, c58]) | simp [ei, eb, es, ec, c58]) | first | exact rfl | exact Iff.rfl | exact ⟨rfl, rfl⟩ | exact decide_eq_true_iff | (constructor <;> first | rfl | simp [ei, eb, es, ec, c58]) | simp [ei, eb, es, ec, c58])) ?_)
        first | exact trivial | exact rfl
      · refine if_st H (fun h148 H => ?_) (fun h148 H => ?_)
        · have hfin := fin_st H
          repeat (refine And.intro (Ob.mk (by first | (rw [← hfin] <;> first | exact rfl | exact Iff.rfl | exact ⟨rfl, rfl⟩ | exact decide_eq_true_iff | (constructor <;> first | rfl | simp [ei, eb, es, ec, c58]) | simp [ei, eb, es, ec, c58]) | first | exact rfl | exact Iff.rfl | exact ⟨rfl, rfl⟩ | exact decide_eq_true_iff | (constructor <;> first | rfl | simp [ei, eb, es, ec, c58]) | simp [ei, eb, es, ec, c58])) ?_)
          first | exact trivial | exact rfl
        · refine if_st H (fun h152 H => ?_) (fun h152 H => ?_)
          · have hfin := fin_st H
            repeat (refine And.intro (Ob.mk (by first | (rw [← hfin] <;> first | exact rfl | exact Iff.rfl | exact ⟨rfl, rfl⟩ | exact decide_eq_true_iff | (constructor <;> first | rfl | simp [ei, eb, es, ec, c58]) | simp [ei, eb, es, ec, c58]) | first | exact rfl | exact Iff.rfl | exact ⟨rfl, rfl⟩ | exact decide_eq_true_iff | (constructor <;> first | rfl | simp [ei, eb, es, ec, c58]) | simp [ei, eb, es, ec, c58])) ?_)
            first | exact trivial | exact rfl
          · refine if_st H (fun h153 H => ?_) (fun h153 H => ?_)
            · have hfin := fin_st H
              repeat (refine And.intro (Ob.mk (by first | (rw [← hfin] <;> first | exact rfl | exact Iff.rfl | exact ⟨rfl, rfl⟩ | exact decide_eq_true_iff | (constructor <;> first | rfl | simp [ei, eb, es, ec, c58]) | simp [ei, eb, es, ec, c58]) | first | exact rfl | exact Iff.rfl | exact ⟨rfl, rfl⟩ | exact decide_eq_true_iff | (constructor <;> first | rfl | simp [ei, eb, es, ec, c58]) | simp [ei, eb, es, ec, c58])) ?_)
              first | exact trivial | exact rfl
            · refine R.cut_fam H 29 [] [] (fun v183 => []) (fun v183 => []) [] 0 (fun H => ?_)
              refine And.intro ?_ ?_
              · refine R.loop_fam (bind_st H) [31, 32] [] (fun _ s185 => [(33, .v (.int .i64 (s185)))]) (fun _ s185 => []) 0 (fun n208 H => ?_)
                refine ⟨(n208, _), ⟨H⟩, ⟨trivial⟩, ?_⟩
                repeat (refine And.intro (Ob.mk (by first | exact rfl | exact Iff.rfl | exact ⟨rfl, rfl⟩ | exact decide_eq_true_iff | (constructor <;> first | rfl | simp [ei, eb, es, ec, c58]) | simp [ei, eb, es, ec, c58])) ?_)
                rintro ⟨m0, s185⟩ H _
                obtain ⟨m186, hm0, H⟩ := IG_succ H
                dsimp only at hm0
                subst hm0
                try dsimp only at H
                refine if_st H (fun h200 H => ?_) (fun h200 H => ?_)
                · refine ob_ix hR2 (fun h => ec0 c58_len (by decide) h) H fun h201 H => ?_
                  refine ld_int (e := (a2.getD s185.toNat default).1) (rd_get hR2 ((ec_get (i := s185.toNat) (o := 0) c58_len (tn h201) (by decide)).trans rfl)) ?_
                  refine ld_int (e := (a2.getD s185.toNat default).2.1) (rd_get hR2 ((ec_get (i := s185.toNat) (o := 1) c58_len (tn h201) (by decide)).trans rfl)) ?_
                  refine ld_int (e := (a2.getD s185.toNat default).2.2.1) (rd_get hR2 ((ec_get (i := s185.toNat) (o := 2) c58_len (tn h201) (by decide)).trans rfl)) ?_
                  refine ld_int (e := (a2.getD s185.toNat default).2.2.2) (rd_get hR2 ((ec_get (i := s185.toNat) (o := 3) c58_len (tn h201) (by decide)).trans rfl)) ?_
                  obtain ⟨v202, hv203, H⟩ := call_st H
                  refine ⟨(((a2.getD s185.toNat default).1, (a2.getD s185.toNat default).2.1, (a2.getD s185.toNat default).2.2.1, (a2.getD s185.toNat default).2.2.2), v202), ⟨hv203⟩, ⟨trivial⟩, ?_⟩
                  refine And.intro ⟨by first | exact rfl | exact Iff.rfl | exact ⟨rfl, rfl⟩ | exact decide_eq_true_iff | (constructor <;> first | rfl | simp [ei, eb, es, ec, c58]) | simp [ei, eb, es, ec, c58]⟩ ?_
                  refine And.intro ⟨by first | exact rfl | exact Iff.rfl | exact ⟨rfl, rfl⟩ | exact decide_eq_true_iff | (constructor <;> first | rfl | simp [ei, eb, es, ec, c58]) | simp [ei, eb, es, ec, c58]⟩ ?_
                  refine And.intro ⟨by first | exact rfl | exact Iff.rfl | exact ⟨rfl, rfl⟩ | exact decide_eq_true_iff | (constructor <;> first | rfl | simp [ei, eb, es, ec, c58]) | simp [ei, eb, es, ec, c58]⟩ ?_
                  refine And.intro ⟨by first | exact rfl | exact Iff.rfl | exact ⟨rfl, rfl⟩ | exact decide_eq_true_iff | (constructor <;> first | rfl | simp [ei, eb, es, ec, c58]) | simp [ei, eb, es, ec, c58]⟩ ?_
                  refine if_st H (fun h204 H => ?_) (fun h204 H => ?_)
                  · replace H := some_st H
                    dsimp only [stp, sm] at H
                    have hfin := fin_st H
                    repeat (refine And.intro (Ob.mk (by first | (rw [← hfin] <;> first | exact rfl | exact Iff.rfl | exact ⟨rfl, rfl⟩ | exact decide_eq_true_iff | (constructor <;> first | rfl | simp [ei, eb, es, ec, c58]) | simp [ei, eb, es, ec, c58]) | first | exact rfl | exact Iff.rfl | exact ⟨rfl, rfl⟩ | exact decide_eq_true_iff | (constructor <;> first | rfl | simp [ei, eb, es, ec, c58]) | simp [ei, eb, es, ec, c58])) ?_)
                    first | exact trivial | exact rfl
                  · refine ob_ck H fun h205 H => ?_
                    replace H := some_st H
                    refine ⟨(m186, s185 + 1), ⟨H, Nat.lt_succ_self _⟩, ⟨trivial⟩, ⟨rfl⟩, ?_⟩
                    repeat (refine And.intro (Ob.mk (by first | exact rfl | exact Iff.rfl | exact ⟨rfl, rfl⟩ | exact decide_eq_true_iff | (constructor <;> first | rfl | simp [ei, eb, es, ec, c58]) | simp [ei, eb, es, ec, c58])) ?_)
                    first | exact trivial | exact rfl
                · replace H := some_st H
                  dsimp only [stp, sm] at H
                  refine ⟨(), ⟨H⟩, ⟨rfl⟩, ?_⟩
                  repeat (refine And.intro (Ob.mk (by first | exact rfl | exact Iff.rfl | exact ⟨rfl, rfl⟩ | exact decide_eq_true_iff | (constructor <;> first | rfl | simp [ei, eb, es, ec, c58]) | simp [ei, eb, es, ec, c58])) ?_)
                  first | exact trivial | exact rfl
              · intro v183 H
                have hfin := fin_st H
                repeat (refine And.intro (Ob.mk (by first | (rw [← hfin] <;> first | exact rfl | exact Iff.rfl | exact ⟨rfl, rfl⟩ | exact decide_eq_true_iff | (constructor <;> first | rfl | simp [ei, eb, es, ec, c58]) | simp [ei, eb, es, ec, c58]) | first | exact rfl | exact Iff.rfl | exact ⟨rfl, rfl⟩ | exact decide_eq_true_iff | (constructor <;> first | rfl | simp [ei, eb, es, ec, c58]) | simp [ei, eb, es, ec, c58])) ?_)
                first | exact trivial | exact rfl
noncomputable def e35 (n : Nat) (a0 : Int) (a1 : Int) (a2 : List (Int × Int × Int × Int)) : Option (Int) :=
  if a0 < 0 then
    some 160
  else
    (
      if 500 < a0 then
        some 160
      else
        (
          if a1 < 0 then
            some 160
          else
            (
              if 9 < a1 then
                some 160
              else
                (
                  if ((a2.length : Nat) : Int) < 1 then
                    some 3
                  else
                    (
                      if 64 < ((a2.length : Nat) : Int) then
                        some 3
                      else
                        (
                          jn (α := _) (β := Unit) (fun k184 =>
                              (itN n (σ := Int) (ρ := (Unit) ⊕ (Unit)) (fun s185 =>
                                  if s185 < ((a2.length : Nat) : Int) then
                                    (
                                      ck (0 ≤ s185 ∧ s185 < ((a2.length : Nat) : Int)) <|
                                      (e77 n ((a2.getD s185.toNat default).1, (a2.getD s185.toNat default).2.1, (a2.getD s185.toNat default).2.2.1, (a2.getD s185.toNat default).2.2.2)).bind fun v202 =>
                                      if ¬ (v202 = true) then
                                        some (.out (.inl (())))
                                      else
                                        (
                                          ck (inR .i64 (s185 + 1)) <|
                                          some (.go (s185 + 1))
                                        )
                                    )
                                  else
                                    some (.out (.inr (())))
                                ) 0).bind fun o199 =>
                              sm o199 (fun o206 =>
                                  some 1
                                ) (fun o207 =>
                                  k184 ()
                                )
                          ) (fun v183 =>
                            some 0
                          )
                        )
                    )
                )
            )
        )
    )
theorem e35_le (n : Nat) (a0 : Int) (a1 : Int) (a2 : List (Int × Int × Int × Int)) : Le (e35 n a0 a1 a2) (g35 a0 a1 a2) := by
  unfold e35 g35
  repeat' first | exact e77_le _ _ | refine le_bind ?_ (fun _ => ?_) | refine le_ck ?_ | refine le_if ?_ ?_ | refine le_sm (fun _ => ?_) (fun _ => ?_) | refine le_jn (fun _ _ _ => ?_) (fun _ => ?_) | refine le_loop (fun _ => ?_) | with_reducible exact le_refl | apply_assumption

/-- placard/placardref16.need -/
noncomputable def g82 (a0 : Int) (a1 : List (Int × Int × Int × Int)) (a2 : List Bool) : Option (Int) :=
  jn (α := _) (β := Int × Int) (fun k244 =>
      (loopO (σ := Int × Int × Int) (ρ := Int × Int) (fun s245 =>
          if s245.2.2 < ((a1.length : Nat) : Int) then
            (
              ck (0 ≤ s245.2.2 ∧ s245.2.2 < ((a2.length : Nat) : Int)) <|
              if (a2.getD s245.2.2.toNat false) = true then
                (
                  ck (0 ≤ s245.2.2 ∧ s245.2.2 < ((a1.length : Nat) : Int)) <|
                  ck (inR .i64 (s245.1 + ((a1.getD s245.2.2.toNat default).1))) <|
                  ck (inR .i64 (s245.2.1 + 1)) <|
                  ck (inR .i64 (s245.2.2 + 1)) <|
                  some (.go (s245.1 + ((a1.getD s245.2.2.toNat default).1), s245.2.1 + 1, s245.2.2 + 1))
                )
              else
                (
                  ck (inR .i64 (s245.2.2 + 1)) <|
                  some (.go (s245.1, s245.2.1, s245.2.2 + 1))
                )
            )
          else
            some (.out (s245.1, s245.2.1))
        ) (0, 0, 0)).bind fun o263 =>
        k244 (o263.1, o263.2)
  ) (fun v243 =>
    if 1 < v243.2 then
      (
        ck (inR .i64 (v243.2 - 1)) <|
        ck (inR .i64 (a0 * (v243.2 - 1))) <|
        ck (inR .i64 (v243.1 + (a0 * (v243.2 - 1)))) <|
        some (v243.1 + (a0 * (v243.2 - 1)))
      )
    else
      some v243.1
  )
noncomputable def k82 : Eng.CS := { f := 82, calm := true, more := 0, ι := Int × (List (Int × Int × Int × Int)) × (List Bool) × Int, ok := fun i => g82 i.1 i.2.1 i.2.2.1 = some i.2.2.2, rds := fun _ => [], args := fun i => [.w (.v (.int .i64 (i.1))), .sl 4 i.2.1.length (ec c58 i.2.1), .sl 1 i.2.2.1.length (eb i.2.2.1)], res := fun i => .v (.int .i64 (i.2.2.2)) }
set_option maxRecDepth 8000 in
set_option maxHeartbeats 4000000 in
theorem k82_ok : CalmOk Try.prog k82 := by
  refine R.calmspec Try.func82 nm82 rfl ?_
  rintro ⟨a0, a1, a2, r⟩ hok q _ args hargs
  match args, hargs with
  | [_, _, _], hargs =>
  obtain ⟨rfl, ⟨A1, cp1, rfl, hc1, _, hR1⟩, ⟨A2, cp2, rfl, hc2, _, hR2⟩, _⟩ := hargs
  refine ⟨envC [] false [(82, 9)], 6, envC_ok (css_nil), rfl, (by intro x hx; simp only [List.mem_cons, List.not_mem_nil, or_false] at hx; rcases hx with rfl | rfl | rfl <;> rfl), ?_⟩
  have H : Gives (g82 a0 a1 a2) (fun a => a = r) := ⟨r, hok, rfl⟩
  unfold g82 at H
  clear hok
  refine R.cut_fam H 10 [0] [] (fun v243 => [(7, .v (.int .i64 (v243.1))), (8, .v (.int .i64 (v243.2)))]) (fun v243 => []) [] 0 (fun H => ?_)
  refine And.intro ?_ ?_
  · refine R.loop_fam (bind_st H) [0, 1, 2] [] (fun _ s245 => [(7, .v (.int .i64 (s245.1))), (8, .v (.int .i64 (s245.2.1))), (9, .v (.int .i64 (s245.2.2)))]) (fun _ s245 => []) 0 (fun n272 H => ?_)
    refine ⟨(n272, _), ⟨H⟩, ⟨trivial⟩, ?_⟩
    repeat (refine And.intro (Ob.mk (by first | exact rfl | exact Iff.rfl | exact ⟨rfl, rfl⟩ | exact decide_eq_true_iff | (constructor <;> first | rfl | simp [ei, eb, es, ec, c58]) | simp [ei, eb, es, ec, c58])) ?_)
    rintro ⟨m0, s245⟩ H _
    obtain ⟨m246, hm0, H⟩ := IG_succ H
    dsimp only at hm0
    subst hm0
    try dsimp only at H
    refine if_st H (fun h264 H => ?_) (fun h264 H => ?_)
    · refine ob_ix hR2 (fun h => eb0 h) H fun h265 H => ?_
      refine ld_bool (e := a2.getD s245.2.2.toNat false) (rd_get hR2 (eb_get (l := a2) (tn h265))) ?_
      refine if_st H (fun h266 H => ?_) (fun h266 H => ?_)
      · refine ob_ix hR1 (fun h => ec0 c58_len (by decide) h) H fun h267 H => ?_
        refine ld_int (e := (a1.getD s245.2.2.toNat default).1) (rd_get hR1 ((ec_get (i := s245.2.2.toNat) (o := 0) c58_len (tn h267) (by decide)).trans rfl)) ?_
        refine ob_ck H fun h268 H => ?_
        refine ob_ck H fun h269 H => ?_
        refine ob_ck H fun h270 H => ?_
        replace H := some_st H
        refine ⟨(m246, (s245.1 + ((a1.getD s245.2.2.toNat default).1), s245.2.1 + 1, s245.2.2 + 1)), ⟨H, Nat.lt_succ_self _⟩, ⟨trivial⟩, ⟨rfl⟩, ?_⟩
        repeat (refine And.intro (Ob.mk (by first | exact rfl | exact Iff.rfl | exact ⟨rfl, rfl⟩ | exact decide_eq_true_iff | (constructor <;> first | rfl | simp [ei, eb, es, ec, c58]) | simp [ei, eb, es, ec, c58])) ?_)
        first | exact trivial | exact rfl
      · refine ob_ck H fun h271 H => ?_
        replace H := some_st H
        refine ⟨(m246, (s245.1, s245.2.1, s245.2.2 + 1)), ⟨H, Nat.lt_succ_self _⟩, ⟨trivial⟩, ⟨rfl⟩, ?_⟩
        repeat (refine And.intro (Ob.mk (by first | exact rfl | exact Iff.rfl | exact ⟨rfl, rfl⟩ | exact decide_eq_true_iff | (constructor <;> first | rfl | simp [ei, eb, es, ec, c58]) | simp [ei, eb, es, ec, c58])) ?_)
        first | exact trivial | exact rfl
    · replace H := some_st H
      dsimp only [stp, sm] at H
      refine ⟨(s245.1, s245.2.1), ⟨H⟩, ⟨rfl⟩, ?_⟩
      repeat (refine And.intro (Ob.mk (by first | exact rfl | exact Iff.rfl | exact ⟨rfl, rfl⟩ | exact decide_eq_true_iff | (constructor <;> first | rfl | simp [ei, eb, es, ec, c58]) | simp [ei, eb, es, ec, c58])) ?_)
      first | exact trivial | exact rfl
  · intro v243 H
    refine if_st H (fun h277 H => ?_) (fun h277 H => ?_)
    · refine ob_ck H fun h278 H => ?_
      refine ob_ck H fun h279 H => ?_
      refine ob_ck H fun h280 H => ?_
      have hfin := fin_st H
      repeat (refine And.intro (Ob.mk (by first | (rw [← hfin] <;> first | exact rfl | exact Iff.rfl | exact ⟨rfl, rfl⟩ | exact decide_eq_true_iff | (constructor <;> first | rfl | simp [ei, eb, es, ec, c58]) | simp [ei, eb, es, ec, c58]) | first | exact rfl | exact Iff.rfl | exact ⟨rfl, rfl⟩ | exact decide_eq_true_iff | (constructor <;> first | rfl | simp [ei, eb, es, ec, c58]) | simp [ei, eb, es, ec, c58])) ?_)
      first | exact trivial | exact rfl
    · have hfin := fin_st H
      repeat (refine And.intro (Ob.mk (by first | (rw [← hfin] <;> first | exact rfl | exact Iff.rfl | exact ⟨rfl, rfl⟩ | exact decide_eq_true_iff | (constructor <;> first | rfl | simp [ei, eb, es, ec, c58]) | simp [ei, eb, es, ec, c58]) | first | exact rfl | exact Iff.rfl | exact ⟨rfl, rfl⟩ | exact decide_eq_true_iff | (constructor <;> first | rfl | simp [ei, eb, es, ec, c58]) | simp [ei, eb, es, ec, c58])) ?_)
      first | exact trivial | exact rfl
noncomputable def e82 (n : Nat) (a0 : Int) (a1 : List (Int × Int × Int × Int)) (a2 : List Bool) : Option (Int) :=
  jn (α := _) (β := Int × Int) (fun k244 =>
      (itN n (σ := Int × Int × Int) (ρ := Int × Int) (fun s245 =>
          if s245.2.2 < ((a1.length : Nat) : Int) then
            (
              ck (0 ≤ s245.2.2 ∧ s245.2.2 < ((a2.length : Nat) : Int)) <|
              if (a2.getD s245.2.2.toNat false) = true then
                (
                  ck (0 ≤ s245.2.2 ∧ s245.2.2 < ((a1.length : Nat) : Int)) <|
                  ck (inR .i64 (s245.1 + ((a1.getD s245.2.2.toNat default).1))) <|
                  ck (inR .i64 (s245.2.1 + 1)) <|
                  ck (inR .i64 (s245.2.2 + 1)) <|
                  some (.go (s245.1 + ((a1.getD s245.2.2.toNat default).1), s245.2.1 + 1, s245.2.2 + 1))
                )
              else
                (
                  ck (inR .i64 (s245.2.2 + 1)) <|
                  some (.go (s245.1, s245.2.1, s245.2.2 + 1))
                )
            )
          else
            some (.out (s245.1, s245.2.1))
        ) (0, 0, 0)).bind fun o263 =>
        k244 (o263.1, o263.2)
  ) (fun v243 =>
    if 1 < v243.2 then
      (
        ck (inR .i64 (v243.2 - 1)) <|
        ck (inR .i64 (a0 * (v243.2 - 1))) <|
        ck (inR .i64 (v243.1 + (a0 * (v243.2 - 1)))) <|
        some (v243.1 + (a0 * (v243.2 - 1)))
      )
    else
      some v243.1
  )
theorem e82_le (n : Nat) (a0 : Int) (a1 : List (Int × Int × Int × Int)) (a2 : List Bool) : Le (e82 n a0 a1 a2) (g82 a0 a1 a2) := by
  unfold e82 g82
  repeat' first | refine le_bind ?_ (fun _ => ?_) | refine le_ck ?_ | refine le_if ?_ ?_ | refine le_sm (fun _ => ?_) (fun _ => ?_) | refine le_jn (fun _ _ _ => ?_) (fun _ => ?_) | refine le_loop (fun _ => ?_) | with_reducible exact le_refl | apply_assumption

/-- placard/placardref16.every -/
noncomputable def g83 (a0 : List (Int × Int × Int × Int)) : Option (List Bool) :=
  jn (α := _) (β := List Bool) (fun k297 =>
      (loopO (σ := List Bool × Int) (ρ := List Bool) (fun s298 =>
          if s298.2 < ((a0.length : Nat) : Int) then
            (
              ck ((s298.1.length + 1) * 1 ≤ 140737488355328) <|
              ck (inR .i64 (s298.2 + 1)) <|
              some (.go ((s298.1 ++ [true]), s298.2 + 1))
            )
          else
            some (.out s298.1)
        ) ([], 0)).bind fun o306 =>
        k297 o306
  ) (fun v296 =>
    some v296
  )
noncomputable def k83 : Eng.CS := { f := 83, calm := false, more := 1, ι := (List (Int × Int × Int × Int)) × List Bool, ok := fun i => g83 i.1 = some i.2, rds := fun _ => [], args := fun i => [.sl 4 i.1.length (ec c58 i.1)], res := fun i => .own 0, L' := fun i => [(0, .arr 4 1 i.2.length (eb i.2))], rn := [(0, 0, 4, 1)] }
set_option maxRecDepth 8000 in
set_option maxHeartbeats 4000000 in
theorem k83_ok : CSOk Try.prog k83 := by
  refine R.cspec Try.func83 nm83 rfl ?_
  rintro ⟨a0, r⟩ hok q _ args hargs
  match args, hargs with
  | [_], hargs =>
  obtain ⟨⟨A0, cp0, rfl, hc0, _, hR0⟩, _⟩ := hargs
  refine ⟨envC [] false [(83, 6)], 6, envC_ok (css_nil), ?_⟩
  have H : Gives (g83 a0) (fun a => a = r) := ⟨r, hok, rfl⟩
  unfold g83 at H
  clear hok
  refine R.cut_fam H 12 [] [] (fun v296 => [(3, .own 12)]) (fun v296 => [(12, .arr 4 1 (v296.length) (eb (v296)))]) [] 1 (fun H => ?_)
  refine And.intro ?_ ?_
  · refine R.loop_fam (bind_st H) [0] [(3, 0, 4, 1)] (fun _ s298 => [(3, .own 4), (4, .v (.int .i64 (s298.2)))]) (fun _ s298 => [(4, .arr 4 1 (s298.1.length) (eb (s298.1)))]) 1 (fun n310 H => ?_)
    refine ⟨(n310, _), ⟨H⟩, ⟨trivial⟩, ?_⟩
    repeat (refine And.intro (Ob.mk (by first | exact rfl | exact Iff.rfl | exact ⟨rfl, rfl⟩ | exact decide_eq_true_iff | (constructor <;> first | rfl | simp [ei, eb, es, ec, c58]) | simp [ei, eb, es, ec, c58])) ?_)
    rintro ⟨m0, s298⟩ H _
    obtain ⟨m299, hm0, H⟩ := IG_succ H
    dsimp only at hm0
    subst hm0
    try dsimp only at H
    refine if_st H (fun h307 H => ?_) (fun h307 H => ?_)
    · refine ob_app (by decide) (by first | exact eb_one | (intro y hy; simp [ei, eb, es, ec, c58] at hy; (first | (rcases hy with rfl | hy) | subst hy | skip); all_goals first | rfl | simp_all [Value.oneCell'])) H fun h308 H => ?_
      refine ob_ck H fun h309 H => ?_
      replace H := some_st H
      refine ⟨(m299, ((s298.1 ++ [true]), s298.2 + 1)), ⟨H, Nat.lt_succ_self _⟩, ⟨trivial⟩, ⟨rfl⟩, ?_⟩
      repeat (refine And.intro (Ob.mk (by first | exact rfl | exact Iff.rfl | exact ⟨rfl, rfl⟩ | exact decide_eq_true_iff | (constructor <;> first | rfl | simp [ei, eb, es, ec, c58]) | simp [ei, eb, es, ec, c58])) ?_)
      first | exact trivial | exact rfl
    · replace H := some_st H
      dsimp only [stp, sm] at H
      refine ⟨s298.1, ⟨H⟩, ⟨rfl⟩, ?_⟩
      repeat (refine And.intro (Ob.mk (by first | exact rfl | exact Iff.rfl | exact ⟨rfl, rfl⟩ | exact decide_eq_true_iff | (constructor <;> first | rfl | simp [ei, eb, es, ec, c58]) | simp [ei, eb, es, ec, c58])) ?_)
      first | exact trivial | exact rfl
  · intro v296 H
    have hfin := fin_st H
    repeat (refine And.intro (Ob.mk (by first | (rw [← hfin] <;> first | exact rfl | exact Iff.rfl | exact ⟨rfl, rfl⟩ | exact decide_eq_true_iff | (constructor <;> first | rfl | simp [ei, eb, es, ec, c58]) | simp [ei, eb, es, ec, c58]) | first | exact rfl | exact Iff.rfl | exact ⟨rfl, rfl⟩ | exact decide_eq_true_iff | (constructor <;> first | rfl | simp [ei, eb, es, ec, c58]) | simp [ei, eb, es, ec, c58])) ?_)
    first | exact trivial | exact rfl
noncomputable def e83 (n : Nat) (a0 : List (Int × Int × Int × Int)) : Option (List Bool) :=
  jn (α := _) (β := List Bool) (fun k297 =>
      (itN n (σ := List Bool × Int) (ρ := List Bool) (fun s298 =>
          if s298.2 < ((a0.length : Nat) : Int) then
            (
              ck ((s298.1.length + 1) * 1 ≤ 140737488355328) <|
              ck (inR .i64 (s298.2 + 1)) <|
              some (.go ((s298.1 ++ [true]), s298.2 + 1))
            )
          else
            some (.out s298.1)
        ) ([], 0)).bind fun o306 =>
        k297 o306
  ) (fun v296 =>
    some v296
  )
theorem e83_le (n : Nat) (a0 : List (Int × Int × Int × Int)) : Le (e83 n a0) (g83 a0) := by
  unfold e83 g83
  repeat' first | refine le_bind ?_ (fun _ => ?_) | refine le_ck ?_ | refine le_if ?_ ?_ | refine le_sm (fun _ => ?_) (fun _ => ?_) | refine le_jn (fun _ _ _ => ?_) (fun _ => ?_) | refine le_loop (fun _ => ?_) | with_reducible exact le_refl | apply_assumption

/-- placard/placardref16.Least -/
noncomputable def g51 (a0 : Int) (a1 : List (Int × Int × Int × Int)) : Option (Int × Int) :=
  (g34 0 a0 a1).bind fun v311 =>
  if ¬ v311 = 0 then
    some (0, v311)
  else
    (
      (g83 a1).bind fun v315 =>
      (g82 a0 a1 v315).bind fun v317 =>
      some (v317, 0)
    )
noncomputable def k51 : Eng.CS := { f := 51, calm := true, more := 0, ι := Int × (List (Int × Int × Int × Int)) × (Int × Int), ok := fun i => g51 i.1 i.2.1 = some i.2.2, rds := fun _ => [], args := fun i => [.w (.v (.int .i64 (i.1))), .sl 4 i.2.1.length (ec c58 i.2.1)], res := fun i => .tup [.v (.int .i64 (i.2.2.1)), .v (.int .i64 (i.2.2.2))] }
set_option maxRecDepth 8000 in
set_option maxHeartbeats 4000000 in
theorem k51_ok : CalmOk Try.prog k51 := by
  refine R.calmspec Try.func51 nm51 rfl ?_
  rintro ⟨a0, a1, r⟩ hok q _ args hargs
  match args, hargs with
  | [_, _], hargs =>
  obtain ⟨rfl, ⟨A1, cp1, rfl, hc1, _, hR1⟩, _⟩ := hargs
  refine ⟨envC [k34, k82, k83] false [], 6, envC_ok (css_cons ⟨fun _ => k34_ok, fun h => (by cases h)⟩ (css_cons ⟨fun _ => k82_ok, fun h => (by cases h)⟩ (css_cons ⟨fun h => (by cases h), fun _ => k83_ok⟩ (css_nil)))), rfl, (by intro x hx; simp only [List.mem_cons, List.not_mem_nil, or_false] at hx; rcases hx with rfl | rfl <;> rfl), ?_⟩
  have H : Gives (g51 a0 a1) (fun a => a = r) := ⟨r, hok, rfl⟩
  unfold g51 at H
  clear hok
  obtain ⟨v311, hv312, H⟩ := call_st H
  refine ⟨(0, a0, a1, v311), ⟨hv312⟩, ⟨trivial⟩, ?_⟩
  refine And.intro ⟨rfl⟩ ?_
  refine And.intro ⟨rfl⟩ ?_
  refine And.intro ⟨rfl, hc1, (ec_len c58_len).trans (congrArg (· * 4) (show _ = _ from rfl)), hR1⟩ ?_
  refine if_st H (fun h314 H => ?_) (fun h314 H => ?_)
  · have hfin := fin_st H
    repeat (refine And.intro (Ob.mk (by first | (rw [← hfin] <;> first | exact rfl | exact Iff.rfl | exact ⟨rfl, rfl⟩ | exact decide_eq_true_iff | (constructor <;> first | rfl | simp [ei, eb, es, ec, c58]) | simp [ei, eb, es, ec, c58]) | first | exact rfl | exact Iff.rfl | exact ⟨rfl, rfl⟩ | exact decide_eq_true_iff | (constructor <;> first | rfl | simp [ei, eb, es, ec, c58]) | simp [ei, eb, es, ec, c58])) ?_)
    first | exact trivial | exact rfl
  · obtain ⟨v315, hv316, H⟩ := call_st H
    refine ⟨(a1, v315), ⟨hv316⟩, ⟨trivial⟩, ?_⟩
    refine And.intro ⟨rfl, hc1, (ec_len c58_len).trans (congrArg (· * 4) (show _ = _ from rfl)), hR1⟩ ?_
    obtain ⟨v317, hv318, H⟩ := call_st H
    refine ⟨(a0, a1, v315, v317), ⟨hv318⟩, ⟨trivial⟩, ?_⟩
    refine And.intro ⟨rfl⟩ ?_
    refine And.intro ⟨rfl, hc1, (ec_len c58_len).trans (congrArg (· * 4) (show _ = _ from rfl)), hR1⟩ ?_
    refine And.intro ⟨by first | rfl | (simp; done), by first | rfl | (simp [ei, eb, es, ec, c58]; done) | (simp only [ei, eb, es, ec, c58, List.map_append, List.nil_append, List.append_assoc]; rfl)⟩ ?_
    have hfin := fin_st H
    repeat (refine And.intro (Ob.mk (by first | (rw [← hfin] <;> first | exact rfl | exact Iff.rfl | exact ⟨rfl, rfl⟩ | exact decide_eq_true_iff | (constructor <;> first | rfl | simp [ei, eb, es, ec, c58]) | simp [ei, eb, es, ec, c58]) | first | exact rfl | exact Iff.rfl | exact ⟨rfl, rfl⟩ | exact decide_eq_true_iff | (constructor <;> first | rfl | simp [ei, eb, es, ec, c58]) | simp [ei, eb, es, ec, c58])) ?_)
    first | exact trivial | exact rfl
noncomputable def e51 (n : Nat) (a0 : Int) (a1 : List (Int × Int × Int × Int)) : Option (Int × Int) :=
  (e34 n 0 a0 a1).bind fun v311 =>
  if ¬ v311 = 0 then
    some (0, v311)
  else
    (
      (e83 n a1).bind fun v315 =>
      (e82 n a0 a1 v315).bind fun v317 =>
      some (v317, 0)
    )
theorem e51_le (n : Nat) (a0 : Int) (a1 : List (Int × Int × Int × Int)) : Le (e51 n a0 a1) (g51 a0 a1) := by
  unfold e51 g51
  repeat' first | exact e34_le _ _ _ _ | exact e82_le _ _ _ _ | exact e83_le _ _ | refine le_bind ?_ (fun _ => ?_) | refine le_ck ?_ | refine le_if ?_ ?_ | refine le_sm (fun _ => ?_) (fun _ => ?_) | refine le_jn (fun _ _ _ => ?_) (fun _ => ?_) | refine le_loop (fun _ => ?_) | with_reducible exact le_refl | apply_assumption

/-- placard/placardref16.first -/
noncomputable def g84 (a0 : List (Int × Int × Int × Int)) (a1 : List Bool) : Option (Int) :=
  jn (α := _) (β := Int) (fun k369 =>
      (loopO (σ := Int × Int) (ρ := Int) (fun s370 =>
          if s370.2 < ((a0.length : Nat) : Int) then
            (
              ck (0 ≤ s370.2 ∧ s370.2 < ((a1.length : Nat) : Int)) <|
              if (a1.getD s370.2.toNat false) = true then
                (
                  if s370.1 < 0 then
                    (
                      ck (inR .i64 (s370.2 + 1)) <|
                      some (.go (s370.2, s370.2 + 1))
                    )
                  else
                    (
                      ck (0 ≤ s370.2 ∧ s370.2 < ((a0.length : Nat) : Int)) <|
                      ck (0 ≤ s370.1 ∧ s370.1 < ((a0.length : Nat) : Int)) <|
                      if ((a0.getD s370.2.toNat default).2.2.2) ≤ ((a0.getD s370.1.toNat default).2.2.2) then
                        (
                          ck (inR .i64 (s370.2 + 1)) <|
                          some (.go (s370.2, s370.2 + 1))
                        )
                      else
                        (
                          ck (inR .i64 (s370.2 + 1)) <|
                          some (.go (s370.1, s370.2 + 1))
                        )
                    )
                )
              else
                (
                  ck (inR .i64 (s370.2 + 1)) <|
                  some (.go (s370.1, s370.2 + 1))
                )
            )
          else
            some (.out s370.1)
        ) ((-1), 0)).bind fun o394 =>
        k369 o394
  ) (fun v368 =>
    some v368
  )
noncomputable def k84 : Eng.CS := { f := 84, calm := true, more := 0, ι := (List (Int × Int × Int × Int)) × (List Bool) × Int, ok := fun i => g84 i.1 i.2.1 = some i.2.2, rds := fun _ => [], args := fun i => [.sl 4 i.1.length (ec c58 i.1), .sl 1 i.2.1.length (eb i.2.1)], res := fun i => .v (.int .i64 (i.2.2)) }
set_option maxRecDepth 8000 in
set_option maxHeartbeats 4000000 in
theorem k84_ok : CalmOk Try.prog k84 := by
  refine R.calmspec Try.func84 nm84 rfl ?_
  rintro ⟨a0, a1, r⟩ hok q _ args hargs
  match args, hargs with
  | [_, _], hargs =>
  obtain ⟨⟨A0, cp0, rfl, hc0, _, hR0⟩, ⟨A1, cp1, rfl, hc1, _, hR1⟩, _⟩ := hargs
  refine ⟨envC [] false [(84, 7)], 6, envC_ok (css_nil), rfl, (by intro x hx; simp only [List.mem_cons, List.not_mem_nil, or_false] at hx; rcases hx with rfl | rfl <;> rfl), ?_⟩
  have H : Gives (g84 a0 a1) (fun a => a = r) := ⟨r, hok, rfl⟩
  unfold g84 at H
  clear hok
  refine R.cut_fam H 9 [] [] (fun v368 => [(5, .v (.int .i64 (v368)))]) (fun v368 => []) [] 0 (fun H => ?_)
  refine And.intro ?_ ?_
  · refine R.loop_fam (bind_st H) [0, 1] [] (fun _ s370 => [(5, .v (.int .i64 (s370.1))), (6, .v (.int .i64 (s370.2)))]) (fun _ s370 => []) 0 (fun n406 H => ?_)
    refine ⟨(n406, _), ⟨H⟩, ⟨trivial⟩, ?_⟩
    repeat (refine And.intro (Ob.mk (by first | exact rfl | exact Iff.rfl | exact ⟨rfl, rfl⟩ | exact decide_eq_true_iff | (constructor <;> first | rfl | simp [ei, eb, es, ec, c58]) | simp [ei, eb, es, ec, c58])) ?_)
    rintro ⟨m0, s370⟩ H _
    obtain ⟨m371, hm0, H⟩ := IG_succ H
    dsimp only at hm0
    subst hm0
    try dsimp only at H
    refine if_st H (fun h395 H => ?_) (fun h395 H => ?_)
    · refine And.intro ⟨by kernel_rfl⟩ ?_
      refine ob_ix hR1 (fun h => eb0 h) H fun h396 H => ?_
      refine ld_bool (e := a1.getD s370.2.toNat false) (rd_get hR1 (eb_get (l := a1) (tn h396))) ?_
      refine if_st H (fun h397 H => ?_) (fun h397 H => ?_)
      · refine if_st H (fun h398 H => ?_) (fun h398 H => ?_)
        · refine ob_ck H fun h399 H => ?_
          replace H := some_st H
          refine ⟨(m371, (s370.2, s370.2 + 1)), ⟨H, Nat.lt_succ_self _⟩, ⟨trivial⟩, ⟨rfl⟩, ?_⟩
          repeat (refine And.intro (Ob.mk (by first | exact rfl | exact Iff.rfl | exact ⟨rfl, rfl⟩ | exact decide_eq_true_iff | (constructor <;> first | rfl | simp [ei, eb, es, ec, c58]) | simp [ei, eb, es, ec, c58])) ?_)
          first | exact trivial | exact rfl
        · refine ob_ix hR0 (fun h => ec0 c58_len (by decide) h) H fun h400 H => ?_
          refine ld_int (e := (a0.getD s370.2.toNat default).2.2.2) (rd_get hR0 ((ec_get (i := s370.2.toNat) (o := 3) c58_len (tn h400) (by decide)).trans rfl)) ?_
          refine ob_ix hR0 (fun h => ec0 c58_len (by decide) h) H fun h401 H => ?_
          refine ld_int (e := (a0.getD s370.1.toNat default).2.2.2) (rd_get hR0 ((ec_get (i := s370.1.toNat) (o := 3) c58_len (tn h401) (by decide)).trans rfl)) ?_
          refine if_st H (fun h402 H => ?_) (fun h402 H => ?_)
          · refine ob_ck H fun h403 H => ?_
            replace H := some_st H
            refine ⟨(m371, (s370.2, s370.2 + 1)), ⟨H, Nat.lt_succ_self _⟩, ⟨trivial⟩, ⟨rfl⟩, ?_⟩
            repeat (refine And.intro (Ob.mk (by first | exact rfl | exact Iff.rfl | exact ⟨rfl, rfl⟩ | exact decide_eq_true_iff | (constructor <;> first | rfl | simp [ei, eb, es, ec, c58]) | simp [ei, eb, es, ec, c58])) ?_)
            first | exact trivial | exact rfl
          · refine ob_ck H fun h404 H => ?_
            replace H := some_st H
            refine ⟨(m371, (s370.1, s370.2 + 1)), ⟨H, Nat.lt_succ_self _⟩, ⟨trivial⟩, ⟨rfl⟩, ?_⟩
            repeat (refine And.intro (Ob.mk (by first | exact rfl | exact Iff.rfl | exact ⟨rfl, rfl⟩ | exact decide_eq_true_iff | (constructor <;> first | rfl | simp [ei, eb, es, ec, c58]) | simp [ei, eb, es, ec, c58])) ?_)
            first | exact trivial | exact rfl
      · refine ob_ck H fun h405 H => ?_
        replace H := some_st H
        refine ⟨(m371, (s370.1, s370.2 + 1)), ⟨H, Nat.lt_succ_self _⟩, ⟨trivial⟩, ⟨rfl⟩, ?_⟩
        repeat (refine And.intro (Ob.mk (by first | exact rfl | exact Iff.rfl | exact ⟨rfl, rfl⟩ | exact decide_eq_true_iff | (constructor <;> first | rfl | simp [ei, eb, es, ec, c58]) | simp [ei, eb, es, ec, c58])) ?_)
        first | exact trivial | exact rfl
    · replace H := some_st H
      dsimp only [stp, sm] at H
      refine ⟨s370.1, ⟨H⟩, ⟨rfl⟩, ?_⟩
      repeat (refine And.intro (Ob.mk (by first | exact rfl | exact Iff.rfl | exact ⟨rfl, rfl⟩ | exact decide_eq_true_iff | (constructor <;> first | rfl | simp [ei, eb, es, ec, c58]) | simp [ei, eb, es, ec, c58])) ?_)
      first | exact trivial | exact rfl
  · intro v368 H
    have hfin := fin_st H
    repeat (refine And.intro (Ob.mk (by first | (rw [← hfin] <;> first | exact rfl | exact Iff.rfl | exact ⟨rfl, rfl⟩ | exact decide_eq_true_iff | (constructor <;> first | rfl | simp [ei, eb, es, ec, c58]) | simp [ei, eb, es, ec, c58]) | first | exact rfl | exact Iff.rfl | exact ⟨rfl, rfl⟩ | exact decide_eq_true_iff | (constructor <;> first | rfl | simp [ei, eb, es, ec, c58]) | simp [ei, eb, es, ec, c58])) ?_)
    first | exact trivial | exact rfl
noncomputable def e84 (n : Nat) (a0 : List (Int × Int × Int × Int)) (a1 : List Bool) : Option (Int) :=
  jn (α := _) (β := Int) (fun k369 =>
      (itN n (σ := Int × Int) (ρ := Int) (fun s370 =>
          if s370.2 < ((a0.length : Nat) : Int) then
            (
              ck (0 ≤ s370.2 ∧ s370.2 < ((a1.length : Nat) : Int)) <|
              if (a1.getD s370.2.toNat false) = true then
                (
                  if s370.1 < 0 then
                    (
                      ck (inR .i64 (s370.2 + 1)) <|
                      some (.go (s370.2, s370.2 + 1))
                    )
                  else
                    (
                      ck (0 ≤ s370.2 ∧ s370.2 < ((a0.length : Nat) : Int)) <|
                      ck (0 ≤ s370.1 ∧ s370.1 < ((a0.length : Nat) : Int)) <|
                      if ((a0.getD s370.2.toNat default).2.2.2) ≤ ((a0.getD s370.1.toNat default).2.2.2) then
                        (
                          ck (inR .i64 (s370.2 + 1)) <|
                          some (.go (s370.2, s370.2 + 1))
                        )
                      else
                        (
                          ck (inR .i64 (s370.2 + 1)) <|
                          some (.go (s370.1, s370.2 + 1))
                        )
                    )
                )
              else
                (
                  ck (inR .i64 (s370.2 + 1)) <|
                  some (.go (s370.1, s370.2 + 1))
                )
            )
          else
            some (.out s370.1)
        ) ((-1), 0)).bind fun o394 =>
        k369 o394
  ) (fun v368 =>
    some v368
  )
theorem e84_le (n : Nat) (a0 : List (Int × Int × Int × Int)) (a1 : List Bool) : Le (e84 n a0 a1) (g84 a0 a1) := by
  unfold e84 g84
  repeat' first | refine le_bind ?_ (fun _ => ?_) | refine le_ck ?_ | refine le_if ?_ ?_ | refine le_sm (fun _ => ?_) (fun _ => ?_) | refine le_jn (fun _ _ _ => ?_) (fun _ => ?_) | refine le_loop (fun _ => ?_) | with_reducible exact le_refl | apply_assumption

/-- placard/placardref16.Stay -/
noncomputable def g52 (a0 : Int) (a1 : Int) (a2 : List (Int × Int × Int × Int)) : Option (List Bool × Int) :=
  (g34 a0 a1 a2).bind fun v407 =>
  if ¬ v407 = 0 then
    some (([] : List Bool), v407)
  else
    (
      (g83 a2).bind fun v411 =>
      jn (α := _) (β := List Bool) (fun k451 =>
          (loopO (σ := List Bool) (ρ := List Bool) (fun s452 =>
              (g84 a2 s452).bind fun v473 =>
              if 0 ≤ v473 then
                (
                  (g82 a1 a2 s452).bind fun v476 =>
                  if a0 < v476 then
                    (
                      (g84 a2 s452).bind fun v479 =>
                      ck (0 ≤ v479 ∧ v479 < ((s452.length : Nat) : Int)) <|
                      some (.go (s452.set v479.toNat false))
                    )
                  else
                    some (.out s452)
                )
              else
                some (.out s452)
            ) v411).bind fun o472 =>
            k451 o472
      ) (fun v450 =>
        some (v450, 0)
      )
    )
noncomputable def k52 : Eng.CS := { f := 52, calm := false, more := 1, ι := Int × Int × (List (Int × Int × Int × Int)) × (List Bool × Int), ok := fun i => g52 i.1 i.2.1 i.2.2.1 = some i.2.2.2, rds := fun _ => [], args := fun i => [.w (.v (.int .i64 (i.1))), .w (.v (.int .i64 (i.2.1))), .sl 4 i.2.2.1.length (ec c58 i.2.2.1)], res := fun i => .tup [.own 0, .v (.int .i64 (i.2.2.2.2))], L' := fun i => [(0, .arr 4 1 i.2.2.2.1.length (eb i.2.2.2.1))], rn := [(0, 0, 4, 1)] }
set_option maxRecDepth 8000 in
set_option maxHeartbeats 4000000 in
theorem k52_ok : CSOk Try.prog k52 := by
  refine R.cspec Try.func52 nm52 rfl ?_
  rintro ⟨a0, a1, a2, r⟩ hok q _ args hargs
  match args, hargs with
  | [_, _, _], hargs =>
  obtain ⟨rfl, rfl, ⟨A2, cp2, rfl, hc2, _, hR2⟩, _⟩ := hargs
  refine ⟨envC [k34, k82, k83, k84] false [(52, 7)], 6, envC_ok (css_cons ⟨fun _ => k34_ok, fun h => (by cases h)⟩ (css_cons ⟨fun _ => k82_ok, fun h => (by cases h)⟩ (css_cons ⟨fun h => (by cases h), fun _ => k83_ok⟩ (css_cons ⟨fun _ => k84_ok, fun h => (by cases h)⟩ (css_nil))))), ?_⟩
  have H : Gives (g52 a0 a1 a2) (fun a => a = r) := ⟨r, hok, rfl⟩
  unfold g52 at H
  clear hok
  obtain ⟨v407, hv408, H⟩ := call_st H
  refine ⟨(a0, a1, a2, v407), ⟨hv408⟩, ⟨trivial⟩, ?_⟩
  refine And.intro ⟨rfl⟩ ?_
  refine And.intro ⟨rfl⟩ ?_
  refine And.intro ⟨rfl, hc2, (ec_len c58_len).trans (congrArg (· * 4) (show _ = _ from rfl)), hR2⟩ ?_
  refine if_st H (fun h410 H => ?_) (fun h410 H => ?_)
  · have hfin := fin_st H
    repeat (refine And.intro (Ob.mk (by first | (rw [← hfin] <;> first | exact rfl | exact Iff.rfl | exact ⟨rfl, rfl⟩ | exact decide_eq_true_iff | (constructor <;> first | rfl | simp [ei, eb, es, ec, c58]) | simp [ei, eb, es, ec, c58]) | first | exact rfl | exact Iff.rfl | exact ⟨rfl, rfl⟩ | exact decide_eq_true_iff | (constructor <;> first | rfl | simp [ei, eb, es, ec, c58]) | simp [ei, eb, es, ec, c58])) ?_)
    first | exact trivial | exact rfl
  · obtain ⟨v411, hv412, H⟩ := call_st H
    refine ⟨(a2, v411), ⟨hv412⟩, ⟨trivial⟩, ?_⟩
    refine And.intro ⟨rfl, hc2, (ec_len c58_len).trans (congrArg (· * 4) (show _ = _ from rfl)), hR2⟩ ?_
    refine R.cut_fam H 27 [9] [] (fun v450 => []) (fun v450 => [(12, .arr 4 1 (v450.length) (eb (v450)))]) [] 0 (fun H => ?_)
    refine And.intro ?_ ?_
    · refine R.loop_fam (bind_st H) [0, 1, 2, 9] [] (fun _ s452 => []) (fun _ s452 => [(12, .arr 4 1 (s452.length) (eb (s452)))]) 0 (fun n482 H => ?_)
      refine ⟨(n482, _), ⟨H⟩, ⟨trivial⟩, ?_⟩
      repeat (refine And.intro (Ob.mk (by first | exact rfl | exact Iff.rfl | exact ⟨rfl, rfl⟩ | exact decide_eq_true_iff | (constructor <;> first | rfl | simp [ei, eb, es, ec, c58]) | simp [ei, eb, es, ec, c58])) ?_)
      rintro ⟨m0, s452⟩ H _
      obtain ⟨m453, hm0, H⟩ := IG_succ H
      dsimp only at hm0
      subst hm0
      try dsimp only at H
      obtain ⟨v473, hv474, H⟩ := call_st H
      refine ⟨(a2, s452, v473), ⟨hv474⟩, ⟨trivial⟩, ?_⟩
      refine And.intro ⟨rfl, hc2, (ec_len c58_len).trans (congrArg (· * 4) (show _ = _ from rfl)), hR2⟩ ?_
      refine And.intro ⟨by first | rfl | (simp; done), by first | rfl | (simp [ei, eb, es, ec, c58]; done) | (simp only [ei, eb, es, ec, c58, List.map_append, List.nil_append, List.append_assoc]; rfl)⟩ ?_
      refine if_st H (fun h475 H => ?_) (fun h475 H => ?_)
      · obtain ⟨v476, hv477, H⟩ := call_st H
        refine ⟨(a1, a2, s452, v476), ⟨hv477⟩, ⟨trivial⟩, ?_⟩
        refine And.intro ⟨rfl⟩ ?_
        refine And.intro ⟨rfl, hc2, (ec_len c58_len).trans (congrArg (· * 4) (show _ = _ from rfl)), hR2⟩ ?_
        refine And.intro ⟨by first | rfl | (simp; done), by first | rfl | (simp [ei, eb, es, ec, c58]; done) | (simp only [ei, eb, es, ec, c58, List.map_append, List.nil_append, List.append_assoc]; rfl)⟩ ?_
        refine if_st H (fun h478 H => ?_) (fun h478 H => ?_)
        · obtain ⟨v479, hv480, H⟩ := call_st H
          refine ⟨(a2, s452, v479), ⟨hv480⟩, ⟨trivial⟩, ?_⟩
          refine And.intro ⟨rfl, hc2, (ec_len c58_len).trans (congrArg (· * 4) (show _ = _ from rfl)), hR2⟩ ?_
          refine And.intro ⟨by first | rfl | (simp; done), by first | rfl | (simp [ei, eb, es, ec, c58]; done) | (simp only [ei, eb, es, ec, c58, List.map_append, List.nil_append, List.append_assoc]; rfl)⟩ ?_
          refine ob_ck H fun h481 H => ?_
          refine And.intro ⟨by first | (have := tn h481; simp [ei, eb, es, ec, c58] at this ⊢; omega) | (have := tn h481; simp [ei, eb, es, ec, c58]; omega)⟩ ?_
          replace H := some_st H
          refine ⟨(m453, (s452.set v479.toNat false)), ⟨H, Nat.lt_succ_self _⟩, ⟨trivial⟩, ⟨rfl⟩, ?_⟩
          repeat (refine And.intro (Ob.mk (by first | exact rfl | exact Iff.rfl | exact ⟨rfl, rfl⟩ | exact decide_eq_true_iff | (constructor <;> first | rfl | simp [ei, eb, es, ec, c58]) | simp [ei, eb, es, ec, c58])) ?_)
          first | exact trivial | exact rfl
        · replace H := some_st H
          dsimp only [stp, sm] at H
          refine ⟨s452, ⟨H⟩, ⟨rfl⟩, ?_⟩
          repeat (refine And.intro (Ob.mk (by first | exact rfl | exact Iff.rfl | exact ⟨rfl, rfl⟩ | exact decide_eq_true_iff | (constructor <;> first | rfl | simp [ei, eb, es, ec, c58]) | simp [ei, eb, es, ec, c58])) ?_)
          first | exact trivial | exact rfl
      · replace H := some_st H
        dsimp only [stp, sm] at H
        refine ⟨s452, ⟨H⟩, ⟨rfl⟩, ?_⟩
        repeat (refine And.intro (Ob.mk (by first | exact rfl | exact Iff.rfl | exact ⟨rfl, rfl⟩ | exact decide_eq_true_iff | (constructor <;> first | rfl | simp [ei, eb, es, ec, c58]) | simp [ei, eb, es, ec, c58])) ?_)
        first | exact trivial | exact rfl
    · intro v450 H
      have hfin := fin_st H
      repeat (refine And.intro (Ob.mk (by first | (rw [← hfin] <;> first | exact rfl | exact Iff.rfl | exact ⟨rfl, rfl⟩ | exact decide_eq_true_iff | (constructor <;> first | rfl | simp [ei, eb, es, ec, c58]) | simp [ei, eb, es, ec, c58]) | first | exact rfl | exact Iff.rfl | exact ⟨rfl, rfl⟩ | exact decide_eq_true_iff | (constructor <;> first | rfl | simp [ei, eb, es, ec, c58]) | simp [ei, eb, es, ec, c58])) ?_)
      first | exact trivial | exact rfl
noncomputable def e52 (n : Nat) (a0 : Int) (a1 : Int) (a2 : List (Int × Int × Int × Int)) : Option (List Bool × Int) :=
  (e34 n a0 a1 a2).bind fun v407 =>
  if ¬ v407 = 0 then
    some (([] : List Bool), v407)
  else
    (
      (e83 n a2).bind fun v411 =>
      jn (α := _) (β := List Bool) (fun k451 =>
          (itN n (σ := List Bool) (ρ := List Bool) (fun s452 =>
              (e84 n a2 s452).bind fun v473 =>
              if 0 ≤ v473 then
                (
                  (e82 n a1 a2 s452).bind fun v476 =>
                  if a0 < v476 then
                    (
                      (e84 n a2 s452).bind fun v479 =>
                      ck (0 ≤ v479 ∧ v479 < ((s452.length : Nat) : Int)) <|
                      some (.go (s452.set v479.toNat false))
                    )
                  else
                    some (.out s452)
                )
              else
                some (.out s452)
            ) v411).bind fun o472 =>
            k451 o472
      ) (fun v450 =>
        some (v450, 0)
      )
    )
theorem e52_le (n : Nat) (a0 : Int) (a1 : Int) (a2 : List (Int × Int × Int × Int)) : Le (e52 n a0 a1 a2) (g52 a0 a1 a2) := by
  unfold e52 g52
  repeat' first | exact e34_le _ _ _ _ | exact e82_le _ _ _ _ | exact e83_le _ _ | exact e84_le _ _ _ | refine le_bind ?_ (fun _ => ?_) | refine le_ck ?_ | refine le_if ?_ ?_ | refine le_sm (fun _ => ?_) (fun _ => ?_) | refine le_jn (fun _ _ _ => ?_) (fun _ => ?_) | refine le_loop (fun _ => ?_) | with_reducible exact le_refl | apply_assumption

/-- placard/placardref16.next -/
noncomputable def g94 (a0 : List (Int × Int × Int × Int)) (a1 : List Bool) (a2 : List Int) : Option (Int) :=
  jn (α := _) (β := Int) (fun k668 =>
      (loopO (σ := Int × Int) (ρ := Int) (fun s669 =>
          if s669.2 < ((a0.length : Nat) : Int) then
            (
              jn (α := _) (β := Int) (fun k787 =>
                  ck (0 ≤ s669.2 ∧ s669.2 < ((a1.length : Nat) : Int)) <|
                  if ¬ ((a1.getD s669.2.toNat false) = true) then
                    k787 s669.1
                  else
                    (
                      ck (0 ≤ s669.2 ∧ s669.2 < ((a2.length : Nat) : Int)) <|
                      ck (0 ≤ s669.2 ∧ s669.2 < ((a0.length : Nat) : Int)) <|
                      if ((a0.getD s669.2.toNat default).2.1) ≤ (a2.getD s669.2.toNat 0) then
                        k787 s669.1
                      else
                        (
                          ck (0 ≤ s669.2 ∧ s669.2 < ((a0.length : Nat) : Int)) <|
                          if ((a0.getD s669.2.toNat default).2.2.1) = 0 then
                            k787 s669.1
                          else
                            (
                              if s669.1 < 0 then
                                k787 s669.2
                              else
                                (
                                  ck (0 ≤ s669.2 ∧ s669.2 < ((a2.length : Nat) : Int)) <|
                                  ck (0 ≤ s669.2 ∧ s669.2 < ((a0.length : Nat) : Int)) <|
                                  ck (inR .i64 ((a2.getD s669.2.toNat 0) - ((a0.getD s669.2.toNat default).1))) <|
                                  ck (inR .i64 (((a2.getD s669.2.toNat 0) - ((a0.getD s669.2.toNat default).1)) + 1)) <|
                                  ck (0 ≤ s669.1 ∧ s669.1 < ((a0.length : Nat) : Int)) <|
                                  ck (inR .i64 ((((a2.getD s669.2.toNat 0) - ((a0.getD s669.2.toNat default).1)) + 1) * ((a0.getD s669.1.toNat default).2.2.1))) <|
                                  ck (0 ≤ s669.1 ∧ s669.1 < ((a2.length : Nat) : Int)) <|
                                  ck (0 ≤ s669.1 ∧ s669.1 < ((a0.length : Nat) : Int)) <|
                                  ck (inR .i64 ((a2.getD s669.1.toNat 0) - ((a0.getD s669.1.toNat default).1))) <|
                                  ck (inR .i64 (((a2.getD s669.1.toNat 0) - ((a0.getD s669.1.toNat default).1)) + 1)) <|
                                  ck (0 ≤ s669.2 ∧ s669.2 < ((a0.length : Nat) : Int)) <|
                                  ck (inR .i64 ((((a2.getD s669.1.toNat 0) - ((a0.getD s669.1.toNat default).1)) + 1) * ((a0.getD s669.2.toNat default).2.2.1))) <|
                                  if ((((a2.getD s669.2.toNat 0) - ((a0.getD s669.2.toNat default).1)) + 1) * ((a0.getD s669.1.toNat default).2.2.1)) < ((((a2.getD s669.1.toNat 0) - ((a0.getD s669.1.toNat default).1)) + 1) * ((a0.getD s669.2.toNat default).2.2.1)) then
                                    k787 s669.2
                                  else
                                    k787 s669.1
                                )
                            )
                        )
                    )
              ) (fun v786 =>
                ck (inR .i64 (s669.2 + 1)) <|
                some (.go (v786, s669.2 + 1))
              )
            )
          else
            some (.out s669.1)
        ) ((-1), 0)).bind fun o763 =>
        k668 o763
  ) (fun v667 =>
    some v667
  )
noncomputable def k94 : Eng.CS := { f := 94, calm := true, more := 0, ι := (List (Int × Int × Int × Int)) × (List Bool) × (List Int) × Int, ok := fun i => g94 i.1 i.2.1 i.2.2.1 = some i.2.2.2, rds := fun _ => [], args := fun i => [.sl 4 i.1.length (ec c58 i.1), .sl 1 i.2.1.length (eb i.2.1), .sl 1 i.2.2.1.length (ei .i64 i.2.2.1)], res := fun i => .v (.int .i64 (i.2.2.2)) }
set_option maxRecDepth 8000 in
set_option maxHeartbeats 4000000 in
theorem k94_ok : CalmOk Try.prog k94 := by
  refine R.calmspec Try.func94 nm94 rfl ?_
  rintro ⟨a0, a1, a2, r⟩ hok q _ args hargs
  match args, hargs with
  | [_, _, _], hargs =>
  obtain ⟨⟨A0, cp0, rfl, hc0, _, hR0⟩, ⟨A1, cp1, rfl, hc1, _, hR1⟩, ⟨A2, cp2, rfl, hc2, _, hR2⟩, _⟩ := hargs
  refine ⟨envC [] false [(94, 4), (94, 8)], 6, envC_ok (css_nil), rfl, (by intro x hx; simp only [List.mem_cons, List.not_mem_nil, or_false] at hx; rcases hx with rfl | rfl | rfl <;> rfl), ?_⟩
  have H : Gives (g94 a0 a1 a2) (fun a => a = r) := ⟨r, hok, rfl⟩
  unfold g94 at H
  clear hok
  refine R.cut_fam H 9 [] [] (fun v667 => [(7, .v (.int .i64 (v667)))]) (fun v667 => []) [] 0 (fun H => ?_)
  refine And.intro ?_ ?_
  · refine R.loop_fam (bind_st H) [0, 1, 2] [] (fun _ s669 => [(7, .v (.int .i64 (s669.1))), (8, .v (.int .i64 (s669.2)))]) (fun _ s669 => []) 0 (fun n810 H => ?_)
    refine ⟨(n810, _), ⟨H⟩, ⟨trivial⟩, ?_⟩
    repeat (refine And.intro (Ob.mk (by first | exact rfl | exact Iff.rfl | exact ⟨rfl, rfl⟩ | exact decide_eq_true_iff | (constructor <;> first | rfl | simp [ei, eb, es, ec, c58]) | simp [ei, eb, es, ec, c58])) ?_)
    rintro ⟨m0, s669⟩ H _
    obtain ⟨m670, hm0, H⟩ := IG_succ H
    dsimp only at hm0
    subst hm0
    try dsimp only at H
    refine if_st H (fun h764 H => ?_) (fun h764 H => ?_)
    · refine R.cut_fam H 74 [0, 1, 2, 8] [] (fun v786 => [(7, .v (.int .i64 (v786)))]) (fun v786 => []) [] 0 (fun H => ?_)
      refine And.intro ?_ ?_
      · refine And.intro ⟨by kernel_rfl⟩ ?_
        refine ob_ix hR1 (fun h => eb0 h) H fun h788 H => ?_
        refine ld_bool (e := a1.getD s669.2.toNat false) (rd_get hR1 (eb_get (l := a1) (tn h788))) ?_
        refine if_st H (fun h789 H => ?_) (fun h789 H => ?_)
        · refine ⟨s669.1, ⟨H⟩, ⟨rfl⟩, ?_⟩
          repeat (refine And.intro (Ob.mk (by first | exact rfl | exact Iff.rfl | exact ⟨rfl, rfl⟩ | exact decide_eq_true_iff | (constructor <;> first | rfl | simp [ei, eb, es, ec, c58]) | simp [ei, eb, es, ec, c58])) ?_)
          first | exact trivial | exact rfl
        · refine ob_ix hR2 (fun h => ei0 h) H fun h790 H => ?_
          refine ld_int (e := a2.getD s669.2.toNat 0) (rd_get hR2 (ei_get (l := a2) (tn h790))) ?_
          refine ob_ix hR0 (fun h => ec0 c58_len (by decide) h) H fun h791 H => ?_
          refine ld_int (e := (a0.getD s669.2.toNat default).2.1) (rd_get hR0 ((ec_get (i := s669.2.toNat) (o := 1) c58_len (tn h791) (by decide)).trans rfl)) ?_
          refine if_st H (fun h792 H => ?_) (fun h792 H => ?_)
          · refine ⟨s669.1, ⟨H⟩, ⟨rfl⟩, ?_⟩
            repeat (refine And.intro (Ob.mk (by first | exact rfl | exact Iff.rfl | exact ⟨rfl, rfl⟩ | exact decide_eq_true_iff | (constructor <;> first | rfl | simp [ei, eb, es, ec, c58]) | simp [ei, eb, es, ec, c58])) ?_)
            first | exact trivial | exact rfl
          · refine ob_ix hR0 (fun h => ec0 c58_len (by decide) h) H fun h793 H => ?_
            refine ld_int (e := (a0.getD s669.2.toNat default).2.2.1) (rd_get hR0 ((ec_get (i := s669.2.toNat) (o := 2) c58_len (tn h793) (by decide)).trans rfl)) ?_
            refine if_st H (fun h794 H => ?_) (fun h794 H => ?_)
            · refine ⟨s669.1, ⟨H⟩, ⟨rfl⟩, ?_⟩
              repeat (refine And.intro (Ob.mk (by first | exact rfl | exact Iff.rfl | exact ⟨rfl, rfl⟩ | exact decide_eq_true_iff | (constructor <;> first | rfl | simp [ei, eb, es, ec, c58]) | simp [ei, eb, es, ec, c58])) ?_)
              first | exact trivial | exact rfl
            · refine And.intro ⟨by kernel_rfl⟩ ?_
              refine if_st H (fun h795 H => ?_) (fun h795 H => ?_)
              · refine ⟨s669.2, ⟨H⟩, ⟨rfl⟩, ?_⟩
                repeat (refine And.intro (Ob.mk (by first | exact rfl | exact Iff.rfl | exact ⟨rfl, rfl⟩ | exact decide_eq_true_iff | (constructor <;> first | rfl | simp [ei, eb, es, ec, c58]) | simp [ei, eb, es, ec, c58])) ?_)
                first | exact trivial | exact rfl
              · refine ob_ix hR2 (fun h => ei0 h) H fun h796 H => ?_
                refine ld_int (e := a2.getD s669.2.toNat 0) (rd_get hR2 (ei_get (l := a2) (tn h796))) ?_
                refine ob_ix hR0 (fun h => ec0 c58_len (by decide) h) H fun h797 H => ?_
                refine ld_int (e := (a0.getD s669.2.toNat default).1) (rd_get hR0 ((ec_get (i := s669.2.toNat) (o := 0) c58_len (tn h797) (by decide)).trans rfl)) ?_
                refine ob_ck H fun h798 H => ?_
                refine ob_ck H fun h799 H => ?_
                refine ob_ix hR0 (fun h => ec0 c58_len (by decide) h) H fun h800 H => ?_
                refine ld_int (e := (a0.getD s669.1.toNat default).2.2.1) (rd_get hR0 ((ec_get (i := s669.1.toNat) (o := 2) c58_len (tn h800) (by decide)).trans rfl)) ?_
                refine ob_ck H fun h801 H => ?_
                refine ob_ix hR2 (fun h => ei0 h) H fun h802 H => ?_
                refine ld_int (e := a2.getD s669.1.toNat 0) (rd_get hR2 (ei_get (l := a2) (tn h802))) ?_
                refine ob_ix hR0 (fun h => ec0 c58_len (by decide) h) H fun h803 H => ?_
                refine ld_int (e := (a0.getD s669.1.toNat default).1) (rd_get hR0 ((ec_get (i := s669.1.toNat) (o := 0) c58_len (tn h803) (by decide)).trans rfl)) ?_
                refine ob_ck H fun h804 H => ?_
                refine ob_ck H fun h805 H => ?_
                refine ob_ix hR0 (fun h => ec0 c58_len (by decide) h) H fun h806 H => ?_
                refine ld_int (e := (a0.getD s669.2.toNat default).2.2.1) (rd_get hR0 ((ec_get (i := s669.2.toNat) (o := 2) c58_len (tn h806) (by decide)).trans rfl)) ?_
                refine ob_ck H fun h807 H => ?_
                refine if_st H (fun h808 H => ?_) (fun h808 H => ?_)
                · refine ⟨s669.2, ⟨H⟩, ⟨rfl⟩, ?_⟩
                  repeat (refine And.intro (Ob.mk (by first | exact rfl | exact Iff.rfl | exact ⟨rfl, rfl⟩ | exact decide_eq_true_iff | (constructor <;> first | rfl | simp [ei, eb, es, ec, c58]) | simp [ei, eb, es, ec, c58])) ?_)
                  first | exact trivial | exact rfl
                · refine ⟨s669.1, ⟨H⟩, ⟨rfl⟩, ?_⟩
                  repeat (refine And.intro (Ob.mk (by first | exact rfl | exact Iff.rfl | exact ⟨rfl, rfl⟩ | exact decide_eq_true_iff | (constructor <;> first | rfl | simp [ei, eb, es, ec, c58]) | simp [ei, eb, es, ec, c58])) ?_)
                  first | exact trivial | exact rfl
      · intro v786 H
        refine ob_ck H fun h809 H => ?_
        replace H := some_st H
        refine ⟨(m670, (v786, s669.2 + 1)), ⟨H, Nat.lt_succ_self _⟩, ⟨trivial⟩, ⟨rfl⟩, ?_⟩
        repeat (refine And.intro (Ob.mk (by first | exact rfl | exact Iff.rfl | exact ⟨rfl, rfl⟩ | exact decide_eq_true_iff | (constructor <;> first | rfl | simp [ei, eb, es, ec, c58]) | simp [ei, eb, es, ec, c58])) ?_)
        first | exact trivial | exact rfl
    · replace H := some_st H
      dsimp only [stp, sm] at H
      refine ⟨s669.1, ⟨H⟩, ⟨rfl⟩, ?_⟩
      repeat (refine And.intro (Ob.mk (by first | exact rfl | exact Iff.rfl | exact ⟨rfl, rfl⟩ | exact decide_eq_true_iff | (constructor <;> first | rfl | simp [ei, eb, es, ec, c58]) | simp [ei, eb, es, ec, c58])) ?_)
      first | exact trivial | exact rfl
  · intro v667 H
    have hfin := fin_st H
    repeat (refine And.intro (Ob.mk (by first | (rw [← hfin] <;> first | exact rfl | exact Iff.rfl | exact ⟨rfl, rfl⟩ | exact decide_eq_true_iff | (constructor <;> first | rfl | simp [ei, eb, es, ec, c58]) | simp [ei, eb, es, ec, c58]) | first | exact rfl | exact Iff.rfl | exact ⟨rfl, rfl⟩ | exact decide_eq_true_iff | (constructor <;> first | rfl | simp [ei, eb, es, ec, c58]) | simp [ei, eb, es, ec, c58])) ?_)
    first | exact trivial | exact rfl
noncomputable def e94 (n : Nat) (a0 : List (Int × Int × Int × Int)) (a1 : List Bool) (a2 : List Int) : Option (Int) :=
  jn (α := _) (β := Int) (fun k668 =>
      (itN n (σ := Int × Int) (ρ := Int) (fun s669 =>
          if s669.2 < ((a0.length : Nat) : Int) then
            (
              jn (α := _) (β := Int) (fun k787 =>
                  ck (0 ≤ s669.2 ∧ s669.2 < ((a1.length : Nat) : Int)) <|
                  if ¬ ((a1.getD s669.2.toNat false) = true) then
                    k787 s669.1
                  else
                    (
                      ck (0 ≤ s669.2 ∧ s669.2 < ((a2.length : Nat) : Int)) <|
                      ck (0 ≤ s669.2 ∧ s669.2 < ((a0.length : Nat) : Int)) <|
                      if ((a0.getD s669.2.toNat default).2.1) ≤ (a2.getD s669.2.toNat 0) then
                        k787 s669.1
                      else
                        (
                          ck (0 ≤ s669.2 ∧ s669.2 < ((a0.length : Nat) : Int)) <|
                          if ((a0.getD s669.2.toNat default).2.2.1) = 0 then
                            k787 s669.1
                          else
                            (
                              if s669.1 < 0 then
                                k787 s669.2
                              else
                                (
                                  ck (0 ≤ s669.2 ∧ s669.2 < ((a2.length : Nat) : Int)) <|
                                  ck (0 ≤ s669.2 ∧ s669.2 < ((a0.length : Nat) : Int)) <|
                                  ck (inR .i64 ((a2.getD s669.2.toNat 0) - ((a0.getD s669.2.toNat default).1))) <|
                                  ck (inR .i64 (((a2.getD s669.2.toNat 0) - ((a0.getD s669.2.toNat default).1)) + 1)) <|
                                  ck (0 ≤ s669.1 ∧ s669.1 < ((a0.length : Nat) : Int)) <|
                                  ck (inR .i64 ((((a2.getD s669.2.toNat 0) - ((a0.getD s669.2.toNat default).1)) + 1) * ((a0.getD s669.1.toNat default).2.2.1))) <|
                                  ck (0 ≤ s669.1 ∧ s669.1 < ((a2.length : Nat) : Int)) <|
                                  ck (0 ≤ s669.1 ∧ s669.1 < ((a0.length : Nat) : Int)) <|
                                  ck (inR .i64 ((a2.getD s669.1.toNat 0) - ((a0.getD s669.1.toNat default).1))) <|
                                  ck (inR .i64 (((a2.getD s669.1.toNat 0) - ((a0.getD s669.1.toNat default).1)) + 1)) <|
                                  ck (0 ≤ s669.2 ∧ s669.2 < ((a0.length : Nat) : Int)) <|
                                  ck (inR .i64 ((((a2.getD s669.1.toNat 0) - ((a0.getD s669.1.toNat default).1)) + 1) * ((a0.getD s669.2.toNat default).2.2.1))) <|
                                  if ((((a2.getD s669.2.toNat 0) - ((a0.getD s669.2.toNat default).1)) + 1) * ((a0.getD s669.1.toNat default).2.2.1)) < ((((a2.getD s669.1.toNat 0) - ((a0.getD s669.1.toNat default).1)) + 1) * ((a0.getD s669.2.toNat default).2.2.1)) then
                                    k787 s669.2
                                  else
                                    k787 s669.1
                                )
                            )
                        )
                    )
              ) (fun v786 =>
                ck (inR .i64 (s669.2 + 1)) <|
                some (.go (v786, s669.2 + 1))
              )
            )
          else
            some (.out s669.1)
        ) ((-1), 0)).bind fun o763 =>
        k668 o763
  ) (fun v667 =>
    some v667
  )
theorem e94_le (n : Nat) (a0 : List (Int × Int × Int × Int)) (a1 : List Bool) (a2 : List Int) : Le (e94 n a0 a1 a2) (g94 a0 a1 a2) := by
  unfold e94 g94
  repeat' first | refine le_bind ?_ (fun _ => ?_) | refine le_ck ?_ | refine le_if ?_ ?_ | refine le_sm (fun _ => ?_) (fun _ => ?_) | refine le_jn (fun _ _ _ => ?_) (fun _ => ?_) | refine le_loop (fun _ => ?_) | with_reducible exact le_refl | apply_assumption

end Go.Proofs.Ytcnofjjiepcpjaa
